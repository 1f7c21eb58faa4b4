/- Cuts behind regions whose operations are guarded; regions that draw, over what has come behind a world; wraps; no condition. -/
import Derived.Test.YtfhilbhmkifepaaE3
namespace Go.Proofs.Ytfhilbhmkifepaa
open Go.RowKit

def mixW (ws : List Nat) (φ ψ : Fr) : Fr := fun t => bif ws.any (Nat.beq t) then ψ t else φ t
def agree (ws : List Nat) (φ φ' : Fr) : Prop := ∀ t, ws.any (Nat.beq t) = false → φ' t = φ t
theorem agree_refl (ws : List Nat) (φ : Fr) : agree ws φ φ := fun _ _ => rfl
theorem agree_upd {ws : List Nat} {φ φ' : Fr} {d : Nat} {v : Value} (hd : ws.any (Nat.beq d) = true) (h : agree ws φ φ') : agree ws φ (upd φ' d v) := fun t ht => by
  rw [upd_ne _ _ _ _ (fun e => by rw [e, hd] at ht; cases ht)]
  exact h t ht
theorem agree_mix {ws : List Nat} {φ φ' : Fr} (h : agree ws φ φ') : φ' = mixW ws φ φ' := by
  funext t
  unfold mixW
  cases hb : ws.any (Nat.beq t)
  · exact h t hb
  · rfl

section
variable {P : Program} {f : FuncId} {R : Ending → World → Prop} {k : List Item} {n : Nat} {φ : Fr} {ds : List Deferred} {w : World}

/-- The frame at a cut: what the region wrote is forgotten but for one slot. -/
def QC (n : Nat) (φ : Fr) (ds : List Deferred) (ws : List Nat) (d : Nat) (v : Value) (C : World → Prop) : Exit → Act → World → Prop
  | .normal, a, w => C w ∧ ∃ φ', a = mk n φ' ds ∧ agree ws φ φ' ∧ φ' d = v
  | _, _, _ => False
theorem cut_frame {ws : List Nat} {d : Nat} {v : Value} {φ' : Fr} (ha : agree ws φ φ') (hd : φ' d = v) : φ' = upd (mixW ws φ φ') d v := by
  funext t
  by_cases e : t = d
  · subst e; rw [upd_same, hd]
  · rw [upd_ne _ _ _ _ e]; exact congrFun (agree_mix ha) t
theorem run_cutW {id : Nat} {l : List Oper} (ws : List Nat) (d : Nat) (v : Value) (C : World → Prop) (h : SeqL P l.toArray (QC n φ ds ws d v C) l (mk n φ ds) w)
    (hk : ∀ ψ w', C w' → Run P f R k (mk n (upd (mixW ws φ ψ) d v) ds) w') : Run P f R (.code (.region id l.toArray false) :: k) (mk n φ ds) w := by
  refine run_region (wp_mono (wp_region_lit h.out) fun e a w' q => ?_)
  cases e with
  | normal =>
    obtain ⟨hC, φ', rfl, ha, hd⟩ := q
    rw [cut_frame ha hd]
    exact hk φ' w' hC
  | _ => exact q.elim
/-- A region that leaves the world; what stands behind it sees one slot. -/
theorem run_cut {id : Nat} {l : List Oper} (ws : List Nat) (d : Nat) (v : Value) (h : SeqL P l.toArray (QC n φ ds ws d v (fun w' => w' = w)) l (mk n φ ds) w)
    (hk : ∀ ψ, Run P f R k (mk n (upd (mixW ws φ ψ) d v) ds) w) : Run P f R (.code (.region id l.toArray false) :: k) (mk n φ ds) w :=
  run_cutW ws d v _ h (fun ψ w' hw => by subst hw; exact hk ψ)
/-- The same where its calls make memory. -/
theorem run_cutX {id : Nat} {l : List Oper} (ws : List Nat) (d : Nat) (v : Value) (h : SeqL P l.toArray (QC n φ ds ws d v (Ext w)) l (mk n φ ds) w)
    (hk : ∀ ψ w', Ext w w' → w.heap.size ≤ w'.heap.size → Run P f R k (mk n (upd (mixW ws φ ψ) d v) ds) w') : Run P f R (.code (.region id l.toArray false) :: k) (mk n φ ds) w :=
  run_cutW ws d v _ h (fun ψ w' hw => hk ψ w' hw hw.size)
theorem C_nil {ops : Array Oper} {φ' : Fr} {ws : List Nat} {d : Nat} {v : Value} {C : World → Prop} (hC : C w) (hd : φ' d = v)
    (ha : agree ws φ φ' := by (repeat (first | exact agree_refl _ _ | refine agree_upd rfl ?_))) : SeqL P ops (QC n φ ds ws d v C) [] (mk n φ' ds) w := by
  unfold SeqL; exact ⟨hC, φ', rfl, ha, hd⟩

/-- A region that draws; what had come by then is kept by whatever its operations do. -/
theorem run_plan_ext {id : Nat} {l : List Oper} (pl : List PE) (hm : P.follows .mixedOrders = true) (hB : (Region.noSelect l.toArray && planB l.toArray pl (Array.replicate l.toArray.size false) && planN pl == l.toArray.size) = true)
    (h : ∀ W, Ext w W → W.heap.size = w.heap.size → wpPlan P l.toArray (QN P f R k) (Ext W) pl (mk n φ ds) W) : Run P f R (.code (.region id l.toArray true) :: k) (mk n φ ds) w :=
  run_plan pl _ hm hB (h _ (ext_drew w) rfl)
/-- The same, blocks of M being written. -/
theorem run_plan_mod {id : Nat} {l : List Oper} (M : Nat → Prop) (pl : List PE) (hm : P.follows .mixedOrders = true) (hB : (Region.noSelect l.toArray && planB l.toArray pl (Array.replicate l.toArray.size false) && planN pl == l.toArray.size) = true)
    (h : ∀ W, Ext w W → W.heap.size = w.heap.size → wpPlan P l.toArray (QN P f R k) (Step M W) pl (mk n φ ds) W) : Run P f R (.code (.region id l.toArray true) :: k) (mk n φ ds) w :=
  run_plan pl _ hm hB (h _ (ext_drew w) rfl)
theorem run_plan_cut {id : Nat} {l : List Oper} (ws : List Nat) (d : Nat) (v : Value) (pl : List PE) (hm : P.follows .mixedOrders = true) (hB : (Region.noSelect l.toArray && planB l.toArray pl (Array.replicate l.toArray.size false) && planN pl == l.toArray.size) = true)
    (h : ∀ W, Ext w W → W.heap.size = w.heap.size → wpPlan P l.toArray (QC n φ ds ws d v (Ext W)) (Ext W) pl (mk n φ ds) W)
    (hk : ∀ ψ w', Ext w w' → Run P f R k (mk n (upd (mixW ws φ ψ) d v) ds) w') : Run P f R (.code (.region id l.toArray true) :: k) (mk n φ ds) w := by
  simp only [Bool.and_eq_true, beq_iff_eq] at hB
  refine run_region (wp_mono (wp_region_held (S := Ext { w with drawn := w.drawn + 1 }) (Q := QC n φ ds ws d v (Ext { w with drawn := w.drawn + 1 })) hm ?_) fun e a w' q => ?_)
  · have := wpAnyH_of_plan (P := P) (Q := QC n φ ds ws d v (Ext { w with drawn := w.drawn + 1 })) (S := Ext { w with drawn := w.drawn + 1 }) (fun _ _ _ _ _ h => h) hB.1.1 pl _ _ _ hB.1.2 (h _ (ext_drew w) rfl)
    rwa [hB.2] at this
  · cases e with
    | normal =>
      obtain ⟨hC, φ', rfl, ha, hd⟩ := q
      rw [cut_frame ha hd]
      exact hk φ' w' ((ext_drew w).trans hC)
    | _ => exact q.elim
theorem PC_nil {ops : Array Oper} {φ' : Fr} {ws : List Nat} {d : Nat} {v : Value} {C S : World → Prop} (hC : C w) (hd : φ' d = v)
    (ha : agree ws φ φ' := by (repeat (first | exact agree_refl _ _ | refine agree_upd rfl ?_))) : wpPlan P ops (QC n φ ds ws d v C) S [] (mk n φ' ds) w := by
  rw [wpPlan_nil]; exact ⟨hC, φ', rfl, ha, hd⟩
end

/-! ### Loops -/
def putS (φ : Fr) : List (Nat × Value) → Fr
  | [] => φ
  | (t, v) :: l => upd (putS φ l) t v
def SE (φ : Fr) : List (Nat × Value) → Prop
  | [] => True
  | (t, v) :: l => φ t = v ∧ SE φ l
theorem agree_putS {ws : List Nat} {φ φ' : Fr} : ∀ {l : List (Nat × Value)}, (l.all fun p => ws.any (Nat.beq p.1)) = true → agree ws φ φ' → agree ws φ (putS φ' l)
  | [], _, h => h
  | (t, v) :: l, hl, h => by
    simp only [List.all_cons, Bool.and_eq_true] at hl
    exact agree_upd hl.1 (agree_putS hl.2 h)
theorem agree_mixW (ws : List Nat) (φ ψ : Fr) : agree ws φ (mixW ws φ ψ) := fun t ht => by
  unfold mixW
  rw [ht]; rfl
theorem agree_mixIn {ws ws' : List Nat} {φ φ' ψ : Fr} (hs : (ws'.all fun t => ws.any (Nat.beq t)) = true) (h : agree ws φ φ') : agree ws φ (mixW ws' φ' ψ) := fun t ht => by
  unfold mixW
  cases hb : ws'.any (Nat.beq t)
  · exact h t ht
  · exfalso
    obtain ⟨x, hx, he⟩ := List.any_eq_true.1 hb
    have := List.all_eq_true.1 hs x hx
    rw [← Nat.eq_of_beq_eq_true he, ht] at this
    cases this
theorem upd_self {φ : Fr} {t : Nat} {v : Value} (h : φ t = v) : upd φ t v = φ := by
  funext x
  by_cases e : x = t
  · subst e; rw [upd_same, h]
  · rw [upd_ne _ _ _ _ e]
theorem putS_self {φ : Fr} : ∀ {l : List (Nat × Value)}, SE φ l → putS φ l = φ
  | [], _ => rfl
  | (t, v) :: l, h => by
    show upd (putS φ l) t v = φ
    rw [putS_self h.2, upd_self h.1]
theorem loop_frame {ws : List Nat} {φ φ' : Fr} {l : List (Nat × Value)} (ha : agree ws φ φ') (hs : SE φ' l) : φ' = putS (mixW ws φ φ') l := by
  rw [← agree_mix ha, putS_self hs]
section
variable {P : Program} {f : FuncId} {R : Ending → World → Prop} {k : List Item} {n : Nat} {φ : Fr} {ds : List Deferred} {w : World}
/-- A loop: what its slots hold is told by a state s; what its rounds write besides is forgotten at its head. -/
theorem run_loopI {c : Code} {σ : Type} (ws : List Nat) (V : σ → List (Nat × Value)) (I : σ → World → Prop) (μ : σ → Nat) (s0 : σ) (h0 : I s0 w) (hφ : SE φ (V s0))
    (round : ∀ s w' ψ, I s w' → (∀ s' w'' φ', I s' w'' → SE φ' (V s') → μ s' < μ s → agree ws φ φ' → Run P f R (.inLoop c :: k) (mk n φ' ds) w'') → Run P f R (.code c :: .inLoop c :: k) (mk n (putS (mixW ws φ ψ) (V s)) ds) w') :
    Run P f R (.code (.loop c) :: k) (mk n φ ds) w := by
  have key : ∀ m s w' φ', μ s = m → I s w' → SE φ' (V s) → agree ws φ φ' → Run P f R (.code c :: .inLoop c :: k) (mk n φ' ds) w' := by
    intro m
    induction m using Nat.strongRecOn with
    | _ m ihm =>
      intro s w' φ' hm hI hs ha
      rw [loop_frame ha hs]
      refine round s w' φ' hI fun s' w'' φ'' hI' hs' hlt ha' => run_inLoop ?_
      exact ihm (μ s') (hm ▸ hlt) s' w'' φ'' rfl hI' hs' ha'
  exact run_loop (key _ s0 w φ rfl h0 hφ (agree_refl _ _))
end
theorem bv {x : Value} {b c : Bool} (h : x = .bool b) (hb : b = c) : x = .bool c := by rw [h, hb]

/-! ### Facts carried on -/
theorem Blk.mod {b' : Nat} {w w' : World} (s : Mod b' w w') {b : Nat} {l : List Value} {t : TypeId} (hne : b ≠ b') (h : Blk w b l t) : Blk w' b l t := h.step s hne
theorem Mod.cell {b' b o : Nat} {w w' : World} (s : Mod b' w w') {v : Value} (hne : b ≠ b') (h : w.cell? ⟨b, o, none⟩ = some v) : w'.cell? ⟨b, o, none⟩ = some v := Step.cell s h hne
theorem cellB {w : World} {b o : Nat} {l : List Value} {t : TypeId} {v : Value} (h : Blk w b l t) (hv : l[o]? = some v) : w.cell? ⟨b, o, none⟩ = some v := h.cell hv
/-- A cell that is read: a fact on it, or on its block, carried on through the worlds. -/
theorem ld {P : Program} {ρ : Operand → Value} {w : World} {d : Option Tmp} {ty : TypeId} {pos : String} {af : Array Edge} {g : Option (Nat × Bool)} {x : Operand} {a : Addr} {t : TypeId} {v : Value} (ha : ∀ w, (isAgg t).run P w = .ok false w) (hx : ρ x = .pointer (some a))
    (hc : w.cell? a = some v := by
      first
        | ((repeat (first | assumption | (apply Ext.cell; (· assumption)) | (apply Mod.cell; (· assumption); (· first | assumption | omega)))); done)
        | (apply cellB; (· repeat (first | assumption | (apply Blk.ext; (· assumption)) | (apply Blk.mod; (· assumption); (· first | assumption | omega)))); (· rfl))) :
    (execOp ρ ⟨d, .load t x, ty, pos, af, g⟩).run P w = .ok (.value v) w := X_load ha hx hc
/-- The same in whatever world of the class that has come behind w. -/
theorem ldx {P : Program} {ρ : Operand → Value} {w w' : World} {d : Option Tmp} {ty : TypeId} {pos : String} {af : Array Edge} {g : Option (Nat × Bool)} {x : Operand} {a : Addr} {t : TypeId} {v : Value} (s : Ext w w') (ha : ∀ w, (isAgg t).run P w = .ok false w) (hx : ρ x = .pointer (some a))
    (hc : w.cell? a = some v := by
      first
        | ((repeat (first | assumption | (apply Ext.cell; (· assumption)) | (apply Mod.cell; (· assumption); (· first | assumption | omega)))); done)
        | (apply cellB; (· repeat (first | assumption | (apply Blk.ext; (· assumption)) | (apply Blk.mod; (· assumption); (· first | assumption | omega)))); (· rfl))) :
    (execOp ρ ⟨d, .load t x, ty, pos, af, g⟩).run P w' = .ok (.value v) w' := X_load ha hx (s.cell hc)
theorem Ext.trans {a b c : World} (h : Ext a b) (k : Ext b c) : Ext a c := Step.trans h k
/-- Two steps, of which the second turned only what came behind the first world. -/
theorem Ext.mod {a b c : World} {B : Nat} (h : Ext a b) (k : Mod B b c) (hB : a.heap.size ≤ B) : Ext a c := Step.tail h k (fun i hi => by omega)

section
variable {P : Program} {f : FuncId} {R : Ending → World → Prop} {k : List Item} {n : Nat} {φ : Fr} {ds : List Deferred} {w : World} {ops : Array Oper} {Q : Exit → Act → World → Prop} {rest : List Oper} {d : Option Tmp} {ty : TypeId} {pos : String} {af : Array Edge}
/-- Stores, the block's fact being looked for. -/
theorem st {t : TypeId} {x y : Operand} {b o : Nat} {v u : Value} {l : List Value} {bt : TypeId} (hz : ∀ w, (sizeOf t).run P w = .ok 1 w) (hx : ev n φ x = .pointer (some ⟨b, o, none⟩)) (hy : ev n φ y = v)
    (h : ∀ W, Mod b w W → W.heap.size = w.heap.size → Blk W b (l.set o v) bt → SeqL P ops Q rest (mk n (putF φ d undef) ds) W)
    (hb : Blk w b l bt := by (repeat (first | assumption | (apply Blk.ext; (· assumption)) | (apply Blk.mod; (· assumption); (· first | assumption | omega))))) (hu : l[o]? = some u := by rfl) (h1 : v.oneCell' = true := by rfl) : SeqL P ops Q (⟨d, .store t x y, ty, pos, af, none⟩ :: rest) (mk n φ ds) w :=
  S_store hz hx hy h1 hb hu h
theorem sta {t : TypeId} {x y : Operand} {b o : Nat} {l vs : List Value} {bt : TypeId} (hx : ev n φ x = .pointer (some ⟨b, o, none⟩)) (hy : ev n φ y = .agg vs.toArray) (hz : ∀ w, (sizeOf t).run P w = .ok vs.length w)
    (h : ∀ W, Mod b w W → W.heap.size = w.heap.size → Blk W b (patch l o vs) bt → SeqL P ops Q rest (mk n (putF φ d undef) ds) W)
    (hb : Blk w b l bt := by (repeat (first | assumption | (apply Blk.ext; (· assumption)) | (apply Blk.mod; (· assumption); (· first | assumption | omega)))))
    (hl : o + vs.length ≤ l.length := by decide) (h1 : vs.all Value.oneCell' = true := by rfl) : SeqL P ops Q (⟨d, .store t x y, ty, pos, af, none⟩ :: rest) (mk n φ ds) w :=
  S_storeAgg hz hx hy (List.all_eq_true.1 h1) hb hl h
end

theorem Ext.back {a b c : World} (k : Ext b c) (h : Ext a b) : Ext a c := h.trans k
theorem Ext.backm {a b c : World} {B : Nat} (k : Mod B b c) (hB : a.heap.size ≤ B) (h : Ext a b) : Ext a c := h.mod k hB
/-- All that has been done since a world turned nothing of it. -/
theorem xt {a c : World} (h : Ext a c := by (repeat (first | assumption | exact Step.refl _ _ | (apply Ext.back; (· assumption)) | (apply Ext.backm; (· assumption); (· omega))))) : Ext a c := h

/-- A result that is a struct in a block. -/
theorem rvb {P : Program} {n : Nat} {φ : Fr} {w : World} {a : Tmp} {t : TypeId} {b : Nat} {vs : List Value} {ty : TypeId} (hx : ev n φ (.tmp a) = .pointer (some ⟨b, 0, none⟩)) (ha : ∀ w, (isAgg t).run P w = .ok true w) (vs' : List Value) (hz : ∀ w, (sizeOf t).run P w = .ok vs'.length w)
    (hb : Blk w b vs ty := by (repeat (first | assumption | (apply Blk.ext; (· assumption)) | (apply Blk.mod; (· assumption); (· first | assumption | omega))))) (he : vs = vs' := by rfl) : RV P n φ w (.cell a t) (.agg vs'.toArray) := by
  subst he; exact rv_cell ha hz hx hb

/-! ### Wraps -/
theorem wr64 {a : Int} (h : -9223372036854775808 ≤ a ∧ a ≤ 9223372036854775807) : IntKind.i64.wrap a = a := IntWalk.i64_in a h
theorem wrap_u8 {a : Int} (h : 0 ≤ a ∧ a ≤ 255) : IntKind.u8.wrap a = a := by
  simp [IntKind.wrap, IntKind.bits, IntKind.signed]; omega
theorem wrap_u32 {a : Int} (h : 0 ≤ a ∧ a ≤ 4294967295) : IntKind.u32.wrap a = a := by
  simp [IntKind.wrap, IntKind.bits, IntKind.signed]; omega
theorem wrap_u64 {a : Int} (h : 0 ≤ a ∧ a ≤ 18446744073709551615) : IntKind.u64.wrap a = a := by
  simp [IntKind.wrap, IntKind.bits, IntKind.signed]; omega
theorem wrap_i8 {a : Int} (h : -128 ≤ a ∧ a ≤ 127) : IntKind.i8.wrap a = a := by
  simp [IntKind.wrap, IntKind.bits, IntKind.signed]; omega
theorem wrap_i32 {a : Int} (h : -2147483648 ≤ a ∧ a ≤ 2147483647) : IntKind.i32.wrap a = a := by
  simp [IntKind.wrap, IntKind.bits, IntKind.signed]; omega
end Go.Proofs.Ytfhilbhmkifepaa
