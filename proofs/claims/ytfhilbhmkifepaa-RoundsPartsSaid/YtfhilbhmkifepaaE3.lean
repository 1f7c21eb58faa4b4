/- Steps of a walk: a region's operations in the text's order and by a plan; results that lie in cells; no condition. -/
import Derived.Test.YtfhilbhmkifepaaE2
namespace Go.Proofs.Ytfhilbhmkifepaa
open Go.RowKit

section
variable {P : Program} {f : FuncId} {R : Ending → World → Prop} {k : List Item} {n : Nat} {φ : Fr} {ds : List Deferred} {w : World}

/-- One result. -/
def RV (P : Program) (n : Nat) (φ : Fr) (w : World) : ResultVar → Value → Prop
  | .tmp t, v => ev n φ (.tmp t) = v
  | .cell a t, v => ∃ ad, ev n φ (.tmp a) = .pointer (some ad) ∧ (loadVar t ad).run P w = .ok v w
theorem rv_cell {a : Tmp} {t : TypeId} {b : Nat} {vs : List Value} (ha : ∀ w, (isAgg t).run P w = .ok true w) (hz : ∀ w, (sizeOf t).run P w = .ok vs.length w) (hx : ev n φ (.tmp a) = .pointer (some ⟨b, 0, none⟩)) {ty : TypeId} (hb : Blk w b vs ty) : RV P n φ w (.cell a t) (.agg vs.toArray) := by
  refine ⟨_, hx, ?_⟩
  have := run_loadCellsFrom (P := P) (w := w) (b := b) (o := 0) vs 0 #[] (fun j v hv => by simpa using hb.cell hv)
  simp [loadVar, ha, hz, loadCells, this]
theorem rv_cell1 {a : Tmp} {t : TypeId} {ad : Addr} {v : Value} (ha : ∀ w, (isAgg t).run P w = .ok false w) (hx : ev n φ (.tmp a) = .pointer (some ad)) (hc : w.cell? ad = some v) : RV P n φ w (.cell a t) v := by
  refine ⟨_, hx, ?_⟩
  simp [loadVar, ha, hc]
def rvSem (tm : Array Value) : ResultVar → Sem Value
  | .tmp t => pure (tm.getD t undef)
  | .cell a t => do loadVar t (← asAddr (tm.getD a undef))
theorem results_eq (fn : Func) (tm : Array Value) : results fn tm = (do let vs ← fn.results.mapM (rvSem tm); pure (if h : vs.size = 1 then vs[0] else .tuple vs)) := by
  have : (fun r => match r with | .tmp t => pure (tm.getD t undef) | .cell a t => do loadVar t (← asAddr (tm.getD a undef)) : ResultVar → Sem Value) = rvSem tm := by
    funext r; cases r <;> rfl
  rw [← this]; rfl
theorem rv_run {r : ResultVar} {v : Value} (h : RV P n φ w r v) : (rvSem (mk n φ ds).tmps r).run P w = .ok v w := by
  cases r with
  | tmp t => simp only [RV] at h; simp only [rvSem, mk_getD, h]; rfl
  | cell a t =>
    obtain ⟨ad, h1, h2⟩ := h
    simp only [rvSem, mk_getD, h1]
    simp [asAddr, h2]
theorem rs1 {fn : Func} {r : ResultVar} {v : Value} (h : fn.results = #[r]) (h1 : RV P n φ w r v) : (results fn (mk n φ ds).tmps).run P w = .ok v w := by
  rw [results_eq, h]
  simp [rv_run (ds := ds) h1]
theorem rs2 {fn : Func} {r s : ResultVar} {v x : Value} (h : fn.results = #[r, s]) (h1 : RV P n φ w r v) (h2 : RV P n φ w s x) : (results fn (mk n φ ds).tmps).run P w = .ok (.tuple #[v, x]) w := by
  rw [results_eq, h]
  simp [rv_run (ds := ds) h1, rv_run (ds := ds) h2]
theorem rs3 {fn : Func} {r s t : ResultVar} {v x y : Value} (h : fn.results = #[r, s, t]) (h1 : RV P n φ w r v) (h2 : RV P n φ w s x) (h3 : RV P n φ w t y) : (results fn (mk n φ ds).tmps).run P w = .ok (.tuple #[v, x, y]) w := by
  rw [results_eq, h]
  simp [rv_run (ds := ds) h1, rv_run (ds := ds) h2, rv_run (ds := ds) h3]
theorem rs4 {fn : Func} {r s t u : ResultVar} {v x y z : Value} (h : fn.results = #[r, s, t, u]) (h1 : RV P n φ w r v) (h2 : RV P n φ w s x) (h3 : RV P n φ w t y) (h4 : RV P n φ w u z) : (results fn (mk n φ ds).tmps).run P w = .ok (.tuple #[v, x, y, z]) w := by
  rw [results_eq, h]
  simp [rv_run (ds := ds) h1, rv_run (ds := ds) h2, rv_run (ds := ds) h3, rv_run (ds := ds) h4]

section seq
variable {ops : Array Oper} {Q : Exit → Act → World → Prop} {rest : List Oper} {w' : World} {d : Option Tmp} {op : Op} {ty : TypeId} {pos : String} {af : Array Edge} {g : Option (Nat × Bool)} {v : Value}

/-- A new variable: its block, its world. -/
theorem S_alloc {t : TypeId} {z : Value} {zs : List Value} (hz : ∀ w, (zeroValue t).run P w = .ok z w) (hzs : z.cells = zs.toArray)
    (h : ∀ b W, b = w.heap.size → Ext w W → W.heap.size = b + 1 → Blk W b zs t → SeqL P ops Q rest (mk n (putF φ d (.pointer (some ⟨b, 0, none⟩))) ds) W) : SeqL P ops Q (⟨d, .alloc t, ty, pos, af, none⟩ :: rest) (mk n φ ds) w :=
  S_val (X_alloc hz) (h _ _ rfl (ext_alloc _ _) (by simp) (by rw [hzs]; exact blk_alloc _ _ _))
theorem S_box {t : TypeId} {x : Operand} {v : Value} {vs : List Value} (hx : ev n φ x = v) (hvs : v.cells = vs.toArray)
    (h : ∀ b W, b = w.heap.size → Ext w W → W.heap.size = b + 1 → Blk W b vs t → SeqL P ops Q rest (mk n (putF φ d (.pointer (some ⟨b, 0, none⟩))) ds) W) : SeqL P ops Q (⟨d, .box t x, ty, pos, af, none⟩ :: rest) (mk n φ ds) w :=
  S_val (X_box hx) (h _ _ rfl (ext_alloc _ _) (by simp) (by rw [hvs]; exact blk_alloc _ _ _))
/-- A store of one cell into a block of the call's own. -/
theorem S_store {t : TypeId} {x y : Operand} {b o : Nat} {v u : Value} {l : List Value} {bt : TypeId} (hz : ∀ w, (sizeOf t).run P w = .ok 1 w) (hx : ev n φ x = .pointer (some ⟨b, o, none⟩)) (hy : ev n φ y = v) (h1 : v.oneCell' = true) (hb : Blk w b l bt) (hu : l[o]? = some u)
    (h : ∀ W, Mod b w W → W.heap.size = w.heap.size → Blk W b (l.set o v) bt → SeqL P ops Q rest (mk n (putF φ d undef) ds) W) : SeqL P ops Q (⟨d, .store t x y, ty, pos, af, none⟩ :: rest) (mk n φ ds) w := by
  have hs := blk_setCell hb o v
  exact S_skip (X_store hz hx hy h1 (hb.cell hu) (hb.unfrozen o)) (h _ hs.2 (by simp [World.setCell]) hs.1)
end seq

/-! ### A whole struct or array stored -/
def patch (l : List Value) (o : Nat) (vs : List Value) : List Value := l.take o ++ vs ++ l.drop (o + vs.length)
theorem patch_len (l : List Value) (o : Nat) (vs : List Value) (h : o + vs.length ≤ l.length) : (patch l o vs).length = l.length := by
  simp [patch]; omega
theorem patch_all (l vs : List Value) (h : l.length = vs.length) : patch l 0 vs = vs := by
  simp [patch, ← h]
theorem patch_nil (l : List Value) (o : Nat) : patch l o [] = l := by simp [patch]
theorem patch_cons (l : List Value) (o : Nat) (v : Value) (vs : List Value) (h : o < l.length) : patch (l.set o v) (o + 1) vs = patch l o (v :: vs) := by
  unfold patch
  have h1 : (l.set o v).take (o + 1) = l.take o ++ [v] := by
    rw [List.take_succ_eq_append_getElem (by simpa using h)]
    have : (l.take o).set o v = l.take o := List.set_eq_of_length_le (by simp; omega)
    simp [List.take_set, this]
  have h2 : (l.set o v).drop (o + 1 + vs.length) = l.drop (o + (v :: vs).length) := by
    rw [List.drop_set_of_lt (by omega)]
    congr 1
    simp; omega
  rw [h1, h2]
  simp
theorem run_storeCells {b : Nat} {bt : TypeId} : ∀ (vs : List Value) (a i : Nat) (l : List Value) (w : World), (∀ v ∈ vs, v.oneCell' = true) → Blk w b l bt → a + i + vs.length ≤ l.length →
    ∃ W, (storeCells ⟨b, a, none⟩ vs i).run P w = .ok () W ∧ Mod b w W ∧ W.heap.size = w.heap.size ∧ Blk W b (patch l (a + i) vs) bt
  | [], a, i, l, w, _, hb, _ => ⟨w, by simp [storeCells], Step.refl _ _, rfl, by rw [patch_nil]; exact hb⟩
  | v :: vs, a, i, l, w, h1, hb, hl => by
    simp only [List.length_cons] at hl
    have hv : v.oneCell' = true := h1 v (by simp)
    have hlt : a + i < l.length := by omega
    have hs := blk_setCell hb (a + i) v
    obtain ⟨W, hr, hm, hsz, hB⟩ := run_storeCells vs a (i + 1) _ _ (fun u hu => h1 u (by simp [hu])) hs.1 (by simp; omega)
    refine ⟨W, ?_, hs.2.trans hm, by rw [hsz]; simp [World.setCell], ?_⟩
    · simp only [storeCells, Addr.add_lit]
      have hst : (store (⟨b, a + i, none⟩ : Addr) v).run P w = .ok () (w.setCell ⟨b, a + i, none⟩ v) := by
        rw [run_store P _ _ _ _ hv, hb.cell (List.getElem?_eq_getElem hlt), hb.unfrozen]; rfl
      simp [hst, hr]
    · rw [show a + (i + 1) = a + i + 1 by omega, patch_cons _ _ _ _ hlt] at hB
      exact hB
theorem X_storeAgg {ρ : Operand → Value} {d : Option Tmp} {ty : TypeId} {pos : String} {af : Array Edge} {g : Option (Nat × Bool)} {t : TypeId} {x y : Operand} {b o : Nat} {l vs : List Value} {bt : TypeId} (hz : ∀ w, (sizeOf t).run P w = .ok vs.length w) (hx : ρ x = .pointer (some ⟨b, o, none⟩)) (hy : ρ y = .agg vs.toArray) (h1 : ∀ v ∈ vs, v.oneCell' = true)
    (hb : Blk w b l bt) (hl : o + vs.length ≤ l.length) : ∃ W, (execOp ρ ⟨d, .store t x y, ty, pos, af, g⟩).run P w = .ok .skip W ∧ Mod b w W ∧ W.heap.size = w.heap.size ∧ Blk W b (patch l o vs) bt := by
  obtain ⟨W, hr, rest⟩ := run_storeCells (P := P) vs o 0 l w h1 hb (by simpa using hl)
  refine ⟨W, ?_, by simpa using rest⟩
  simp [execOp, hx, hy, Instr.storeAt, Instr.sureAddr, storeVar, Value.cells, hz, hr]
theorem S_storeAgg {ops : Array Oper} {Q : Exit → Act → World → Prop} {rest : List Oper} {d : Option Tmp} {ty : TypeId} {pos : String} {af : Array Edge} {t : TypeId} {x y : Operand} {b o : Nat} {l vs : List Value} {bt : TypeId} (hz : ∀ w, (sizeOf t).run P w = .ok vs.length w) (hx : ev n φ x = .pointer (some ⟨b, o, none⟩)) (hy : ev n φ y = .agg vs.toArray) (h1 : ∀ v ∈ vs, v.oneCell' = true)
    (hb : Blk w b l bt) (hl : o + vs.length ≤ l.length)
    (h : ∀ W, Mod b w W → W.heap.size = w.heap.size → Blk W b (patch l o vs) bt → SeqL P ops Q rest (mk n (putF φ d undef) ds) W) : SeqL P ops Q (⟨d, .store t x y, ty, pos, af, none⟩ :: rest) (mk n φ ds) w := by
  obtain ⟨W, hr, hm, hs, hB⟩ := X_storeAgg (P := P) (ρ := ev n φ) (d := d) (ty := ty) (pos := pos) (af := af) (g := none) hz hx hy h1 hb hl
  exact S_skip hr (h W hm hs hB)

section plan
variable {ops : Array Oper} {Q : Exit → Act → World → Prop} {S : World → Prop} {l : List PE} {i : Nat} {w' : World} {d : Option Tmp} {op : Op} {ty : TypeId} {pos : String} {af : Array Edge} {v : Value}

theorem P_nil (h : Run P f R k (mk n φ ds) w) : wpPlan P ops (QN P f R k) S [] (mk n φ ds) w := by
  rw [wpPlan_nil]; exact h
theorem P_val {L : List Oper} (ho' : L[i]? = some ⟨d, op, ty, pos, af, none⟩) (hS : S w) (hx : ∀ w', S w' → (execOp (ev n φ) ⟨d, op, ty, pos, af, none⟩).run P w' = .ok (.value v) w') (h : wpPlan P L.toArray Q S l (mk n (putF φ d v) ds) w) : wpPlan P L.toArray Q S (.held i :: l) (mk n φ ds) w := by
  have ho := lat ho'
  rw [wpPlan_held]
  refine ⟨_, v, ho, .inl ⟨rfl, fun w' hw' => ?_⟩, hS, ?_⟩
  · rw [mk_eval]; exact hx w' hw'
  · rw [mk_put]; exact h
theorem P_val_g {L : List Oper} {dg gi : Nat} {want b : Bool} (ho' : L[i]? = some ⟨d, op, ty, pos, af, some (gi, want)⟩) (hS : S w) (hgo' : (L[gi]?).bind (·.dst) = some dg) (hd : Nat.blt dg n = true) (hv : φ dg = .bool b) (hb : b = want)
    (hx : ∀ w', S w' → (execOp (ev n φ) ⟨d, op, ty, pos, af, some (gi, want)⟩).run P w' = .ok (.value v) w') (h : wpPlan P L.toArray Q S l (mk n (putF φ d v) ds) w) : wpPlan P L.toArray Q S (.held i :: l) (mk n φ ds) w := by
  have ho := lat ho'
  have hgo := lget hgo'
  rw [wpPlan_held]
  refine ⟨_, v, ho, .inl ⟨by rw [wanted_of hgo hd hv, hb]; simp, fun w' hw' => ?_⟩, hS, ?_⟩
  · rw [mk_eval]; exact hx w' hw'
  · rw [mk_put]; exact h
theorem P_skip_g {L : List Oper} {dg gi : Nat} {want b : Bool} (ho' : L[i]? = some ⟨d, op, ty, pos, af, some (gi, want)⟩) (hS : S w) (hgo' : (L[gi]?).bind (·.dst) = some dg) (hd : Nat.blt dg n = true) (hv : φ dg = .bool b) (hb : b = !want)
    (h : wpPlan P L.toArray Q S l (mk n (putF φ d undef) ds) w) : wpPlan P L.toArray Q S (.held i :: l) (mk n φ ds) w := by
  have ho := lat ho'
  have hgo := lget hgo'
  rw [wpPlan_held]
  refine ⟨_, undef, ho, .inr ⟨by rw [wanted_of hgo hd hv, hb]; cases want <;> simp, rfl⟩, hS, ?_⟩
  rw [mk_put]; exact h
theorem E_val {L : List Oper} (ho' : L[i]? = some ⟨d, op, ty, pos, af, none⟩) (hx : (execOp (ev n φ) ⟨d, op, ty, pos, af, none⟩).run P w = .ok (.value v) w') (hS : S w') (h : wpPlan P L.toArray Q S l (mk n (putF φ d v) ds) w') : wpPlan P L.toArray Q S (.eff i :: l) (mk n φ ds) w := by
  have ho := lat ho'
  rw [wpPlan_eff]
  simp only [wpOp, ho, Region.wanted, if_true]
  refine .inl ?_
  unfold Oper.wp
  rw [mk_eval, hx, Oper.upon_value, mk_put]
  exact ⟨hS, h⟩
theorem E_skip {L : List Oper} (ho' : L[i]? = some ⟨d, op, ty, pos, af, none⟩) (hx : (execOp (ev n φ) ⟨d, op, ty, pos, af, none⟩).run P w = .ok .skip w') (hS : S w') (h : wpPlan P L.toArray Q S l (mk n (putF φ d undef) ds) w') : wpPlan P L.toArray Q S (.eff i :: l) (mk n φ ds) w := by
  have ho := lat ho'
  rw [wpPlan_eff]
  simp only [wpOp, ho, Region.wanted, if_true]
  refine .inl ?_
  unfold Oper.wp
  rw [mk_eval, hx, Oper.upon_skip, mk_put]
  exact ⟨hS, h⟩
theorem E_call {L : List Oper} {cf : FuncId} {args : Array Value} {C : Ending → World → Prop} (ho' : L[i]? = some ⟨d, op, ty, pos, af, none⟩) (hx : (execOp (ev n φ) ⟨d, op, ty, pos, af, none⟩).run P w = .ok (.enter cf args) w') (hc : Calls P cf args w' C)
    (h : ∀ e w'', C e w'' → ∃ v, e = .returned v ∧ S w'' ∧ wpPlan P L.toArray Q S l (mk n (putF φ d v) ds) w'') : wpPlan P L.toArray Q S (.eff i :: l) (mk n φ ds) w := by
  have ho := lat ho'
  rw [wpPlan_eff]
  simp only [wpOp, ho, Region.wanted, if_true]
  refine .inl ?_
  unfold Oper.wp
  rw [mk_eval, hx, Oper.upon_enter]
  refine hc.mono fun e w'' he => ?_
  obtain ⟨v, rfl, hS, h'⟩ := h e w'' he
  simp only [mk_put]
  exact ⟨hS, h'⟩
/-- A guarded effect. -/
theorem E_call_g {L : List Oper} {dg gi : Nat} {want b : Bool} {cf : FuncId} {args : Array Value} {C : Ending → World → Prop} (ho' : L[i]? = some ⟨d, op, ty, pos, af, some (gi, want)⟩) (hgo' : (L[gi]?).bind (·.dst) = some dg) (hd : Nat.blt dg n = true) (hv : φ dg = .bool b) (hb : b = want)
    (hx : (execOp (ev n φ) ⟨d, op, ty, pos, af, some (gi, want)⟩).run P w = .ok (.enter cf args) w') (hc : Calls P cf args w' C)
    (h : ∀ e w'', C e w'' → ∃ v, e = .returned v ∧ S w'' ∧ wpPlan P L.toArray Q S l (mk n (putF φ d v) ds) w'') : wpPlan P L.toArray Q S (.eff i :: l) (mk n φ ds) w := by
  have ho := lat ho'
  have hgo := lget hgo'
  have hw : Region.wanted ⟨d, op, ty, pos, af, some (gi, want)⟩ (yielded L.toArray (mk n φ ds).tmps) = true := by rw [wanted_of hgo hd hv, hb]; simp
  rw [wpPlan_eff]
  simp only [wpOp, ho]
  rw [if_pos hw]
  refine .inl ?_
  unfold Oper.wp
  rw [mk_eval, hx, Oper.upon_enter]
  refine hc.mono fun e w'' he => ?_
  obtain ⟨v, rfl, hS, h'⟩ := h e w'' he
  simp only [mk_put]
  exact ⟨hS, h'⟩
theorem E_skip_g {L : List Oper} {dg gi : Nat} {want b : Bool} (ho' : L[i]? = some ⟨d, op, ty, pos, af, some (gi, want)⟩) (hgo' : (L[gi]?).bind (·.dst) = some dg) (hd : Nat.blt dg n = true) (hv : φ dg = .bool b) (hb : b = !want) (hS : S w)
    (h : wpPlan P L.toArray Q S l (mk n (putF φ d undef) ds) w) : wpPlan P L.toArray Q S (.eff i :: l) (mk n φ ds) w := by
  have ho := lat ho'
  have hgo := lget hgo'
  have hw : ¬ Region.wanted ⟨d, op, ty, pos, af, some (gi, want)⟩ (yielded L.toArray (mk n φ ds).tmps) = true := by rw [wanted_of hgo hd hv, hb]; cases want <;> simp
  rw [wpPlan_eff]
  simp only [wpOp, ho]
  rw [if_neg hw, mk_put]
  exact ⟨hS, h⟩
end plan
end
theorem bsplit {G : Prop} (b want : Bool) (h1 : b = want → G) (h2 : b = !want → G) : G := by
  cases b <;> cases want <;> first | exact h1 rfl | exact h2 rfl
end Go.Proofs.Ytfhilbhmkifepaa
