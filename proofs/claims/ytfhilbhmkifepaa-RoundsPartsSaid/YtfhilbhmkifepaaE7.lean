/- Slices: what they read as, how they are made, grown, cut; no condition. -/
import Derived.Test.YtfhilbhmkifepaaE6
import Derived.Test.YtfhilbhmkifepaaE0
import Derived.Maps.AppendAt
import Derived.Laws.OwnMore
namespace Go.Proofs.Ytfhilbhmkifepaa
open Go.RowKit

/-! ### Reading -/
def ablk : Option Addr → Nat | some a => a.block | none => 0
def aoff : Option Addr → Nat | some a => a.off | none => 0
/-- From A on lie the elements l, of sz cells each, each read by R. -/
def RdA {α : Type} (R : World → List Value → α → Prop) (sz : Nat) (w : World) (A : Option Addr) (l : List α) : Prop :=
  ∀ i x, l[i]? = some x → A = some ⟨ablk A, aoff A, none⟩ ∧ ∃ cs, cs.length = sz ∧ R w cs x ∧ ∀ j u, cs[j]? = some u → w.cell? ⟨ablk A, aoff A + i * sz + j, none⟩ = some u
/-- A slice that reads as l. -/
def Rd {α : Type} (R : World → List Value → α → Prop) (sz : Nat) (w : World) (v : Value) (l : List α) : Prop :=
  ∃ A c, v = .slice A l.length c ∧ l.length ≤ c ∧ c ≤ maxLen ∧ (A = none → c = 0) ∧ RdA R sz w A l
def Carries {α : Type} (R : World → List Value → α → Prop) : Prop := ∀ w w' cs x, Ext w w' → R w cs x → R w' cs x
theorem RdA.ext {α : Type} {R : World → List Value → α → Prop} {sz : Nat} {w w' : World} {A : Option Addr} {l : List α} (hR : Carries R) (s : Ext w w') (h : RdA R sz w A l) : RdA R sz w' A l := fun i x hx =>
  let ⟨h0, cs, h1, h2, h3⟩ := h i x hx
  ⟨h0, cs, h1, hR _ _ _ _ s h2, fun j u hu => s.cell (h3 j u hu)⟩
theorem Rd.ext {α : Type} {R : World → List Value → α → Prop} {sz : Nat} {w w' : World} {v : Value} {l : List α} (hR : Carries R) (s : Ext w w') (h : Rd R sz w v l) : Rd R sz w' v l := by
  obtain ⟨A, c, h1, h2, h3, h4, h5⟩ := h
  exact ⟨A, c, h1, h2, h3, h4, h5.ext hR s⟩
theorem rd_nil {α : Type} {R : World → List Value → α → Prop} {sz : Nat} {w : World} : Rd R sz w (.slice none 0 0) ([] : List α) := ⟨none, 0, rfl, by simp, by simp, fun _ => rfl, fun i x h => by simp at h⟩
/-- Cells that hang on no world. -/
def Flat {α : Type} (enc : α → List Value) (ok : α → Prop) : World → List Value → α → Prop := fun _ cs x => cs = enc x ∧ ok x
theorem flat_carries {α : Type} (enc : α → List Value) (ok : α → Prop) : Carries (Flat enc ok) := fun _ _ _ _ _ h => h
theorem RdA.flat {α : Type} {enc : α → List Value} {ok : α → Prop} {sz : Nat} {w : World} {A : Option Addr} {l : List α} (h : RdA (Flat enc ok) sz w A l) {i : Nat} {x : α} (hx : l[i]? = some x) :
    A = some ⟨ablk A, aoff A, none⟩ ∧ ok x ∧ ∀ j u, (enc x)[j]? = some u → w.cell? ⟨ablk A, aoff A + i * sz + j, none⟩ = some u := by
  obtain ⟨h0, cs, _, ⟨rfl, h2⟩, h3⟩ := h i x hx
  exact ⟨h0, h2, h3⟩
def i64ok (x : Int) : Prop := -9223372036854775808 ≤ x ∧ x ≤ 9223372036854775807
/-- A slice of int. -/
abbrev Ints := Rd (Flat (fun x : Int => [Value.int .i64 x]) i64ok) 1
abbrev IntsA := RdA (Flat (fun x : Int => [Value.int .i64 x]) i64ok) 1
theorem IntsA.cell {w : World} {A : Option Addr} {l : List Int} (h : IntsA w A l) {i : Nat} (hi : i < l.length) : w.cell? ⟨ablk A, aoff A + i * 1, none⟩ = some (.int .i64 l[i]) := (h.flat (List.getElem?_eq_getElem hi)).2.2 0 _ rfl
theorem IntsA.ok {w : World} {A : Option Addr} {l : List Int} (h : IntsA w A l) : ∀ x ∈ l, i64ok x := fun x hx => by
  obtain ⟨i, hi, rfl⟩ := List.getElem_of_mem hx
  exact (h.flat (List.getElem?_eq_getElem hi)).2.1
theorem RdA.here {α : Type} {R : World → List Value → α → Prop} {sz : Nat} {w : World} {A : Option Addr} {l : List α} (h : RdA R sz w A l) {i : Nat} (hi : i < l.length) : A = some ⟨ablk A, aoff A, none⟩ := (h i _ (List.getElem?_eq_getElem hi)).1

section
variable {P : Program} {ρ : Operand → Value} {w : World} {d : Option Tmp} {ty : TypeId} {pos : String} {af : Array Edge} {g : Option (Nat × Bool)}
/-- An element's address: of a slice that reads. -/
theorem X_indexR {α : Type} {R : World → List Value → α → Prop} {sz' : Nat} {w0 : World} {A : Option Addr} {l : List α} {x y : Operand} {n c sz : Nat} {k : IntKind} {i : Int} {t e : TypeId} (hR : RdA R sz' w0 A l) (hu : P.underlying t = some (.slice e)) (hz : ∀ w, (sizeOf e).run P w = .ok sz w) (hx : ρ x = .slice A n c) (hy : ρ y = .int k i) (h0 : 0 ≤ i) (h1 : i < n) (hn : n = l.length) :
    (execOp ρ ⟨d, .indexAddr t x y, ty, pos, af, g⟩).run P w = .ok (.value (.pointer (some ⟨ablk A, aoff A + i.toNat * sz, none⟩))) w := by
  have hA := hR.here (i := i.toNat) (by omega)
  exact X_indexS hu hz (by rw [hx]; exact congrArg (Value.slice · n c) hA) hy h0 h1
end
/-! ### Making -/
section
variable {P : Program} {f : FuncId} {R : Ending → World → Prop} {k : List Item} {n : Nat} {φ : Fr} {ds : List Deferred} {w : World} {ops : Array Oper} {Q : Exit → Act → World → Prop} {rest : List Oper} {d : Option Tmp} {ty : TypeId} {pos : String} {af : Array Edge}
theorem S_build {t e : TypeId} {m sz : Nat} {z : Value} {rs : List Value} {l : List (Nat × Operand)} (cs : List Value) (hu : P.underlying t = some (.slice e)) (hs : ∀ w, (sizeOf e).run P w = .ok sz w) (hz : ∀ w, (zeroValue e).run P w = .ok z w) (hn : Nat.ble (m * sz) (2 ^ 24) = true)
    (hr : ((Array.range (m * sz)).map ((if m * sz = 0 then #[] else z.cells)[· % (if m * sz = 0 then (#[] : Array Value) else z.cells).size]!)) = rs.toArray) (hf : fillL (fun i => some (i * sz, sz)) rs (l.map fun p => (p.1, ev n φ p.2)) = some cs)
    (h : ∀ b W, b = w.heap.size → Ext w W → W.heap.size = b + 1 → Blk W b cs e → SeqL P ops Q rest (mk n (putF φ d (.slice (some ⟨b, 0, none⟩) m m)) ds) W) :
    SeqL P ops Q (⟨d, .buildSlice t m l.toArray, ty, pos, af, none⟩ :: rest) (mk n φ ds) w :=
  S_val (X_buildSlice hu hs hz (Nat.le_of_ble_eq_true hn) hr hf) (h _ _ rfl (ext_alloc _ _) (by simp) (blk_alloc _ _ _))
theorem E_build {L : List Oper} {S : World → Prop} {l' : List PE} {i : Nat} {t e : TypeId} {m sz : Nat} {z : Value} {rs : List Value} {l : List (Nat × Operand)} (cs : List Value) (ho' : L[i]? = some ⟨d, .buildSlice t m l.toArray, ty, pos, af, none⟩) (hu : P.underlying t = some (.slice e)) (hs : ∀ w, (sizeOf e).run P w = .ok sz w) (hz : ∀ w, (zeroValue e).run P w = .ok z w) (hn : Nat.ble (m * sz) (2 ^ 24) = true)
    (hr : ((Array.range (m * sz)).map ((if m * sz = 0 then #[] else z.cells)[· % (if m * sz = 0 then (#[] : Array Value) else z.cells).size]!)) = rs.toArray) (hf : fillL (fun i => some (i * sz, sz)) rs (l.map fun p => (p.1, ev n φ p.2)) = some cs)
    (h : ∀ b W, b = w.heap.size → Ext w W → W.heap.size = b + 1 → Blk W b cs e → S W ∧ wpPlan P L.toArray Q S l' (mk n (putF φ d (.slice (some ⟨b, 0, none⟩) m m)) ds) W) :
    wpPlan P L.toArray Q S (.eff i :: l') (mk n φ ds) w := by
  have := h _ _ rfl (ext_alloc w (.cells cs.toArray e)) (by simp) (blk_alloc _ _ _)
  exact E_val ho' (X_buildSlice hu hs hz (Nat.le_of_ble_eq_true hn) hr hf) this.1 this.2
/-- A load that is held over a slice written out. -/
theorem P_pair_build {L : List Oper} {S : World → Prop} {l' : List PE} {i j : Nat} {d' : Option Tmp} {op' : Op} {ty' : TypeId} {pos' : String} {af' : Array Edge} {v : Value} {t e : TypeId} {m sz : Nat} {z : Value} {rs : List Value} {l : List (Nat × Operand)} (cs : List Value)
    (hi' : L[i]? = some ⟨d', op', ty', pos', af', none⟩) (hxi : ∀ W, Ext w W → (execOp (ev n φ) ⟨d', op', ty', pos', af', none⟩).run P W = .ok (.value v) W) (hS : S w)
    (ho' : L[j]? = some ⟨d, .buildSlice t m l.toArray, ty, pos, af, none⟩) (hu : P.underlying t = some (.slice e)) (hs : ∀ w, (sizeOf e).run P w = .ok sz w) (hz : ∀ w, (zeroValue e).run P w = .ok z w) (hn : Nat.ble (m * sz) (2 ^ 24) = true)
    (hr : ((Array.range (m * sz)).map ((if m * sz = 0 then #[] else z.cells)[· % (if m * sz = 0 then (#[] : Array Value) else z.cells).size]!)) = rs.toArray) (hf : fillL (fun i => some (i * sz, sz)) rs (l.map fun p => (p.1, ev n (putF φ d' v) p.2)) = some cs)
    (h : ∀ b W, b = w.heap.size → Ext w W → W.heap.size = b + 1 → Blk W b cs e → S W ∧ wpPlan P L.toArray Q S l' (mk n (putF (putF φ d' v) d (.slice (some ⟨b, 0, none⟩) m m)) ds) W) :
    wpPlan P L.toArray Q S (.pair i j :: l') (mk n φ ds) w := by
  have hi := lat hi'
  have ho := lat ho'
  obtain ⟨h1, h2⟩ := h _ _ rfl (ext_alloc w (.cells cs.toArray e)) (by simp) (blk_alloc _ _ _)
  rw [wpPlan_pair]
  refine ⟨_, v, Ext w, hi, .inl ⟨rfl, fun W hW => by rw [mk_eval]; exact hxi W hW⟩, Step.refl _ _, hS, ?_⟩
  rw [mk_put]
  simp only [wpOp, ho, Region.wanted, if_true]
  refine .inl ?_
  unfold Oper.wp
  rw [mk_eval, X_buildSlice hu hs hz (Nat.le_of_ble_eq_true hn) hr hf, Oper.upon_value, mk_put]
  exact ⟨ext_alloc _ _, h1, h2⟩
end
/-! ### Growing -/
def Lay (P : Program) (e size bytes : Nat) (z : Value) : Prop := (P.info? e).map (fun i => (i.size, i.bytes, i.zero)) = some (size, bytes, some z)
theorem Lay.out {P : Program} {e size bytes : Nat} {z : Value} (h : Lay P e size bytes z) : ∃ i, P.info? e = some i ∧ i.zero = some z ∧ i.size = size ∧ i.bytes = bytes := by
  obtain ⟨i, h1, h2⟩ := Option.map_eq_some_iff.1 h
  simp only [Prod.mk.injEq] at h2
  exact ⟨i, h1, h2.2.2, h2.1, h2.2.1⟩
theorem lay3 : Lay Try.prog 3 1 8 (.int .i64 0) := by unfold Lay; kernel_rfl
theorem lay151 : Lay Try.prog 151 1 24 (.slice none 0 0) := by unfold Lay; kernel_rfl
theorem lay153 : Lay Try.prog 153 2 16 (.agg #[.int .i64 0, .int .i64 0]) := by unfold Lay; kernel_rfl
abbrev Own (w : World) (base : Nat) (e : TypeId) (size : Nat) (v : Value) (xs : List Value) (m : Nat) : Prop := w.ownsRow base e size v m xs
theorem step_grown {w w' : World} {row : Option Nat} (h : w.grownBy w' row) (hd : w.drawn ≤ w'.drawn) : Step (fun k => row = some k) w w' := ⟨h.os, h.tape, h.output, hd, h.size, fun k hk hn => h.block k hk (fun e => hn e.symm)⟩
theorem own_shape {w : World} {base e size m : Nat} {v : Value} {xs : List Value} (h : w.ownsRow base e size v m xs) : ∃ A c, v = .slice A m c ∧ m ≤ c ∧ c ≤ maxLen ∧ (A = none → c = 0) := by
  rcases h.2 with ⟨rfl, rfl⟩ | ⟨g, c, cur, rfl, _, _, h1, h2, _⟩
  · exact ⟨none, 0, rfl, by simp, by simp, fun _ => rfl⟩
  · exact ⟨_, c, rfl, h1, h2, fun h => by cases h⟩
section
variable {P : Program} {ρ : Operand → Value} {w : World} {d : Option Tmp} {ty : TypeId} {pos : String} {af : Array Edge} {g : Option (Nat × Bool)}
theorem X_append {t e size bytes : Nat} {z v : Value} {x y : Operand} {base m k c' b o : Nat} {xs news : List Value} (hu : P.underlying t = some (.slice e)) (hl : Lay P e size bytes z) (hzs : z.cells.size = size) (hsz : 0 < size) (hown : w.ownsRow base e size v m xs)
    (hx : ρ x = v) (hy : ρ y = .slice (some ⟨b, o, none⟩) k c') (hn : news.length = k * size) (hc : ∀ j u, news[j]? = some u → w.cell? ⟨b, o + j, none⟩ = some u) (h1 : ∀ u ∈ news, u.oneCell' = true) (h63 : m + k ≤ maxLen) (hb : (m + k) * bytes ≤ 140737488355328) (hbase : base ≤ w.heap.size) :
    ∃ A c W, (execOp ρ ⟨d, .call { callee := .builtin .append, args := #[x, y], argTypes := #[t, t] }, ty, pos, af, g⟩).run P w = .ok (.value (.slice A (m + k) c)) W ∧ W.ownsRow base e size (.slice A (m + k) c) (m + k) (xs ++ news) ∧ Step (fun i => v.ownBlock = some i) w W ∧
      ((Value.slice A (m + k) c).ownBlock = v.ownBlock ∨ (Value.slice A (m + k) c).ownBlock = some w.heap.size) := by
  obtain ⟨i, hi, hz, hs, hby⟩ := hl.out
  obtain ⟨v', W, hr, ho, hg, _, hd⟩ := run_append_own_at (P := P) w base t ty e i z size bytes hu hi hz hs hby hzs hsz v m xs hown ⟨b, o, none⟩ k c' news hn (fun j u hj => by rw [Addr.add_lit]; exact hc j u hj) h1 h63 hb hbase
  obtain ⟨A, c, rfl, _, _, _⟩ := own_shape ho
  refine ⟨A, c, W, ?_, ho, step_grown hg (run_drawn _ _ _ _ _ hr), hd⟩
  simp [execOp, resolve, invoke, builtin, hx, hy, hr]
/-- A slice made: all zeroes. -/
theorem X_make {t e size bytes : Nat} {z : Value} {x y : Operand} {base : Nat} {kl kc : IntKind} {i j : Int} (hu : P.underlying t = some (.slice e)) (hl : Lay P e size bytes z) (hx : ρ x = .int kl i) (hy : ρ y = .int kc j) (hij : i = j) (h0 : 0 ≤ i) (hb : bytes * i.toNat ≤ 281474976710656) (h63 : i.toNat ≤ maxLen) (hbase : base ≤ w.heap.size) :
    ∃ W, (execOp ρ ⟨d, .makeSlice t x y, ty, pos, af, g⟩).run P w = .ok (.value (.slice (some ⟨w.heap.size, 0, none⟩) i.toNat i.toNat)) W ∧ W.ownsRow base e size (.slice (some ⟨w.heap.size, 0, none⟩) i.toNat i.toNat) i.toNat (madeCells z.cells (i.toNat * size)).toList ∧ Ext w W := by
  obtain ⟨ti, hi, hz, hs, hby⟩ := hl.out
  subst hij
  obtain ⟨W, hr, ho, hg⟩ := run_make_full (P := P) w base t e ti z size hu hi hz hs kl kc i.toNat (by rw [hby]; exact hb) h63 hbase
  refine ⟨W, ?_, ho, ext_grown hg (run_drawn _ _ _ _ _ hr)⟩
  rw [Int.toNat_of_nonneg h0] at hr
  simp [execOp, hx, hy, hr]
end
section
variable {P : Program} {ρ : Operand → Value} {w : World} {d : Option Tmp} {ty : TypeId} {pos : String} {af : Array Edge} {g : Option (Nat × Bool)}
/-- Behind a row of the call's own: what a slice reads as, an empty or a nil one too. -/
theorem X_appendR {α : Type} {enc : α → List Value} {ok : α → Prop} {l : List α} {A0 : Option Addr} {t e size bytes : Nat} {z v : Value} {x y : Operand} {base m c' : Nat} {xs : List Value} (hR : RdA (Flat enc ok) size w A0 l) (hA : A0 = none → c' = 0) (hk : ∀ x, (enc x).length = size) (hu : P.underlying t = some (.slice e)) (hl : Lay P e size bytes z) (hzs : z.cells.size = size) (hsz : 0 < size) (hown : w.ownsRow base e size v m xs)
    (hx : ρ x = v) (hy : ρ y = .slice A0 l.length c') (hcap : l.length ≤ c') (h1 : ∀ x, ∀ u ∈ enc x, u.oneCell' = true) (h63 : m + l.length ≤ maxLen) (hb : (m + l.length) * bytes ≤ 140737488355328) (hbase : base ≤ w.heap.size) :
    ∃ A c W, (execOp ρ ⟨d, .call { callee := .builtin .append, args := #[x, y], argTypes := #[t, t] }, ty, pos, af, g⟩).run P w = .ok (.value (.slice A (m + l.length) c)) W ∧ W.ownsRow base e size (.slice A (m + l.length) c) (m + l.length) (xs ++ l.flatMap enc) ∧ Step (fun i => v.ownBlock = some i) w W ∧
      ((Value.slice A (m + l.length) c).ownBlock = v.ownBlock ∨ (Value.slice A (m + l.length) c).ownBlock = some w.heap.size) := by
  obtain ⟨i, hi, hz, hs, hby⟩ := hl.out
  cases A0 with
  | none =>
    have hc := hA rfl
    subst hc
    have hl0 : l = [] := by cases l with | nil => rfl | cons _ _ => simp at hcap
    subst hl0
    obtain ⟨A, c, rfl, _, _, _⟩ := own_shape hown
    refine ⟨A, c, w, ?_, by simpa using hown, Step.refl _ _, .inl rfl⟩
    have := run_append_owned_none (P := P) (w := w) base t ty e i size hu hi _ m xs hown
    simp [execOp, resolve, invoke, builtin, hx, hy, this]
  | some a =>
    have hnews : ∀ j u, (l.flatMap enc)[j]? = some u → w.cell? (a.add j) = some u := fun j u hj => by
      have hjl := (List.getElem?_eq_some_iff.1 hj).1
      have hfl : ∀ (l : List α), (l.flatMap enc).length = l.length * size := fun l => by
        induction l with
        | nil => simp
        | cons x l ih => rw [List.flatMap_cons, List.length_append, ih, hk, List.length_cons, Nat.succ_mul]; omega
      rw [hfl] at hjl
      have hq : j / size < l.length := Nat.div_lt_of_lt_mul (by rw [Nat.mul_comm]; exact hjl)
      obtain ⟨ha, _, hc⟩ := hR.flat (List.getElem?_eq_getElem hq)
      have hfg : ∀ (l : List α) (q j : Nat) (x : α), l[q]? = some x → j < size → (l.flatMap enc)[q * size + j]? = (enc x)[j]? := fun l => by
        induction l with
        | nil => intro q j x h; simp at h
        | cons y l ih =>
          intro q j x h hjs
          cases q with
          | zero =>
            simp only [List.getElem?_cons_zero, Option.some.injEq] at h
            subst h
            rw [List.flatMap_cons, List.getElem?_append_left (by rw [hk]; omega)]
            simp
          | succ q =>
            rw [List.flatMap_cons, List.getElem?_append_right (by rw [hk, Nat.succ_mul]; omega), hk, show (q + 1) * size + j - size = q * size + j by rw [Nat.succ_mul]; omega]
            exact ih q j x (by simpa using h) hjs
      have hmod := Nat.mod_lt j hsz
      have hd := Nat.div_add_mod j size
      rw [Nat.mul_comm] at hd
      have := hfg l (j / size) (j % size) _ (List.getElem?_eq_getElem hq) hmod
      rw [hd, hj] at this
      have hcc := hc (j % size) u this.symm
      rw [Nat.add_assoc, hd] at hcc
      have he : a = ⟨a.block, a.off, none⟩ := Option.some.inj ha
      rw [he, Addr.add_lit]
      exact hcc
    have hfl : (l.flatMap enc).length = l.length * size := by
      clear hR hcap hy h63 hb hnews
      induction l with
      | nil => simp
      | cons x l ih => rw [List.flatMap_cons, List.length_append, ih, hk, List.length_cons, Nat.succ_mul]; omega
    obtain ⟨v', W, hr, ho, hg, _, hd⟩ := run_append_own_at (P := P) w base t ty e i z size bytes hu hi hz hs hby hzs hsz v m xs hown a l.length c' (l.flatMap enc) hfl hnews (fun u hu => by obtain ⟨x, _, hx⟩ := List.mem_flatMap.1 hu; exact h1 x u hx) h63 hb hbase
    obtain ⟨A, c, rfl, _, _, _⟩ := own_shape ho
    refine ⟨A, c, W, ?_, ho, step_grown hg (run_drawn _ _ _ _ _ hr), hd⟩
    simp [execOp, resolve, invoke, builtin, hx, hy, hr]
end
theorem Ext.backs {M : Nat → Prop} {a b c : World} (k : Step M b c) (hB : ∀ i, M i → a.heap.size ≤ i) (h : Ext a b) : Ext a c := Step.tail h k hB
end Go.Proofs.Ytfhilbhmkifepaa
