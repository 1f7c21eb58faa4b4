/- Structs told apart; no condition. -/
import Derived.Test.YtfhilbhmkifepaaD2
import Derived.Laws.StructEq
namespace Go.Proofs.Ytfhilbhmkifepaa
open Go.RowKit
section
variable {P : Program} {d : Nat} {xs ys : Array Value} {f : Field} {fs : List Field} {a b : Value} {r s : Bool} {w : World}
theorem eqf_nil : (Op.eqFields d xs ys []).run P w = .ok true w := by simp [Op.eqFields]
theorem eqf_cons (hn : (f.name == "_") = false) (ha : (part f.type xs f.offset).run P w = .ok a w) (hb : (part f.type ys f.offset).run P w = .ok b w) (he : (Op.equalIn d f.type a b).run P w = .ok r w) (hr : (Op.eqFields d xs ys fs).run P w = .ok s w) : (Op.eqFields d xs ys (f :: fs)).run P w = .ok (r && s) w := by
  have hn' : f.name ≠ "_" := by simpa using hn
  rw [Op.eqFields]
  simp only [if_pos hn', Sem.run_bind, ha, hb, he, Result.andThen_ok]
  cases r
  · simp
  · simpa using hr
theorem eqA_of {t : TypeId} {fs : Array Field} (hu : P.underlying t = some (.struct fs)) (hp : P.stoodInHeld t = false) (h : (Op.eqFields d xs ys fs.toList).run P w = .ok r w) : (Op.equalIn (d + 1) t (.agg xs) (.agg ys)).run P w = .ok r w := by
  have hf : P.fieldsOf t = fs := by simp [Program.fieldsOf, hu]
  rw [run_equalIn_struct (P := P) w d t xs ys (by rw [hf]; exact hu) hp, hf]
  exact h
theorem part1 {t : TypeId} {o : Nat} {v : Value} (ha : ∀ w, (isAgg t).run P w = .ok false w) (hv : xs[o]? = some v) : (part t xs o).run P w = .ok v w := by
  simp [part, ha, hv]
/-- Structs told apart, by what telling them apart comes to. -/
theorem X_neqS {ρ : Operand → Value} {d : Option Tmp} {ty : TypeId} {pos : String} {af : Array Edge} {g : Option (Nat × Bool)} {x y : Operand} {t u : TypeId} {c : Bool} (hm : P.eqGuardType P.depth t = false) (hx : ρ x = .agg xs) (hy : ρ y = .agg ys) (he : ∀ w, (Op.equalIn 10000 t (.agg xs) (.agg ys)).run P w = .ok c w) :
    (execOp ρ ⟨d, .binOp .neq t x y u, ty, pos, af, g⟩).run P w = .ok (.value (.bool !c)) w := by
  simp [execOp, hx, hy, run_eqGuard_agg w .neq t x y xs ys hm, run_neq_struct, he, Result.andThen]
theorem X_eqlS {ρ : Operand → Value} {d : Option Tmp} {ty : TypeId} {pos : String} {af : Array Edge} {g : Option (Nat × Bool)} {x y : Operand} {t u : TypeId} {c : Bool} (hm : P.eqGuardType P.depth t = false) (hx : ρ x = .agg xs) (hy : ρ y = .agg ys) (he : ∀ w, (Op.equalIn 10000 t (.agg xs) (.agg ys)).run P w = .ok c w) :
    (execOp ρ ⟨d, .binOp .eql t x y u, ty, pos, af, g⟩).run P w = .ok (.value (.bool c)) w := by
  simp [execOp, hx, hy, run_eqGuard_agg w .eql t x y xs ys hm, run_eql_struct, he, Result.andThen]
end
theorem eq153 (x y : Int × Int) (w : World) : (Op.equalIn 10000 153 (.agg (enS x).toArray) (.agg (enS y).toArray)).run Try.prog w = .ok (decide (x = y)) w := by
  have h := eqA_of (d := 9999) (w := w) (xs := (enS x).toArray) (ys := (enS y).toArray) Try.underlying153 (by kernel_rfl) (eqf_cons (by rfl) (part1 Try.isAgg3 rfl) (part1 Try.isAgg3 rfl) (run_equalIn_int w _ 3 _ _ _ _ Try.underlying3) (eqf_cons (by rfl) (part1 Try.isAgg3 rfl) (part1 Try.isAgg3 rfl) (run_equalIn_int w _ 3 _ _ _ _ Try.underlying3) eqf_nil))
  have e : ((x.1 == y.1) && ((x.2 == y.2) && true)) = decide (x = y) := by
    rw [Bool.eq_iff_iff]; simp [Prod.ext_iff]
  rw [← e]
  exact h
/-- A row of rows that read, one of them. -/
theorem rowr_at {α : Type} {enc : α → List Value} {ok : α → Prop} {sz : Nat} {w : World} {A : Option Addr} {L : List (List α)} (h : RdA (RowR enc ok sz) 1 w A L) {s : Nat} (hs : s < L.length) :
    ∃ Ai ci, w.cell? ⟨ablk A, aoff A + s * 1, none⟩ = some (.slice Ai L[s].length ci) ∧ RdA (Flat enc ok) sz w Ai L[s] ∧ L[s].length ≤ ci ∧ ci ≤ maxLen ∧ (Ai = none → ci = 0) := by
  obtain ⟨_, cs, _, ⟨v, rfl, Ai, ci, rfl, h1, h2, h3, h4⟩, hc⟩ := h s _ (List.getElem?_eq_getElem hs)
  exact ⟨Ai, ci, hc 0 _ rfl, h4, h1, h2, h3⟩
theorem rda_cells {α : Type} {enc : α → List Value} {ok : α → Prop} {sz : Nat} {w : World} {A : Option Addr} {l : List α} (h : RdA (Flat enc ok) sz w A l) {j : Nat} (hj : j < l.length) : ∀ q u, (enc l[j])[q]? = some u → w.cell? ⟨ablk A, aoff A + j * sz + q, none⟩ = some u := (h.flat (List.getElem?_eq_getElem hj)).2.2
end Go.Proofs.Ytfhilbhmkifepaa
