/- RoundsParts: the contract that the row asks; no condition. -/
import Derived.Test.YtfhilbhmkifepaaT1
import Derived.Test.YtfhilbhmkifepaaR6b
namespace Go.Proofs.Ytfhilbhmkifepaa
open Go.ChangeShapes Go.WideShapes Go.ChangeAt Go.RowKit
namespace roundsParts
set_option maxRecDepth 100000 in
theorem contract (H : Type) (enc : TypeId × Value → H) (W : World) (base : Nat) (args : Array Value) (ds gs : List (DataW H)) (before : List MemPlace)
    (hval : ∀ (j : Nat) t v, Try.f5.params[j]? = some t → args[j]? = some v → Value.okWide Try.prog W .any base t v)
    (hW : DataW.Whole enc Try.prog Try.f5.params.toList Rows.roundsPartsSpec.vars false W args.toList ds gs before) :
    Calls Try.prog 5 args W fun e W' => ∃ v, e = .returned v ∧ Rows.roundsPartsSpec.post enc Try.prog Try.f5 false true false false W args v W' := by
  have hW' := hW
  obtain ⟨p, q, hA0, hV, rfl, hfz, hnd⟩ := hW
  have hA : DataW.TrodAll enc Try.prog W 0 (fun _ => true) true Try.f5.params.toList args.toList ds p := hA0
  have hlt := fun p hp => hW'.lt p hp
  rw [Try.params5] at hA hval
  obtain ⟨v0, vs0, d0, ds0, p0, q0, hargs, rfl, rfl, h0, r0⟩ := trodAll_cons hA
  obtain ⟨v1, vs1, d1, ds1, p1, q1, rfl, rfl, rfl, h1, r1⟩ := trodAll_cons r0
  obtain ⟨rfl, rfl, rfl⟩ := trodAll_nil r1
  obtain rfl : args = #[v0, v1] := by cases args; simp_all
  obtain ⟨rfl, rfl⟩ := trodVars_none hV
  have e0 : (#[v0, v1] : Array Value)[0]? = some v0 := rfl
  have e1 : (#[v0, v1] : Array Value)[1]? = some v1 := rfl
  obtain ⟨cs, rfl⟩ := agg_of Try.underlying51 (hval 0 _ _ k51 e0)
  obtain ⟨a1, rfl, rfl, rfl, w1⟩ := open_int Try.underlying3 (hval 1 _ _ k3 e1) h1
  obtain ⟨n0, t0⟩ := h0
  obtain ⟨⟨pl, v, hcs, hR, ok1, ok2⟩, keep⟩ := opens51 H enc n0 _ W _ t0
  have hcs' : cs = #[.int .i64 pl.1, v, .int .i64 pl.2.2] := by
    have : cs.toList = [.int .i64 pl.1, v, .int .i64 pl.2.2] := hcs
    rw [← Array.toArray_toList (xs := cs), this]
  subst hcs'
  refine (c5 pl.1 pl.2.2 a1 ok1 v pl.2.1 W hR).mono fun e W' ⟨he, hx⟩ => ?_
  subst he
  refine ⟨_, rfl, [d0, _], [], _, [], p0 ++ ([] ++ []), [], hW', trodAll_cons_mk (shut_bool Try.underlying4 _) trodAll_mk0, ?_, rfl, ext_kept hx, fun h => by cases h⟩
  · refine ⟨p0, _, ⟨n0, keep W' _ hx (fun p hp => by simpa using hlt p (by simp [hp]))⟩, ?_, rfl⟩
    exact trodAll_cons_mk (shut_int Try.underlying3 w1) trodAll_mk0
end roundsParts
end Go.Proofs.Ytfhilbhmkifepaa
