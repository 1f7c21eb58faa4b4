/- RoundsTell: the row; no condition. -/
import Derived.Test.YtfhilbhmkifepaaRows
import Derived.Test.YtfhilbhmkifepaaR5
import Derived.Test.YtfhilbhmkifepaaE12
import Derived.OpenShut
import Derived.JoinedCond
namespace Go.Proofs.Ytfhilbhmkifepaa
open Go.ChangeShapes Go.WideShapes Go.ChangeAt Go.RowKit
theorem Opens.imp {α β : Type} {P : Program} {R : World → List Value → α → Prop} {R' : World → List Value → β → Prop} {t : TypeId} (h : Opens P R t) (hi : ∀ W cs a, R W cs a → ∃ b, R' W cs b) : Opens P R' t := fun H enc n cs W x hx =>
  let ⟨⟨a, ha⟩, h2⟩ := h H enc n cs W x hx
  ⟨hi W cs a ha, h2⟩
theorem opens3 : Opens Try.prog (Flat (fun x : Int => [Value.int .i64 x]) i64ok) 3 := (opens_int Try.underlying3).imp fun W cs z ⟨h1, h2⟩ => ⟨z, h1, by
  simp [Lit.wf, IntKind.min, IntKind.max, IntKind.signed, IntKind.bits] at h2; exact ⟨by omega, by omega⟩⟩
theorem opens24 : Opens Try.prog (fun W cs (l : List Int) => ∃ v, cs = [v] ∧ Ints W v l) 24 := opens_slice Try.underlying24 (by kernel_rfl) Nat.one_pos opens3
def PlanR (W : World) (cs : List Value) (p : Int × List Int × Int) : Prop := ∃ v, cs = [.int .i64 p.1, v, .int .i64 p.2.2] ∧ Ints W v p.2.1 ∧ i64ok p.1 ∧ i64ok p.2.2
theorem co3 : Try.prog.cellsOf 3 = 1 := by kernel_rfl
theorem co24 : Try.prog.cellsOf 24 = 1 := by kernel_rfl
theorem co51 : Try.prog.cellsOf 51 = 3 := by kernel_rfl
theorem len3 {β : Type} {l : List β} (h : l.length = 3) : ∃ a b c, l = [a, b, c] := by
  match l, h with
  | [a, b, c], _ => exact ⟨a, b, c, rfl⟩
theorem opens51 : Opens Try.prog PlanR 51 := by
  intro H enc n cs W x h
  obtain ⟨xs, m, rfl, rfl, hl, hxs, hf⟩ := DataW.trod_struct Try.underlying51 h
  have hl3 := hl.trans co51
  obtain ⟨c0, c1, c2, rfl⟩ := len3 hl3
  obtain ⟨y0, y1, y2, rfl⟩ := len3 hxs
  have h0 : DataW.trod enc Try.prog W 0 (fun _ => true) true m 3 (([c0, c1, c2].drop 0).take (Try.prog.cellsOf 3)) = some y0 := hf 0 _ rfl
  have h1 : DataW.trod enc Try.prog W 0 (fun _ => true) true m 24 (([c0, c1, c2].drop 1).take (Try.prog.cellsOf 24)) = some y1 := hf 1 _ rfl
  have h2 : DataW.trod enc Try.prog W 0 (fun _ => true) true m 3 (([c0, c1, c2].drop 2).take (Try.prog.cellsOf 3)) = some y2 := hf 2 _ rfl
  simp only [co3, co24, List.drop_zero, List.drop_succ_cons, List.take_succ_cons, List.take_zero] at h0 h1 h2
  obtain ⟨⟨a0, e0, k0⟩, r0⟩ := opens3 H enc m [c0] W y0 h0
  obtain ⟨⟨a1, v1, e1, k1⟩, r1⟩ := opens24 H enc m [c1] W y1 h1
  obtain ⟨⟨a2, e2, k2⟩, r2⟩ := opens3 H enc m [c2] W y2 h2
  simp only [List.cons.injEq, and_true] at e0 e1 e2
  subst e0 e1 e2
  refine ⟨⟨(a0, a1, a2), _, rfl, k1, k0, k2⟩, fun W' sp s hs => ?_⟩
  have q0 := r0 W' sp s (fun p hp => hs p (by simp [hp]))
  have q1 := r1 W' sp s (fun p hp => hs p (by simp [hp]))
  have q2 := r2 W' sp s (fun p hp => hs p (by simp [hp]))
  have := trod_struct_mk (enc := enc) (P := Try.prog) (w := W') (base := 0) (spare := sp) (held := true) (n := m) (t := 51) (cs := [.int .i64 a0, c1, .int .i64 a2]) (xs := [y0, y1, y2]) Try.underlying51 (by kernel_rfl) (by
    simp only [List.mapM_cons, List.mapM_nil, co3, co24, List.drop_zero, List.drop_succ_cons, List.take_succ_cons, List.take_zero, q0, q1, q2]
    rfl)
  exact this
theorem ext_kept {W W' : World} {may : MemPlace → Prop} (h : Ext W W') : W.keptBut W' may := by
  refine ⟨h.os, h.output, fun i hi => ?_⟩
  rw [h.block i hi (fun hf => hf)]
  cases W.heap[i]? with
  | none => rfl
  | some o => cases o <;> first | exact ⟨rfl, rfl, rfl, fun _ _ => rfl⟩ | exact .inr ⟨rfl, rfl⟩ | rfl
theorem own : ownKnob Try.prog.godebug = none := by kernel_rfl
theorem k51 : (#[51, 3] : Array TypeId)[0]? = some 51 := by decide
theorem k3 : (#[51, 3] : Array TypeId)[1]? = some 3 := by decide
theorem agg_of {P : Program} {W : World} {r : Reach} {base t : Nat} {v : Value} {fs : Array Field} (hu : P.underlying t = some (.struct fs)) (h : Value.okWide P W r base t v) : ∃ cs, v = .agg cs := by
  unfold Value.okWide at h
  rw [hu] at h
  obtain ⟨cs, h, _⟩ := h
  exact ⟨cs, h⟩
namespace roundsTell
set_option maxRecDepth 100000 in
theorem contract (H : Type) (enc : TypeId × Value → H) (W : World) (base : Nat) (args : Array Value) (ds gs : List (DataW H)) (before : List MemPlace)
    (hval : ∀ (j : Nat) t v, Try.f4.params[j]? = some t → args[j]? = some v → Value.okWide Try.prog W .any base t v)
    (hW : DataW.Whole enc Try.prog Try.f4.params.toList Rows.roundsTellSpec.vars false W args.toList ds gs before) :
    Calls Try.prog 4 args W fun e W' => ∃ v, e = .returned v ∧ Rows.roundsTellSpec.post enc Try.prog Try.f4 false true false false W args v W' := by
  have hW' := hW
  obtain ⟨p, q, hA0, hV, rfl, hfz, hnd⟩ := hW
  have hA : DataW.TrodAll enc Try.prog W 0 (fun _ => true) true Try.f4.params.toList args.toList ds p := hA0
  have hlt := fun p hp => hW'.lt p hp
  rw [Try.params4] at hA hval
  obtain ⟨v0, vs0, d0, ds0, p0, q0, hargs, rfl, rfl, h0, r0⟩ := trodAll_cons hA
  obtain ⟨v1, vs1, d1, ds1, p1, q1, rfl, rfl, rfl, h1, r1⟩ := trodAll_cons r0
  obtain ⟨rfl, rfl, rfl⟩ := trodAll_nil r1
  obtain rfl : args = #[v0, v1] := by cases args; simp_all
  obtain ⟨rfl, rfl⟩ := trodVars_none hV
  have e0 : (#[v0, v1] : Array Value)[0]? = some v0 := rfl
  have e1 : (#[v0, v1] : Array Value)[1]? = some v1 := rfl
  obtain ⟨cs, rfl⟩ := agg_of Try.underlying51 (hval 0 _ _ k51 e0)
  obtain ⟨a1, rfl, rfl, rfl, w1⟩ := open_int Try.underlying3 (hval 1 _ _ k3 e1) h1
  obtain ⟨n0, t0⟩ := h0
  obtain ⟨⟨pl, v, hcs, hR, ok1, ok2⟩, keep⟩ := opens51 H enc n0 _ W _ t0
  have hcs' : cs = #[.int .i64 pl.1, v, .int .i64 pl.2.2] := by
    have : cs.toList = [.int .i64 pl.1, v, .int .i64 pl.2.2] := hcs
    rw [← Array.toArray_toList (xs := cs), this]
  subst hcs'
  refine (c4 pl.1 pl.2.2 a1 ok1 v pl.2.1 W hR).mono fun e W' ⟨he, hx⟩ => ?_
  subst he
  refine ⟨_, rfl, [d0, _], [], _, [], p0 ++ ([] ++ []), [], hW', trodAll_cons_mk (shut_bool Try.underlying4 _) trodAll_mk0, ?_, rfl, ext_kept hx, fun h => by cases h⟩
  · refine ⟨p0, _, ⟨n0, keep W' _ hx (fun p hp => by simpa using hlt p (by simp [hp]))⟩, ?_, rfl⟩
    exact trodAll_cons_mk (shut_int Try.underlying3 w1) trodAll_mk0
end roundsTell
end Go.Proofs.Ytfhilbhmkifepaa
