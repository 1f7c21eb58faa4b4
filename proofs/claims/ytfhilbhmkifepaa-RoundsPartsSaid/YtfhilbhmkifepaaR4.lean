/- rounds: Whole and Parts, both tellings; no condition. -/
import Derived.Test.YtfhilbhmkifepaaR3
namespace Go.Proofs.Ytfhilbhmkifepaa
open Go.RowKit

variable {v : Value} {cyc : List Int}
theorem mulb {a b A B : Int} (h0 : 0 ≤ a) (h1 : a ≤ A) (h2 : 0 ≤ b) (h3 : b ≤ B) : 0 ≤ a * b ∧ a * b ≤ A * B :=
  ⟨Int.mul_nonneg h0 h2, Int.mul_le_mul h1 h3 h2 (by omega)⟩
def WE (every : Int) (cyc : List Int) (stages n : Int) : Int := if (!fairB every cyc stages || decide (n < 0)) = true then 2 else if (decide (65536 < n) || decide (65536 < n * every + every * stages)) = true then 3 else 0
def WL (every : Int) (cyc : List Int) (stages n : Int) : List (List (Int × Int)) := if WE every cyc stages n = 0 then rowsL every cyc stages n else []
theorem rd_sub {α : Type} {R : World → List Value → α → Prop} {sz : Nat} {w : World} {A : Option Addr} {L : List α} {l hi m c : Nat} (h : RdA R sz w A L) (h1 : l ≤ hi) (h2 : hi ≤ L.length) (h3 : hi ≤ m) (h4 : m ≤ c) (h5 : c ≤ maxLen) (h0 : A = none → c = 0) : Rd R sz w (.slice (subA A l m sz) (hi - l) (m - l)) ((L.drop l).take (hi - l)) := by
  have hl : ((L.drop l).take (hi - l)).length = hi - l := by simp; omega
  refine ⟨subA A l m sz, m - l, by rw [hl], by rw [hl]; omega, by omega, fun hn => ?_, h.sub h1 h3⟩
  unfold subA at hn
  split at hn
  · omega
  · have := h0 (Option.map_eq_none_iff.1 hn); omega
def pk (every stages : Int) : Int := (stages - 1) * every
def PaE (every : Int) (cyc : List Int) (stages : Int) : Int := if (!fairB every cyc stages) = true then 2 else if decide (65536 < 3 * every * stages) = true then 3 else 0
def PFr (L : List (List (Int × Int))) (k : Int) : List (List (Int × Int)) := (L.drop 0).take (k.toNat - 0)
def PKe (L : List (List (Int × Int))) (k every : Int) : List (List (Int × Int)) := (L.drop k.toNat).take ((k + every).toNat - k.toNat)
def PLa (L : List (List (Int × Int))) (k every : Int) : List (List (Int × Int)) := (L.drop (k + every).toNat).take (L.length - (k + every).toNat)
def PLs (every : Int) (cyc : List Int) (stages : Int) : List (List (Int × Int)) := if PaE every cyc stages = 0 then rowsL every cyc stages stages else []
theorem rowsL_len {every : Int} {cyc : List Int} {stages n : Int} (hn : n ≠ 0) : (rowsL every cyc stages n).length = ((n - 1 + stages) * every).toNat := by
  rw [rowsL, if_neg hn, place_len]; rfl
theorem part_facts {every : Int} {cyc : List Int} {stages : Int} (hf : fairB every cyc stages = true) (h : ¬ 65536 < 3 * every * stages) : (1 ≤ every ∧ every ≤ 65536) ∧ 1 ≤ stages ∧ stages ≤ 65536 ∧ stages * every + every * stages ≤ 65536 ∧ 0 ≤ (stages - 1) * every ∧ (stages - 1) * every + every = stages * every ∧ stages * every ≤ 65536 ∧ (stages - 1) * every + every ≤ ((rowsL every cyc stages stages).length : Int) ∧ (rowsL every cyc stages stages).length ≤ 65536 := by
  obtain ⟨he, _, _, hs, _⟩ := fair_out hf
  have h3b : 3 * every * stages = 3 * (every * stages) := Int.mul_assoc ..
  have h3c : stages * every = every * stages := Int.mul_comm ..
  have h3d : 1 * stages ≤ every * stages := Int.mul_le_mul_of_nonneg_right he.1 (by omega)
  have h3f : 1 * every ≤ stages * every := Int.mul_le_mul_of_nonneg_right hs (by omega)
  have h3e : (stages - 1) * every = stages * every - every := by rw [Int.sub_mul, Int.one_mul]
  have hl := rowsL_len (every := every) (cyc := cyc) (stages := stages) (n := stages) (by omega)
  rw [Int.add_mul] at hl
  refine ⟨he, hs, by omega, by omega, by omega, by omega, by omega, by omega, by omega⟩

theorem c27 (every stages n : Int) (he0 : i64ok every) (w : World) (hR : Ints w v cyc) : Calls Try.prog 27 #[.agg #[.int .i64 every, v, .int .i64 stages], .int .i64 n] w fun e w' => ∃ x, e = .returned (.tuple #[x, .int .i64 (WE every cyc stages n)]) ∧ Ext w w' ∧ Slots2 w' x (WL every cyc stages n) := by
  obtain ⟨A, c, rfl, hlc, hcm, hn0, hA⟩ := id hR
  refine run_of 31 Try.func27 rfl rfl rfl ?_
  refine run_seq ?_
  refine run_ops ?_
  refine S_box (v := .agg _) rfl rfl fun b1 w1 hb1 x1 hs1 k1 => ?_
  refine S_val (X_assign (v := .slice _ _ _) rfl) ?_
  refine S_val (X_assign (v := .int _ _) rfl) ?_
  refine S_nil ?_
  refine run_seq ?_
  refine run_seq ?_
  refine run_cutX [6, 7, 8, 9, 10, 11, 12] 12 (.bool (!fairB every cyc stages || decide (n < 0))) ?_ ?_
  · 
    refine S_val (lda [.int _ _, .slice _ _ _, .int _ _] Try.isAgg51 Try.sizeOf51 rfl) ?_
    refine S_call (X_call Try.call99 rfl rfl) (c99 every stages he0 _ cyc _ (Rd.ext (flat_carries _ _) xt hR)) ?_
    rintro _ w2 ⟨rfl, x2⟩; have hs2 := x2.size; refine ⟨_, rfl, ?_⟩
    refine S_val (X_not rfl) ?_
    refine S_val (X_move (v := .bool _) rfl) ?_
    refine S_guard rfl rfl rfl (fun hg3 => ?_) (fun hg3 => ?_)
    · 
      refine S_val (X_move (v := .int _ _) rfl) ?_
      refine S_guard_yes rfl rfl rfl hg3 ?_
      refine S_val (X_lss rfl rfl) ?_
      refine S_val (X_pick_f (v := .bool _) rfl hg3 rfl) ?_
      exact C_nil xt (bv rfl (by first | (simp_all; done) | (simp_all; omega) | (simp at *; omega)))
    · 
      refine S_guard_no rfl rfl rfl hg3 ?_
      refine S_val (X_pick_t (v := .bool _) rfl hg3 rfl) ?_
      exact C_nil xt (bv rfl (by first | (simp_all; done) | (simp_all; omega) | (simp at *; omega)))
  intro ψ3 w3 x3 hs3
  refine run_if rfl (fun hc4 => ?_) (fun hc4 => ?_)   -- t12
  · 
    refine run_seq ?_
    refine run_ops ?_
    refine S_val (X_assign (v := .slice _ _ _) rfl) ?_
    refine S_val (X_assign (v := .int _ _) rfl) ?_
    refine S_nil ?_
    refine run_ret Try.func27 (res2 (v := .slice _ _ _) (x := .int _ _) Try.results27 rfl rfl) ?_
    have hw : WE every cyc stages n = 2 := by rw [WE, if_pos hc4]
    exact ⟨_, by rw [hw], xt, by rw [WL, hw]; exact rd_nil⟩
  · 
    have hf : fairB every cyc stages = true := by simp at hc4; exact hc4.1
    have hn0' : 0 ≤ n := by simp at hc4; omega
    obtain ⟨he, hcl, _, hst1, hst2⟩ := fair_out hf
    have hes := mulb (a := every) (b := stages) (A := 65536) (B := 131072) (by omega) (by omega) (by omega) (by omega)
    refine run_skip ?_
    refine run_seq ?_
    refine run_seq ?_
    refine run_cut [13, 14, 15, 16, 17, 18, 19, 20, 21, 22, 23, 24, 25, 26, 27] 27 (.bool (decide (65536 < n) || decide (65536 < n * every + every * stages))) ?_ ?_
    · 
      refine S_val (X_move (v := .int _ _) rfl) ?_
      refine S_val (X_gtr rfl rfl) ?_
      refine S_val (X_move (v := .bool _) rfl) ?_
      refine S_guard rfl rfl rfl (fun hg2 => ?_) (fun hg2 => ?_)
      · 
        refine S_val (X_move (v := .int _ _) rfl) ?_
        refine S_guard_yes rfl rfl rfl hg2 ?_
        refine S_val (X_fieldAddr 0 Try.underlying51 rfl Try.sizeOf3 rfl) ?_
        refine S_guard_yes rfl rfl rfl hg2 ?_
        refine S_val (ld Try.isAgg3 rfl) ?_
        refine S_guard_yes rfl rfl rfl hg2 ?_
        refine S_val (X_mul rfl rfl (wr64 (by have := mulb (a := n) (b := every) (A := 65536) (B := 65536) (by omega) (by simp at hg2; omega) (by omega) (by omega); omega))) ?_
        refine S_guard_yes rfl rfl rfl hg2 ?_
        refine S_val (X_fieldAddr 0 Try.underlying51 rfl Try.sizeOf3 rfl) ?_
        refine S_guard_yes rfl rfl rfl hg2 ?_
        refine S_val (ld Try.isAgg3 rfl) ?_
        refine S_guard_yes rfl rfl rfl hg2 ?_
        refine S_val (X_fieldAddr 2 Try.underlying51 rfl Try.sizeOf3 rfl) ?_
        refine S_guard_yes rfl rfl rfl hg2 ?_
        refine S_val (ld Try.isAgg3 rfl) ?_
        refine S_guard_yes rfl rfl rfl hg2 ?_
        refine S_val (X_mul rfl rfl (wr64 (by omega))) ?_
        refine S_guard_yes rfl rfl rfl hg2 ?_
        refine S_val (X_add rfl rfl (wr64 (by have := mulb (a := n) (b := every) (A := 65536) (B := 65536) (by omega) (by simp at hg2; omega) (by omega) (by omega); omega))) ?_
        refine S_guard_yes rfl rfl rfl hg2 ?_
        refine S_val (X_gtr rfl rfl) ?_
        refine S_val (X_pick_f (v := .bool _) rfl hg2 rfl) ?_
        exact C_nil rfl (bv rfl (by first | (simp_all; done) | (simp_all; omega) | (simp at *; omega)))
      · 
        refine S_guard_no rfl rfl rfl hg2 ?_
        refine S_guard_no rfl rfl rfl hg2 ?_
        refine S_guard_no rfl rfl rfl hg2 ?_
        refine S_guard_no rfl rfl rfl hg2 ?_
        refine S_guard_no rfl rfl rfl hg2 ?_
        refine S_guard_no rfl rfl rfl hg2 ?_
        refine S_guard_no rfl rfl rfl hg2 ?_
        refine S_guard_no rfl rfl rfl hg2 ?_
        refine S_guard_no rfl rfl rfl hg2 ?_
        refine S_guard_no rfl rfl rfl hg2 ?_
        refine S_val (X_pick_t (v := .bool _) rfl hg2 rfl) ?_
        exact C_nil rfl (bv rfl (by first | (simp_all; done) | (simp_all; omega) | (simp at *; omega)))
    intro ψ5
    refine run_if rfl (fun hc6 => ?_) (fun hc6 => ?_)   -- t27
    · 
      refine run_seq ?_
      refine run_ops ?_
      refine S_val (X_assign (v := .slice _ _ _) rfl) ?_
      refine S_val (X_assign (v := .int _ _) rfl) ?_
      refine S_nil ?_
      refine run_ret Try.func27 (res2 (v := .slice _ _ _) (x := .int _ _) Try.results27 rfl rfl) ?_
      have hw : WE every cyc stages n = 3 := by rw [WE, if_neg (by rw [hc4]; simp), if_pos hc6]
      exact ⟨_, by rw [hw], xt, by rw [WL, hw]; exact rd_nil⟩
    · 
      have h6 : n ≤ 65536 ∧ n * every + every * stages ≤ 65536 := by simp at hc6; omega
      refine run_skip ?_
      refine run_seq ?_
      refine run_ops ?_
      refine S_val (lda [.int _ _, .slice _ _ _, .int _ _] Try.isAgg51 Try.sizeOf51 rfl) ?_
      refine S_val (X_move (v := .int _ _) rfl) ?_
      refine S_call (X_call Try.call100 rfl rfl) (c100 every stages n hf ⟨by omega, by omega⟩ (by omega) _ (Rd.ext (flat_carries _ _) xt hR)) ?_
      rintro _ w7 ⟨v7, rfl, x7, hv7⟩; obtain ⟨A7, c7, rfl, hq7, _⟩ := id hv7; have hs7 := x7.size; refine ⟨_, rfl, ?_⟩
      refine S_val (X_assign (v := .slice _ _ _) rfl) ?_
      refine S_val (X_assign (v := .int _ _) rfl) ?_
      refine S_nil ?_
      refine run_ret Try.func27 (res2 (v := .slice _ _ _) (x := .int _ _) Try.results27 rfl rfl) ?_
      have hw : WE every cyc stages n = 0 := by rw [WE, if_neg (by rw [hc4]; simp), if_neg (by rw [hc6]; simp)]
      exact ⟨_, by rw [hw], xt, by rw [WL, hw]; exact hv7⟩

theorem c28 (every stages n : Int) (w : World) (hR : Ints w v cyc) : Calls Try.prog 28 #[.agg #[.int .i64 every, v, .int .i64 stages], .int .i64 n] w fun e w' => ∃ x, e = .returned (.tuple #[x, .int .i64 (WE every cyc stages n)]) ∧ Ext w w' ∧ Slots2 w' x (WL every cyc stages n) := by
  obtain ⟨A, c, rfl, hlc, hcm, hn0, hA⟩ := id hR
  refine run_of 31 Try.func28 rfl rfl rfl ?_
  refine run_seq ?_
  refine run_ops ?_
  refine S_box (v := .agg _) rfl rfl fun b1 w1 hb1 x1 hs1 k1 => ?_
  refine S_val (X_assign (v := .slice _ _ _) rfl) ?_
  refine S_val (X_assign (v := .int _ _) rfl) ?_
  refine S_nil ?_
  refine run_seq ?_
  refine run_seq ?_
  refine run_cutX [6, 7, 8, 9, 10, 11, 12] 12 (.bool (!fairB every cyc stages || decide (n < 0))) ?_ ?_
  · 
    refine S_val (lda [.int _ _, .slice _ _ _, .int _ _] Try.isAgg51 Try.sizeOf51 rfl) ?_
    refine S_call (X_call Try.call101 rfl rfl) (c101 every stages _ cyc _ (Rd.ext (flat_carries _ _) xt hR)) ?_
    rintro _ w2 ⟨rfl, x2⟩; have hs2 := x2.size; refine ⟨_, rfl, ?_⟩
    refine S_val (X_not rfl) ?_
    refine S_val (X_move (v := .bool _) rfl) ?_
    refine S_guard rfl rfl rfl (fun hg3 => ?_) (fun hg3 => ?_)
    · 
      refine S_val (X_move (v := .int _ _) rfl) ?_
      refine S_guard_yes rfl rfl rfl hg3 ?_
      refine S_val (X_lss rfl rfl) ?_
      refine S_val (X_pick_f (v := .bool _) rfl hg3 rfl) ?_
      exact C_nil xt (bv rfl (by first | (simp_all; done) | (simp_all; omega) | (simp at *; omega)))
    · 
      refine S_guard_no rfl rfl rfl hg3 ?_
      refine S_val (X_pick_t (v := .bool _) rfl hg3 rfl) ?_
      exact C_nil xt (bv rfl (by first | (simp_all; done) | (simp_all; omega) | (simp at *; omega)))
  intro ψ3 w3 x3 hs3
  refine run_if rfl (fun hc4 => ?_) (fun hc4 => ?_)   -- t12
  · 
    refine run_seq ?_
    refine run_ops ?_
    refine S_val (X_assign (v := .slice _ _ _) rfl) ?_
    refine S_val (X_assign (v := .int _ _) rfl) ?_
    refine S_nil ?_
    refine run_ret Try.func28 (res2 (v := .slice _ _ _) (x := .int _ _) Try.results28 rfl rfl) ?_
    have hw : WE every cyc stages n = 2 := by rw [WE, if_pos hc4]
    exact ⟨_, by rw [hw], xt, by rw [WL, hw]; exact rd_nil⟩
  · 
    have hf : fairB every cyc stages = true := by simp at hc4; exact hc4.1
    have hn0' : 0 ≤ n := by simp at hc4; omega
    obtain ⟨he, hcl, _, hst1, hst2⟩ := fair_out hf
    have hes := mulb (a := every) (b := stages) (A := 65536) (B := 131072) (by omega) (by omega) (by omega) (by omega)
    refine run_skip ?_
    refine run_seq ?_
    refine run_seq ?_
    refine run_cut [13, 14, 15, 16, 17, 18, 19, 20, 21, 22, 23, 24, 25, 26, 27] 27 (.bool (decide (65536 < n) || decide (65536 < n * every + every * stages))) ?_ ?_
    · 
      refine S_val (X_move (v := .int _ _) rfl) ?_
      refine S_val (X_gtr rfl rfl) ?_
      refine S_val (X_move (v := .bool _) rfl) ?_
      refine S_guard rfl rfl rfl (fun hg2 => ?_) (fun hg2 => ?_)
      · 
        refine S_val (X_move (v := .int _ _) rfl) ?_
        refine S_guard_yes rfl rfl rfl hg2 ?_
        refine S_val (X_fieldAddr 0 Try.underlying51 rfl Try.sizeOf3 rfl) ?_
        refine S_guard_yes rfl rfl rfl hg2 ?_
        refine S_val (ld Try.isAgg3 rfl) ?_
        refine S_guard_yes rfl rfl rfl hg2 ?_
        refine S_val (X_mul rfl rfl (wr64 (by have := mulb (a := n) (b := every) (A := 65536) (B := 65536) (by omega) (by simp at hg2; omega) (by omega) (by omega); omega))) ?_
        refine S_guard_yes rfl rfl rfl hg2 ?_
        refine S_val (X_fieldAddr 0 Try.underlying51 rfl Try.sizeOf3 rfl) ?_
        refine S_guard_yes rfl rfl rfl hg2 ?_
        refine S_val (ld Try.isAgg3 rfl) ?_
        refine S_guard_yes rfl rfl rfl hg2 ?_
        refine S_val (X_fieldAddr 2 Try.underlying51 rfl Try.sizeOf3 rfl) ?_
        refine S_guard_yes rfl rfl rfl hg2 ?_
        refine S_val (ld Try.isAgg3 rfl) ?_
        refine S_guard_yes rfl rfl rfl hg2 ?_
        refine S_val (X_mul rfl rfl (wr64 (by omega))) ?_
        refine S_guard_yes rfl rfl rfl hg2 ?_
        refine S_val (X_add rfl rfl (wr64 (by have := mulb (a := n) (b := every) (A := 65536) (B := 65536) (by omega) (by simp at hg2; omega) (by omega) (by omega); omega))) ?_
        refine S_guard_yes rfl rfl rfl hg2 ?_
        refine S_val (X_gtr rfl rfl) ?_
        refine S_val (X_pick_f (v := .bool _) rfl hg2 rfl) ?_
        exact C_nil rfl (bv rfl (by first | (simp_all; done) | (simp_all; omega) | (simp at *; omega)))
      · 
        refine S_guard_no rfl rfl rfl hg2 ?_
        refine S_guard_no rfl rfl rfl hg2 ?_
        refine S_guard_no rfl rfl rfl hg2 ?_
        refine S_guard_no rfl rfl rfl hg2 ?_
        refine S_guard_no rfl rfl rfl hg2 ?_
        refine S_guard_no rfl rfl rfl hg2 ?_
        refine S_guard_no rfl rfl rfl hg2 ?_
        refine S_guard_no rfl rfl rfl hg2 ?_
        refine S_guard_no rfl rfl rfl hg2 ?_
        refine S_guard_no rfl rfl rfl hg2 ?_
        refine S_val (X_pick_t (v := .bool _) rfl hg2 rfl) ?_
        exact C_nil rfl (bv rfl (by first | (simp_all; done) | (simp_all; omega) | (simp at *; omega)))
    intro ψ5
    refine run_if rfl (fun hc6 => ?_) (fun hc6 => ?_)   -- t27
    · 
      refine run_seq ?_
      refine run_ops ?_
      refine S_val (X_assign (v := .slice _ _ _) rfl) ?_
      refine S_val (X_assign (v := .int _ _) rfl) ?_
      refine S_nil ?_
      refine run_ret Try.func28 (res2 (v := .slice _ _ _) (x := .int _ _) Try.results28 rfl rfl) ?_
      have hw : WE every cyc stages n = 3 := by rw [WE, if_neg (by rw [hc4]; simp), if_pos hc6]
      exact ⟨_, by rw [hw], xt, by rw [WL, hw]; exact rd_nil⟩
    · 
      have h6 : n ≤ 65536 ∧ n * every + every * stages ≤ 65536 := by simp at hc6; omega
      refine run_skip ?_
      refine run_seq ?_
      refine run_ops ?_
      refine S_val (lda [.int _ _, .slice _ _ _, .int _ _] Try.isAgg51 Try.sizeOf51 rfl) ?_
      refine S_val (X_move (v := .int _ _) rfl) ?_
      refine S_call (X_call Try.call102 rfl rfl) (c102 every stages n hf ⟨by omega, by omega⟩ (by omega) _ (Rd.ext (flat_carries _ _) xt hR)) ?_
      rintro _ w7 ⟨v7, rfl, x7, hv7⟩; obtain ⟨A7, c7, rfl, hq7, _⟩ := id hv7; have hs7 := x7.size; refine ⟨_, rfl, ?_⟩
      refine S_val (X_assign (v := .slice _ _ _) rfl) ?_
      refine S_val (X_assign (v := .int _ _) rfl) ?_
      refine S_nil ?_
      refine run_ret Try.func28 (res2 (v := .slice _ _ _) (x := .int _ _) Try.results28 rfl rfl) ?_
      have hw : WE every cyc stages n = 0 := by rw [WE, if_neg (by rw [hc4]; simp), if_neg (by rw [hc6]; simp)]
      exact ⟨_, by rw [hw], xt, by rw [WL, hw]; exact hv7⟩

theorem c30 (every stages : Int) (w : World) (hR : Ints w v cyc) : Calls Try.prog 30 #[.agg #[.int .i64 every, v, .int .i64 stages]] w fun e w' => ∃ x y z, e = .returned (.tuple #[x, y, z, .int .i64 (PaE every cyc stages)]) ∧ Ext w w' ∧ Slots2 w' x (PFr (PLs every cyc stages) (pk every stages)) ∧ Slots2 w' y (PKe (PLs every cyc stages) (pk every stages) every) ∧ Slots2 w' z (PLa (PLs every cyc stages) (pk every stages) every) := by
  obtain ⟨A, c, rfl, hlc, hcm, hn0, hA⟩ := id hR
  refine run_of 44 Try.func30 rfl rfl rfl ?_
  refine run_seq ?_
  refine run_ops ?_
  refine S_box (v := .agg _) rfl rfl fun b1 w1 hb1 x1 hs1 k1 => ?_
  refine S_val (X_assign (v := .slice _ _ _) rfl) ?_
  refine S_val (X_assign (v := .slice _ _ _) rfl) ?_
  refine S_val (X_assign (v := .slice _ _ _) rfl) ?_
  refine S_val (X_assign (v := .int _ _) rfl) ?_
  refine S_nil ?_
  refine run_seq ?_
  refine run_seq ?_
  refine run_ops ?_
  refine S_val (lda [.int _ _, .slice _ _ _, .int _ _] Try.isAgg51 Try.sizeOf51 rfl) ?_
  refine S_call (X_call Try.call101 rfl rfl) (c101 every stages _ cyc _ (Rd.ext (flat_carries _ _) xt hR)) ?_
  rintro _ w2 ⟨rfl, x2⟩; have hs2 := x2.size; refine ⟨_, rfl, ?_⟩
  refine S_val (X_not rfl) ?_
  refine S_nil ?_
  refine run_if rfl (fun hc3 => ?_) (fun hc3 => ?_)   -- t10
  · 
    refine run_seq ?_
    refine run_ops ?_
    refine S_val (X_assign (v := .slice _ _ _) rfl) ?_
    refine S_val (X_assign (v := .slice _ _ _) rfl) ?_
    refine S_val (X_assign (v := .slice _ _ _) rfl) ?_
    refine S_val (X_assign (v := .int _ _) rfl) ?_
    refine S_nil ?_
    refine run_ret Try.func30 (rs4 (v := .slice _ _ _) (x := .slice _ _ _) (y := .slice _ _ _) (z := .int _ _) Try.results30 rfl rfl rfl rfl) ?_
    have hw : PaE every cyc stages = 2 := by rw [PaE, if_pos hc3]
    have hl : PLs every cyc stages = [] := by rw [PLs, hw]; rfl
    exact ⟨_, _, _, by rw [hw], xt, by rw [hl]; simp only [PFr, List.drop_nil, List.take_nil]; exact rd_nil, by rw [hl]; simp only [PKe, List.drop_nil, List.take_nil]; exact rd_nil, by rw [hl]; simp only [PLa, List.drop_nil, List.take_nil]; exact rd_nil⟩
  · 
    have hf : fairB every cyc stages = true := by simpa using hc3
    obtain ⟨he, _, _, hst1, hst2⟩ := fair_out hf
    have hes := mulb (a := 3 * every) (b := stages) (A := 3 * 65536) (B := 131072) (by omega) (by omega) (by omega) (by omega)
    refine run_skip ?_
    refine run_seq ?_
    refine run_seq ?_
    refine run_ops ?_
    refine S_val (X_fieldAddr 0 Try.underlying51 rfl Try.sizeOf3 rfl) ?_
    refine S_val (ld Try.isAgg3 rfl) ?_
    refine S_val (X_mul rfl rfl (wr64 (by omega))) ?_
    refine S_val (X_fieldAddr 2 Try.underlying51 rfl Try.sizeOf3 rfl) ?_
    refine S_val (ld Try.isAgg3 rfl) ?_
    refine S_val (X_mul rfl rfl (wr64 (by omega))) ?_
    refine S_val (X_gtr rfl rfl) ?_
    refine S_nil ?_
    refine run_if rfl (fun hc4 => ?_) (fun hc4 => ?_)   -- t17
    · 
      refine run_seq ?_
      refine run_ops ?_
      refine S_val (X_assign (v := .slice _ _ _) rfl) ?_
      refine S_val (X_assign (v := .slice _ _ _) rfl) ?_
      refine S_val (X_assign (v := .slice _ _ _) rfl) ?_
      refine S_val (X_assign (v := .int _ _) rfl) ?_
      refine S_nil ?_
      refine run_ret Try.func30 (rs4 (v := .slice _ _ _) (x := .slice _ _ _) (y := .slice _ _ _) (z := .int _ _) Try.results30 rfl rfl rfl rfl) ?_
      have hw : PaE every cyc stages = 3 := by rw [PaE, if_neg (by rw [hf]; simp), if_pos hc4]
      have hl : PLs every cyc stages = [] := by rw [PLs, hw]; rfl
      exact ⟨_, _, _, by rw [hw], xt, by rw [hl]; simp only [PFr, List.drop_nil, List.take_nil]; exact rd_nil, by rw [hl]; simp only [PKe, List.drop_nil, List.take_nil]; exact rd_nil, by rw [hl]; simp only [PLa, List.drop_nil, List.take_nil]; exact rd_nil⟩
    · 
      have hpk : pk every stages = (stages - 1) * every := rfl
      obtain ⟨_, hp1, hp2, hp3, hp4, hp5, hp6, hp7, hp8⟩ := part_facts hf (by simpa using hc4)
      have hwp : PaE every cyc stages = 0 := by rw [PaE, if_neg (by rw [hf]; simp), if_neg (by rw [hc4]; simp)]
      refine run_skip ?_
      refine run_seq ?_
      refine run_ops ?_
      refine S_val (lda [.int _ _, .slice _ _ _, .int _ _] Try.isAgg51 Try.sizeOf51 rfl) ?_
      refine S_val (X_fieldAddr 2 Try.underlying51 rfl Try.sizeOf3 rfl) ?_
      refine S_val (ld Try.isAgg3 rfl) ?_
      refine S_call (X_call Try.call102 rfl rfl) (c102 every stages stages hf ⟨by omega, by omega⟩ (by omega) _ (Rd.ext (flat_carries _ _) xt hR)) ?_
      rintro _ w5 ⟨v5, rfl, x5, hv5⟩; obtain ⟨A5, c5, rfl, hq5, hm5, hz5, hr5⟩ := id hv5; have hs5 := x5.size; refine ⟨_, rfl, ?_⟩
      refine S_val (X_assign (v := .slice _ _ _) rfl) ?_
      refine S_nil ?_
      refine run_seq ?_
      refine run_ops ?_
      refine S_val (X_fieldAddr 2 Try.underlying51 rfl Try.sizeOf3 rfl) ?_
      refine S_val (ld Try.isAgg3 rfl) ?_
      refine S_val (X_sub rfl rfl (wr64 (by omega))) ?_
      refine S_val (X_fieldAddr 0 Try.underlying51 rfl Try.sizeOf3 rfl) ?_
      refine S_val (ld Try.isAgg3 rfl) ?_
      refine S_val (X_mul rfl rfl (c := pk every stages) (wr64 (by omega))) ?_
      refine S_val (X_assign (v := .int _ _) rfl) ?_
      refine S_nil ?_
      refine run_seq ?_
      refine run_plan_ext [.held 0, .held 1, .held 2, .held 3, .held 4, .held 5, .held 6, .held 7, .held 8, .held 9, .held 10, .held 11, .held 12, .held 13, .held 14, .held 15, .held 16, .held 17, .held 18, .held 19] rfl (by kernel_rfl) fun w6 x6 hs6 => ?_
      refine P_val rfl (by first | assumption | exact Step.refl _ _ | exact xt) (fun _ _ => X_move (v := .slice _ _ _) rfl) ?_
      refine P_val rfl (by first | assumption | exact Step.refl _ _ | exact xt) (fun _ _ => X_move (v := .int _ _) rfl) ?_
      refine P_val rfl (by first | assumption | exact Step.refl _ _ | exact xt) (fun _ _ => X_slice Try.underlying52 Try.sizeOf151 rfl rfl rfl rfl (sb_h (by rw [pk]; omega) (by rw [pk]; omega))) ?_
      refine P_val rfl (by first | assumption | exact Step.refl _ _ | exact xt) (fun _ _ => X_move (v := .slice _ _ _) rfl) ?_
      refine P_val rfl (by first | assumption | exact Step.refl _ _ | exact xt) (fun _ _ => X_move (v := .int _ _) rfl) ?_
      refine P_val rfl (by first | assumption | exact Step.refl _ _ | exact xt) (fun _ _ => X_move (v := .int _ _) rfl) ?_
      refine P_val rfl (by first | assumption | exact Step.refl _ _ | exact xt) (fun _ _ => X_fieldAddr 0 Try.underlying51 rfl Try.sizeOf3 rfl) ?_
      refine P_val rfl (by first | assumption | exact Step.refl _ _ | exact xt) (fun _ s => ldx s Try.isAgg3 rfl) ?_
      refine P_val rfl (by first | assumption | exact Step.refl _ _ | exact xt) (fun _ _ => X_add rfl rfl (wr64 (by rw [pk]; omega))) ?_
      refine P_val rfl (by first | assumption | exact Step.refl _ _ | exact xt) (fun _ _ => X_slice Try.underlying52 Try.sizeOf151 rfl rfl rfl rfl (sb_lh (by rw [pk]; omega) (by omega) (by rw [pk]; omega))) ?_
      refine P_val rfl (by first | assumption | exact Step.refl _ _ | exact xt) (fun _ _ => X_move (v := .slice _ _ _) rfl) ?_
      refine P_val rfl (by first | assumption | exact Step.refl _ _ | exact xt) (fun _ _ => X_move (v := .int _ _) rfl) ?_
      refine P_val rfl (by first | assumption | exact Step.refl _ _ | exact xt) (fun _ _ => X_fieldAddr 0 Try.underlying51 rfl Try.sizeOf3 rfl) ?_
      refine P_val rfl (by first | assumption | exact Step.refl _ _ | exact xt) (fun _ s => ldx s Try.isAgg3 rfl) ?_
      refine P_val rfl (by first | assumption | exact Step.refl _ _ | exact xt) (fun _ _ => X_add rfl rfl (wr64 (by rw [pk]; omega))) ?_
      refine P_val rfl (by first | assumption | exact Step.refl _ _ | exact xt) (fun _ _ => X_slice Try.underlying52 Try.sizeOf151 rfl rfl rfl rfl (sb_l (by rw [pk]; omega) (by rw [pk]; omega))) ?_
      refine P_val rfl (by first | assumption | exact Step.refl _ _ | exact xt) (fun _ _ => X_assign (v := .slice _ _ _) rfl) ?_
      refine P_val rfl (by first | assumption | exact Step.refl _ _ | exact xt) (fun _ _ => X_assign (v := .slice _ _ _) rfl) ?_
      refine P_val rfl (by first | assumption | exact Step.refl _ _ | exact xt) (fun _ _ => X_assign (v := .slice _ _ _) rfl) ?_
      refine P_val rfl (by first | assumption | exact Step.refl _ _ | exact xt) (fun _ _ => X_assign (v := .int _ _) rfl) ?_
      refine P_nil ?_
      refine run_ret Try.func30 (rs4 (v := .slice _ _ _) (x := .slice _ _ _) (y := .slice _ _ _) (z := .int _ _) Try.results30 rfl rfl rfl rfl) ?_
      have hl : PLs every cyc stages = rowsL every cyc stages stages := by rw [PLs, hwp]; rfl
      have hr6 := RdA.ext (w' := w6) rowR_carries (xt (a := w5)) hr5
      rw [hl, hwp]
      exact ⟨_, _, _, rfl, xt, rd_sub hr6 (Nat.zero_le _) (by omega) (by omega) (by omega) hm5 hz5, rd_sub hr6 (by omega) (by omega) (by omega) (by omega) hm5 hz5, rd_sub hr6 (by omega) (by omega) (by omega) (by omega) hm5 hz5⟩

theorem c29 (every stages : Int) (he0 : i64ok every) (w : World) (hR : Ints w v cyc) : Calls Try.prog 29 #[.agg #[.int .i64 every, v, .int .i64 stages]] w fun e w' => ∃ x y z, e = .returned (.tuple #[x, y, z, .int .i64 (PaE every cyc stages)]) ∧ Ext w w' ∧ Slots2 w' x (PFr (PLs every cyc stages) (pk every stages)) ∧ Slots2 w' y (PKe (PLs every cyc stages) (pk every stages) every) ∧ Slots2 w' z (PLa (PLs every cyc stages) (pk every stages) every) := by
  obtain ⟨A, c, rfl, hlc, hcm, hn0, hA⟩ := id hR
  refine run_of 49 Try.func29 rfl rfl rfl ?_
  refine run_seq ?_
  refine run_ops ?_
  refine S_box (v := .agg _) rfl rfl fun b1 w1 hb1 x1 hs1 k1 => ?_
  refine S_val (X_assign (v := .slice _ _ _) rfl) ?_
  refine S_val (X_assign (v := .slice _ _ _) rfl) ?_
  refine S_val (X_assign (v := .slice _ _ _) rfl) ?_
  refine S_val (X_assign (v := .int _ _) rfl) ?_
  refine S_nil ?_
  refine run_seq ?_
  refine run_seq ?_
  refine run_ops ?_
  refine S_val (lda [.int _ _, .slice _ _ _, .int _ _] Try.isAgg51 Try.sizeOf51 rfl) ?_
  refine S_call (X_call Try.call99 rfl rfl) (c99 every stages he0 _ cyc _ (Rd.ext (flat_carries _ _) xt hR)) ?_
  rintro _ w2 ⟨rfl, x2⟩; have hs2 := x2.size; refine ⟨_, rfl, ?_⟩
  refine S_val (X_not rfl) ?_
  refine S_nil ?_
  refine run_if rfl (fun hc3 => ?_) (fun hc3 => ?_)   -- t10
  · 
    refine run_seq ?_
    refine run_ops ?_
    refine S_val (X_assign (v := .slice _ _ _) rfl) ?_
    refine S_val (X_assign (v := .slice _ _ _) rfl) ?_
    refine S_val (X_assign (v := .slice _ _ _) rfl) ?_
    refine S_val (X_assign (v := .int _ _) rfl) ?_
    refine S_nil ?_
    refine run_ret Try.func29 (rs4 (v := .slice _ _ _) (x := .slice _ _ _) (y := .slice _ _ _) (z := .int _ _) Try.results29 rfl rfl rfl rfl) ?_
    have hw : PaE every cyc stages = 2 := by rw [PaE, if_pos hc3]
    have hl : PLs every cyc stages = [] := by rw [PLs, hw]; rfl
    exact ⟨_, _, _, by rw [hw], xt, by rw [hl]; simp only [PFr, List.drop_nil, List.take_nil]; exact rd_nil, by rw [hl]; simp only [PKe, List.drop_nil, List.take_nil]; exact rd_nil, by rw [hl]; simp only [PLa, List.drop_nil, List.take_nil]; exact rd_nil⟩
  · 
    have hf : fairB every cyc stages = true := by simpa using hc3
    obtain ⟨he, _, _, hst1, hst2⟩ := fair_out hf
    have hes := mulb (a := 3 * every) (b := stages) (A := 3 * 65536) (B := 131072) (by omega) (by omega) (by omega) (by omega)
    refine run_skip ?_
    refine run_seq ?_
    refine run_seq ?_
    refine run_ops ?_
    refine S_val (X_fieldAddr 0 Try.underlying51 rfl Try.sizeOf3 rfl) ?_
    refine S_val (ld Try.isAgg3 rfl) ?_
    refine S_val (X_mul rfl rfl (wr64 (by omega))) ?_
    refine S_val (X_fieldAddr 2 Try.underlying51 rfl Try.sizeOf3 rfl) ?_
    refine S_val (ld Try.isAgg3 rfl) ?_
    refine S_val (X_mul rfl rfl (wr64 (by omega))) ?_
    refine S_val (X_gtr rfl rfl) ?_
    refine S_nil ?_
    refine run_if rfl (fun hc4 => ?_) (fun hc4 => ?_)   -- t17
    · 
      refine run_seq ?_
      refine run_ops ?_
      refine S_val (X_assign (v := .slice _ _ _) rfl) ?_
      refine S_val (X_assign (v := .slice _ _ _) rfl) ?_
      refine S_val (X_assign (v := .slice _ _ _) rfl) ?_
      refine S_val (X_assign (v := .int _ _) rfl) ?_
      refine S_nil ?_
      refine run_ret Try.func29 (rs4 (v := .slice _ _ _) (x := .slice _ _ _) (y := .slice _ _ _) (z := .int _ _) Try.results29 rfl rfl rfl rfl) ?_
      have hw : PaE every cyc stages = 3 := by rw [PaE, if_neg (by rw [hf]; simp), if_pos hc4]
      have hl : PLs every cyc stages = [] := by rw [PLs, hw]; rfl
      exact ⟨_, _, _, by rw [hw], xt, by rw [hl]; simp only [PFr, List.drop_nil, List.take_nil]; exact rd_nil, by rw [hl]; simp only [PKe, List.drop_nil, List.take_nil]; exact rd_nil, by rw [hl]; simp only [PLa, List.drop_nil, List.take_nil]; exact rd_nil⟩
    · 
      have hpk : pk every stages = (stages - 1) * every := rfl
      obtain ⟨_, hp1, hp2, hp3, hp4, hp5, hp6, hp7, hp8⟩ := part_facts hf (by simpa using hc4)
      have hwp : PaE every cyc stages = 0 := by rw [PaE, if_neg (by rw [hf]; simp), if_neg (by rw [hc4]; simp)]
      refine run_skip ?_
      refine run_seq ?_
      refine run_ops ?_
      refine S_val (lda [.int _ _, .slice _ _ _, .int _ _] Try.isAgg51 Try.sizeOf51 rfl) ?_
      refine S_val (X_fieldAddr 2 Try.underlying51 rfl Try.sizeOf3 rfl) ?_
      refine S_val (ld Try.isAgg3 rfl) ?_
      refine S_call (X_call Try.call100 rfl rfl) (c100 every stages stages hf ⟨by omega, by omega⟩ (by omega) _ (Rd.ext (flat_carries _ _) xt hR)) ?_
      rintro _ w5 ⟨v5, rfl, x5, hv5⟩; obtain ⟨A5, c5, rfl, hq5, hm5, hz5, hr5⟩ := id hv5; have hs5 := x5.size; refine ⟨_, rfl, ?_⟩
      refine S_val (X_assign (v := .slice _ _ _) rfl) ?_
      refine S_nil ?_
      refine run_seq ?_
      refine run_ops ?_
      refine S_val (X_fieldAddr 2 Try.underlying51 rfl Try.sizeOf3 rfl) ?_
      refine S_val (ld Try.isAgg3 rfl) ?_
      refine S_val (X_sub rfl rfl (wr64 (by omega))) ?_
      refine S_val (X_fieldAddr 0 Try.underlying51 rfl Try.sizeOf3 rfl) ?_
      refine S_val (ld Try.isAgg3 rfl) ?_
      refine S_val (X_mul rfl rfl (c := pk every stages) (wr64 (by omega))) ?_
      refine S_val (X_assign (v := .int _ _) rfl) ?_
      refine S_nil ?_
      refine run_seq ?_
      refine run_plan_ext [.held 0, .held 1, .held 2, .held 3, .held 4, .held 5, .held 6, .held 7, .held 8, .held 9, .held 10, .held 11, .held 12, .held 13, .held 14, .held 15, .held 16, .held 17, .held 18, .held 19, .held 20, .held 21, .held 22, .held 23, .held 24] rfl (by kernel_rfl) fun w6 x6 hs6 => ?_
      refine P_val rfl (by first | assumption | exact Step.refl _ _ | exact xt) (fun _ _ => X_move (v := .slice _ _ _) rfl) ?_
      refine P_val rfl (by first | assumption | exact Step.refl _ _ | exact xt) (fun _ _ => X_move (v := .int _ _) rfl) ?_
      refine P_val rfl (by first | assumption | exact Step.refl _ _ | exact xt) (fun _ _ => X_move (v := .int _ _) rfl) ?_
      refine P_val rfl (by first | assumption | exact Step.refl _ _ | exact xt) (fun _ _ => X_slice Try.underlying52 Try.sizeOf151 rfl rfl rfl rfl (sb_hm (by rw [pk]; omega) (by omega) (by rw [pk]; omega))) ?_
      refine P_val rfl (by first | assumption | exact Step.refl _ _ | exact xt) (fun _ _ => X_move (v := .slice _ _ _) rfl) ?_
      refine P_val rfl (by first | assumption | exact Step.refl _ _ | exact xt) (fun _ _ => X_move (v := .int _ _) rfl) ?_
      refine P_val rfl (by first | assumption | exact Step.refl _ _ | exact xt) (fun _ _ => X_move (v := .int _ _) rfl) ?_
      refine P_val rfl (by first | assumption | exact Step.refl _ _ | exact xt) (fun _ _ => X_fieldAddr 0 Try.underlying51 rfl Try.sizeOf3 rfl) ?_
      refine P_val rfl (by first | assumption | exact Step.refl _ _ | exact xt) (fun _ s => ldx s Try.isAgg3 rfl) ?_
      refine P_val rfl (by first | assumption | exact Step.refl _ _ | exact xt) (fun _ _ => X_add rfl rfl (wr64 (by rw [pk]; omega))) ?_
      refine P_val rfl (by first | assumption | exact Step.refl _ _ | exact xt) (fun _ _ => X_move (v := .int _ _) rfl) ?_
      refine P_val rfl (by first | assumption | exact Step.refl _ _ | exact xt) (fun _ _ => X_fieldAddr 0 Try.underlying51 rfl Try.sizeOf3 rfl) ?_
      refine P_val rfl (by first | assumption | exact Step.refl _ _ | exact xt) (fun _ s => ldx s Try.isAgg3 rfl) ?_
      refine P_val rfl (by first | assumption | exact Step.refl _ _ | exact xt) (fun _ _ => X_add rfl rfl (wr64 (by rw [pk]; omega))) ?_
      refine P_val rfl (by first | assumption | exact Step.refl _ _ | exact xt) (fun _ _ => X_slice Try.underlying52 Try.sizeOf151 rfl rfl rfl rfl (sb_lhm (by rw [pk]; omega) (by omega) (by omega) (by rw [pk]; omega))) ?_
      refine P_val rfl (by first | assumption | exact Step.refl _ _ | exact xt) (fun _ _ => X_move (v := .slice _ _ _) rfl) ?_
      refine P_val rfl (by first | assumption | exact Step.refl _ _ | exact xt) (fun _ _ => X_move (v := .int _ _) rfl) ?_
      refine P_val rfl (by first | assumption | exact Step.refl _ _ | exact xt) (fun _ _ => X_fieldAddr 0 Try.underlying51 rfl Try.sizeOf3 rfl) ?_
      refine P_val rfl (by first | assumption | exact Step.refl _ _ | exact xt) (fun _ s => ldx s Try.isAgg3 rfl) ?_
      refine P_val rfl (by first | assumption | exact Step.refl _ _ | exact xt) (fun _ _ => X_add rfl rfl (wr64 (by rw [pk]; omega))) ?_
      refine P_val rfl (by first | assumption | exact Step.refl _ _ | exact xt) (fun _ _ => X_slice Try.underlying52 Try.sizeOf151 rfl rfl rfl rfl (sb_l (by rw [pk]; omega) (by rw [pk]; omega))) ?_
      refine P_val rfl (by first | assumption | exact Step.refl _ _ | exact xt) (fun _ _ => X_assign (v := .slice _ _ _) rfl) ?_
      refine P_val rfl (by first | assumption | exact Step.refl _ _ | exact xt) (fun _ _ => X_assign (v := .slice _ _ _) rfl) ?_
      refine P_val rfl (by first | assumption | exact Step.refl _ _ | exact xt) (fun _ _ => X_assign (v := .slice _ _ _) rfl) ?_
      refine P_val rfl (by first | assumption | exact Step.refl _ _ | exact xt) (fun _ _ => X_assign (v := .int _ _) rfl) ?_
      refine P_nil ?_
      refine run_ret Try.func29 (rs4 (v := .slice _ _ _) (x := .slice _ _ _) (y := .slice _ _ _) (z := .int _ _) Try.results29 rfl rfl rfl rfl) ?_
      have hl : PLs every cyc stages = rowsL every cyc stages stages := by rw [PLs, hwp]; rfl
      have hr6 := RdA.ext (w' := w6) rowR_carries (xt (a := w5)) hr5
      rw [hl, hwp]
      exact ⟨_, _, _, rfl, xt, rd_sub hr6 (Nat.zero_le _) (by omega) (by omega) (by omega) hm5 hz5, rd_sub hr6 (by omega) (by omega) (by omega) (by omega) hm5 hz5, rd_sub hr6 (by omega) (by omega) (by omega) (by omega) hm5 hz5⟩
end Go.Proofs.Ytfhilbhmkifepaa
