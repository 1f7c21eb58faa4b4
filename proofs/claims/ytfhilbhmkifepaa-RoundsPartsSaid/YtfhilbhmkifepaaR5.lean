/- rounds: the law's own functions; no condition. -/
import Derived.Test.YtfhilbhmkifepaaR4
import Derived.Test.YtfhilbhmkifepaaE10
namespace Go.Proofs.Ytfhilbhmkifepaa
open Go.RowKit

theorem c31 (va vb : Value) (L : List (List (Int × Int))) (w : World) (hA : Slots2 w va L) (hB : Slots2 w vb L) : Calls Try.prog 31 #[va, vb] w fun e w' => e = .returned (.bool true) ∧ Ext w w' := by
  obtain ⟨A, ca, rfl, ha1, ha2, ha3, hrA⟩ := id hA
  obtain ⟨B, cb, rfl, hb1, hb2, hb3, hrB⟩ := id hB
  have hmx : L.length ≤ 9223372036854775807 := Nat.le_trans ha1 (by simpa [maxLen] using ha2)
  refine run_of 53 Try.func31 rfl rfl rfl ?_
  refine run_seq ?_
  refine run_ops ?_
  refine S_val (X_assign (v := .bool _) rfl) ?_
  refine S_nil ?_
  refine run_seq ?_
  refine run_seq ?_
  refine run_ops ?_
  refine S_val (X_move (v := .slice _ _ _) rfl) ?_
  refine S_val (X_len Try.underlying52 rfl) ?_
  refine S_val (X_move (v := .slice _ _ _) rfl) ?_
  refine S_val (X_len Try.underlying52 rfl) ?_
  refine S_val (X_neq rfl rfl) ?_
  refine S_nil ?_
  refine run_if rfl (fun hc1 => ?_) (fun hc1 => ?_)   -- t11
  · 
    exact absurd hc1 (by simp)
  · 
    refine run_skip ?_
    refine run_seq ?_
    refine run_seq ?_
    refine run_ops ?_
    refine S_val (X_move (v := .slice _ _ _) rfl) ?_
    refine S_val (X_len Try.underlying52 rfl) ?_
    refine S_val (X_move (v := .int _ _) rfl) ?_
    refine S_nil ?_
    refine run_block ?_   -- block 0
    refine run_loopI (σ := Nat) [4, 5, 6, 14, 15, 16, 17, 18, 19, 20, 21, 22, 23, 24, 25, 26, 27, 28, 29, 30, 31, 32, 33, 34, 35, 36, 37, 38, 39, 40, 41, 42, 43, 44, 45, 46, 47, 48, 49, 50, 51, 52] (fun s => [(14, .int .i64 (s : Int))]) (fun s w' => Ext w w' ∧ s ≤ L.length) (fun s => L.length - s) 0 ⟨xt, by simp⟩ ⟨rfl, trivial⟩ ?_   -- LOOP 1
    rintro i w2 ψ2 ⟨hI1, hI2⟩ ih1
    refine run_seq ?_
    refine run_ops ?_
    refine S_val (X_lss rfl rfl) ?_
    refine S_nil ?_
    refine run_seq ?_
    refine run_if rfl (fun hc3 => ?_) (fun hc3 => ?_)   -- t15
    · 
      have h3 : i < L.length := by simpa using hc3
      have hrA2 := RdA.ext (w' := w2) rowR_carries hI1 hrA
      have hrB2 := RdA.ext (w' := w2) rowR_carries hI1 hrB
      obtain ⟨Ai, ci, hci, hia, hi1, hi2, _⟩ := rowr_at hrA2 h3
      obtain ⟨Bi, di, hdi, hib, _⟩ := rowr_at hrB2 h3
      have hmi : L[i].length ≤ 9223372036854775807 := Nat.le_trans hi1 (by simpa [maxLen] using hi2)
      refine run_skip ?_
      refine run_seq ?_
      refine run_block ?_   -- block 1
      refine run_seq ?_
      refine run_ops ?_
      refine S_val (X_move (v := .int _ _) rfl) ?_
      refine S_val (X_assign (v := .int _ _) rfl) ?_
      refine S_nil ?_
      refine run_seq ?_
      refine run_seq ?_
      refine run_plan_ext [.held 0, .held 1, .held 2, .held 3, .held 4, .held 5, .held 6, .held 7, .held 8, .held 9, .held 10] rfl (by kernel_rfl) fun w4 x4 hs4 => ?_
      refine P_val rfl (by first | assumption | exact Step.refl _ _ | exact xt) (fun _ _ => X_move (v := .slice _ _ _) rfl) ?_
      refine P_val rfl (by first | assumption | exact Step.refl _ _ | exact xt) (fun _ _ => X_move (v := .int _ _) rfl) ?_
      refine P_val rfl (by first | assumption | exact Step.refl _ _ | exact xt) (fun _ _ => X_indexR hrA2 Try.underlying52 Try.sizeOf151 rfl rfl (by omega) (by omega) (by first | rfl | omega)) ?_
      refine P_val rfl (by first | assumption | exact Step.refl _ _ | exact xt) (fun _ s => ldx s Try.isAgg151 rfl) ?_
      refine P_val rfl (by first | assumption | exact Step.refl _ _ | exact xt) (fun _ _ => X_len Try.underlying151 rfl) ?_
      refine P_val rfl (by first | assumption | exact Step.refl _ _ | exact xt) (fun _ _ => X_move (v := .slice _ _ _) rfl) ?_
      refine P_val rfl (by first | assumption | exact Step.refl _ _ | exact xt) (fun _ _ => X_move (v := .int _ _) rfl) ?_
      refine P_val rfl (by first | assumption | exact Step.refl _ _ | exact xt) (fun _ _ => X_indexR hrB2 Try.underlying52 Try.sizeOf151 rfl rfl (by omega) (by omega) (by first | rfl | omega)) ?_
      refine P_val rfl (by first | assumption | exact Step.refl _ _ | exact xt) (fun _ s => ldx s Try.isAgg151 rfl) ?_
      refine P_val rfl (by first | assumption | exact Step.refl _ _ | exact xt) (fun _ _ => X_len Try.underlying151 rfl) ?_
      refine P_val rfl (by first | assumption | exact Step.refl _ _ | exact xt) (fun _ _ => X_neq rfl rfl) ?_
      refine P_nil ?_
      refine run_if rfl (fun hc5 => ?_) (fun hc5 => ?_)   -- t27
      · 
        exact absurd hc5 (by simp)
      · 
        refine run_skip ?_
        refine run_seq ?_
        refine run_ops ?_
        refine S_val (X_move (v := .slice _ _ _) rfl) ?_
        refine S_val (X_move (v := .int _ _) rfl) ?_
        refine S_val (X_indexR hrA2 Try.underlying52 Try.sizeOf151 rfl rfl (by omega) (by omega) (by first | rfl | omega)) ?_
        refine S_val (ld Try.isAgg151 rfl) ?_
        refine S_val (X_len Try.underlying151 rfl) ?_
        refine S_val (X_move (v := .int _ _) rfl) ?_
        refine S_nil ?_
        refine run_block ?_   -- block 2
        refine run_loopI (σ := Nat) [4, 6, 33, 34, 35, 36, 37, 38, 39, 40, 41, 42, 43, 44, 45, 46, 47, 48, 49, 50, 51] (fun s => [(33, .int .i64 (s : Int))]) (fun s w' => Ext w w' ∧ s ≤ L[i].length) (fun s => L[i].length - s) 0 ⟨xt, by simp⟩ ⟨rfl, trivial⟩ ?_   -- LOOP 2
        rintro s w6 ψ6 ⟨hJ1, hJ2⟩ ih2
        refine run_seq ?_
        refine run_ops ?_
        refine S_val (X_lss rfl rfl) ?_
        refine S_nil ?_
        refine run_seq ?_
        refine run_if rfl (fun hc7 => ?_) (fun hc7 => ?_)   -- t34
        · 
          have h7 : s < L[i].length := by simpa using hc7
          have hrA6 := RdA.ext (w' := w6) rowR_carries hJ1 hrA
          have hrB6 := RdA.ext (w' := w6) rowR_carries hJ1 hrB
          obtain ⟨Ai6, ci6, hci6, hia6, _⟩ := rowr_at hrA6 h3
          obtain ⟨Bi6, di6, hdi6, hib6, _⟩ := rowr_at hrB6 h3
          refine run_skip ?_
          refine run_seq ?_
          refine run_block ?_   -- block 3
          refine run_seq ?_
          refine run_ops ?_
          refine S_val (X_move (v := .int _ _) rfl) ?_
          refine S_val (X_assign (v := .int _ _) rfl) ?_
          refine S_nil ?_
          refine run_seq ?_
          refine run_plan_ext [.held 0, .held 1, .held 2, .held 3, .held 4, .held 5, .held 6, .held 7, .held 8, .held 9, .held 10, .held 11, .held 12, .held 13, .held 14] rfl (by kernel_rfl) fun w8 x8 hs8 => ?_
          refine P_val rfl (by first | assumption | exact Step.refl _ _ | exact xt) (fun _ _ => X_move (v := .slice _ _ _) rfl) ?_
          refine P_val rfl (by first | assumption | exact Step.refl _ _ | exact xt) (fun _ _ => X_move (v := .int _ _) rfl) ?_
          refine P_val rfl (by first | assumption | exact Step.refl _ _ | exact xt) (fun _ _ => X_indexR hrA6 Try.underlying52 Try.sizeOf151 rfl rfl (by omega) (by omega) (by first | rfl | omega)) ?_
          refine P_val rfl (by first | assumption | exact Step.refl _ _ | exact xt) (fun _ s => ldx s Try.isAgg151 rfl) ?_
          refine P_val rfl (by first | assumption | exact Step.refl _ _ | exact xt) (fun _ _ => X_move (v := .int _ _) rfl) ?_
          refine P_val rfl (by first | assumption | exact Step.refl _ _ | exact xt) (fun _ _ => X_indexR hia6 Try.underlying151 Try.sizeOf153 rfl rfl (by omega) (by omega) (by first | rfl | omega)) ?_
          refine P_val rfl (by first | assumption | exact Step.refl _ _ | exact xt) (fun _ s => X_loadAgg (vs := enS _) Try.isAgg153 Try.sizeOf153 rfl (fun q u hu => Ext.cell s (Ext.cell x8 (rda_cells hia6 h7 q u hu)))) ?_
          refine P_val rfl (by first | assumption | exact Step.refl _ _ | exact xt) (fun _ _ => X_move (v := .slice _ _ _) rfl) ?_
          refine P_val rfl (by first | assumption | exact Step.refl _ _ | exact xt) (fun _ _ => X_move (v := .int _ _) rfl) ?_
          refine P_val rfl (by first | assumption | exact Step.refl _ _ | exact xt) (fun _ _ => X_indexR hrB6 Try.underlying52 Try.sizeOf151 rfl rfl (by omega) (by omega) (by first | rfl | omega)) ?_
          refine P_val rfl (by first | assumption | exact Step.refl _ _ | exact xt) (fun _ s => ldx s Try.isAgg151 rfl) ?_
          refine P_val rfl (by first | assumption | exact Step.refl _ _ | exact xt) (fun _ _ => X_move (v := .int _ _) rfl) ?_
          refine P_val rfl (by first | assumption | exact Step.refl _ _ | exact xt) (fun _ _ => X_indexR hib6 Try.underlying151 Try.sizeOf153 rfl rfl (by omega) (by omega) (by first | rfl | omega)) ?_
          refine P_val rfl (by first | assumption | exact Step.refl _ _ | exact xt) (fun _ s => X_loadAgg (vs := enS _) Try.isAgg153 Try.sizeOf153 rfl (fun q u hu => Ext.cell s (Ext.cell x8 (rda_cells hib6 h7 q u hu)))) ?_
          refine P_val rfl (by first | assumption | exact Step.refl _ _ | exact xt) (fun _ _ => X_neqS (by kernel_rfl) rfl rfl (eq153 _ _)) ?_
          refine P_nil ?_
          refine run_if rfl (fun hc9 => ?_) (fun hc9 => ?_)   -- t50
          · 
            exact absurd hc9 (by simp)
          · 
            refine run_skip ?_
            refine run_inBlock ?_
            refine run_ops ?_
            refine S_val (X_add rfl rfl (wr64 (by omega))) ?_
            refine S_val (X_move (v := .int _ _) rfl) ?_
            refine S_nil ?_
            exact ih2 (s + 1) _ _ ⟨xt, by omega⟩ ⟨rfl, trivial⟩ (by omega) (by repeat (first | exact agree_mixW _ _ _ | (apply agree_putS rfl) | (apply agree_upd rfl) | (apply agree_mixIn rfl)))
        · 
          refine run_exit rfl ?_   -- block 2
          refine run_inBlock ?_
          refine run_ops ?_
          refine S_val (X_add rfl rfl (wr64 (by omega))) ?_
          refine S_val (X_move (v := .int _ _) rfl) ?_
          refine S_nil ?_
          exact ih1 (i + 1) _ _ ⟨xt, by omega⟩ ⟨rfl, trivial⟩ (by omega) (by repeat (first | exact agree_mixW _ _ _ | (apply agree_putS rfl) | (apply agree_upd rfl) | (apply agree_mixIn rfl)))
    · 
      refine run_exit rfl ?_   -- block 0
      refine run_seq ?_
      refine run_ops ?_
      refine S_val (X_assign (v := .bool _) rfl) ?_
      refine S_nil ?_
      refine run_ret Try.func31 (res1 (v := .bool _) Try.results31 rfl) ?_
      exact ⟨rfl, xt⟩

def wkL : List (List (Int × Int)) := [[(0, 0)], [(1, 0)], [(0, 1)], [(2, 0), (1, 1)], [], [(2, 1)]]
theorem wk_a (v : Value) (w : World) (hR : Ints w v [0, 1, 3]) : Calls Try.prog 27 #[.agg #[.int .i64 2, v, .int .i64 2], .int .i64 2] w fun e w' => ∃ x, e = .returned (.tuple #[x, .int .i64 0]) ∧ Ext w w' ∧ Slots2 w' x wkL := by
  have h := c27 (v := v) (cyc := [0, 1, 3]) 2 2 2 ⟨by decide, by decide⟩ w hR
  rw [show WE 2 [0, 1, 3] 2 2 = 0 by decide, show WL 2 [0, 1, 3] 2 2 = wkL by decide] at h
  exact h
theorem wk_b (v : Value) (w : World) (hR : Ints w v [0, 1, 3]) : Calls Try.prog 27 #[.agg #[.int .i64 2, v, .int .i64 2], .int .i64 (-1)] w fun e w' => ∃ x, e = .returned (.tuple #[x, .int .i64 2]) ∧ Ext w w' ∧ Slots2 w' x [] := by
  have h := c27 (v := v) (cyc := [0, 1, 3]) 2 2 (-1) ⟨by decide, by decide⟩ w hR
  rw [show WE 2 [0, 1, 3] 2 (-1) = 2 by decide, show WL 2 [0, 1, 3] 2 (-1) = [] by decide] at h
  exact h

theorem c32 (w : World) : Calls Try.prog 32 #[] w fun e w' => e = .returned (.bool true) ∧ Ext w w' := by
  refine run_of 54 Try.func32 rfl rfl rfl ?_
  refine run_seq ?_
  refine run_ops ?_
  refine S_val (X_assign (v := .bool _) rfl) ?_
  refine S_nil ?_
  refine run_seq ?_
  refine run_ops ?_
  refine S_build (rs := [.int .i64 0, .int .i64 0, .int .i64 0]) [.int _ _, .int _ _, .int _ _] Try.underlying24 Try.sizeOf3 Try.zeroValue3 rfl (by kernel_rfl) rfl fun b1 w1 hb1 x1 hs1 k1 => ?_
  refine S_val (X_build1 [0, 1, 2] [.int _ _, .slice _ _ _, .int _ _] [.int _ _, .slice _ _ _, .int _ _] Try.zeroValue51 Try.underlying51 pl51 rfl rfl rfl rfl) ?_
  refine S_alloc Try.zeroValue51 rfl fun b2 w2 hb2 x2 hs2 k2 => ?_
  refine sta0 (vs := [.int _ _, .slice _ _ _, .int _ _]) rfl rfl Try.sizeOf51 fun w3 m3 hs3 k3 => ?_
  refine S_nil ?_
  refine run_seq ?_
  refine run_ops ?_
  refine S_val (lda [.int _ _, .slice _ _ _, .int _ _] Try.isAgg51 Try.sizeOf51 rfl) ?_
  refine S_call (X_call Try.call27 rfl rfl) (wk_a _ _ (Rd.ext (flat_carries _ _) (xt (a := w1)) (ints_blk [0, 1, 3] k1 (by simp [i64ok]) (by simp [maxLen])))) ?_
  rintro _ w4 ⟨v4, rfl, x4, hv4⟩; obtain ⟨A4, c4, rfl, hq4, hm4, hz4, hr4⟩ := id hv4; have hs4 := x4.size; refine ⟨_, rfl, ?_⟩
  refine S_val (X_move (v := .tuple _) rfl) ?_
  refine S_val (X_extract (v := .slice _ _ _) rfl rfl) ?_
  refine S_val (X_extract (v := .int _ _) rfl rfl) ?_
  refine S_val (X_assign (v := .slice _ _ _) rfl) ?_
  refine S_val (X_assign (v := .int _ _) rfl) ?_
  refine S_nil ?_
  refine run_seq ?_
  refine run_ops ?_
  refine S_val (lda [.int _ _, .slice _ _ _, .int _ _] Try.isAgg51 Try.sizeOf51 rfl) ?_
  refine S_call (X_call Try.call27 rfl rfl) (wk_b _ _ (Rd.ext (flat_carries _ _) (xt (a := w1)) (ints_blk [0, 1, 3] k1 (by simp [i64ok]) (by simp [maxLen])))) ?_
  rintro _ w5 ⟨v5, rfl, x5, hv5⟩; obtain ⟨A5, c5, rfl, hq5, hm5, hz5, hr5⟩ := id hv5; have hs5 := x5.size; refine ⟨_, rfl, ?_⟩
  have hr6 := RdA.ext (w' := w5) rowR_carries x5 hr4
  obtain ⟨Ai, ci, hci, hia, _⟩ := rowr_at hr6 (s := 3) (by decide)
  refine S_val (X_move (v := .tuple _) rfl) ?_
  refine S_val (X_extract (v := .slice _ _ _) rfl rfl) ?_
  refine S_val (X_extract (v := .int _ _) rfl rfl) ?_
  refine S_val (X_assign (v := .slice _ _ _) rfl) ?_
  refine S_val (X_assign (v := .int _ _) rfl) ?_
  refine S_nil ?_
  refine run_seq ?_
  refine run_cut [0, 18, 19, 20, 21, 22, 23, 24, 25, 26, 27, 28, 29, 30, 31, 32, 33, 34, 35, 36, 37, 38, 39, 40, 41, 42, 43, 44, 45, 46, 47, 48, 49, 50, 51, 52, 53] 0 (.bool (true)) ?_ ?_
  · 
    refine S_val (X_move (v := .int _ _) rfl) ?_
    refine S_val (X_eql rfl rfl) ?_
    refine S_val (X_move (v := .bool _) rfl) ?_
    refine S_guard_yes rfl rfl rfl rfl ?_
    refine S_val (X_move (v := .slice _ _ _) rfl) ?_
    refine S_guard_yes rfl rfl rfl rfl ?_
    refine S_val (X_len Try.underlying52 rfl) ?_
    refine S_guard_yes rfl rfl rfl rfl ?_
    refine S_val (X_eql rfl rfl) ?_
    refine S_val (X_pick_t (v := .bool _) rfl rfl rfl) ?_
    refine S_val (X_move (v := .bool _) rfl) ?_
    refine S_guard_yes rfl rfl rfl rfl ?_
    refine S_val (X_move (v := .slice _ _ _) rfl) ?_
    refine S_guard_yes rfl rfl rfl rfl ?_
    refine S_val (X_indexR hr6 Try.underlying52 Try.sizeOf151 rfl rfl (by decide) (by decide) rfl) ?_
    refine S_guard_yes rfl rfl rfl rfl ?_
    refine S_val (ld Try.isAgg151 rfl) ?_
    refine S_guard_yes rfl rfl rfl rfl ?_
    refine S_val (X_len Try.underlying151 rfl) ?_
    refine S_guard_yes rfl rfl rfl rfl ?_
    refine S_val (X_eql rfl rfl) ?_
    refine S_val (X_pick_t (v := .bool _) rfl rfl rfl) ?_
    refine S_val (X_move (v := .bool _) rfl) ?_
    refine S_guard_yes rfl rfl rfl rfl ?_
    refine S_val (X_move (v := .slice _ _ _) rfl) ?_
    refine S_guard_yes rfl rfl rfl rfl ?_
    refine S_val (X_indexR hr6 Try.underlying52 Try.sizeOf151 rfl rfl (by decide) (by decide) rfl) ?_
    refine S_guard_yes rfl rfl rfl rfl ?_
    refine S_val (ld Try.isAgg151 rfl) ?_
    refine S_guard_yes rfl rfl rfl rfl ?_
    refine S_val (X_indexR hia Try.underlying151 Try.sizeOf153 rfl rfl (by decide) (by decide) rfl) ?_
    refine S_guard_yes rfl rfl rfl rfl ?_
    refine S_val (X_loadAgg (vs := enS (2, 0)) Try.isAgg153 Try.sizeOf153 rfl (rda_cells hia (j := 0) (by decide))) ?_
    refine S_guard_yes rfl rfl rfl rfl ?_
    refine S_val (X_build1 [0] [.int _ _] [.int _ _, .int _ _] Try.zeroValue153 Try.underlying153 pl153 rfl rfl rfl rfl) ?_
    refine S_guard_yes rfl rfl rfl rfl ?_
    refine S_val (X_eqlS (by kernel_rfl) rfl rfl (eq153 (2, 0) (2, 0))) ?_
    refine S_val (X_pick_t (v := .bool _) rfl rfl rfl) ?_
    refine S_val (X_move (v := .bool _) rfl) ?_
    refine S_guard_yes rfl rfl rfl rfl ?_
    refine S_val (X_move (v := .slice _ _ _) rfl) ?_
    refine S_guard_yes rfl rfl rfl rfl ?_
    refine S_val (X_indexR hr6 Try.underlying52 Try.sizeOf151 rfl rfl (by decide) (by decide) rfl) ?_
    refine S_guard_yes rfl rfl rfl rfl ?_
    refine S_val (ld Try.isAgg151 rfl) ?_
    refine S_guard_yes rfl rfl rfl rfl ?_
    refine S_val (X_indexR hia Try.underlying151 Try.sizeOf153 rfl rfl (by decide) (by decide) rfl) ?_
    refine S_guard_yes rfl rfl rfl rfl ?_
    refine S_val (X_loadAgg (vs := enS (1, 1)) Try.isAgg153 Try.sizeOf153 rfl (rda_cells hia (j := 1) (by decide))) ?_
    refine S_guard_yes rfl rfl rfl rfl ?_
    refine S_val (X_build1 [0, 1] [.int _ _, .int _ _] [.int _ _, .int _ _] Try.zeroValue153 Try.underlying153 pl153 rfl rfl rfl rfl) ?_
    refine S_guard_yes rfl rfl rfl rfl ?_
    refine S_val (X_eqlS (by kernel_rfl) rfl rfl (eq153 (1, 1) (1, 1))) ?_
    refine S_val (X_pick_t (v := .bool _) rfl rfl rfl) ?_
    refine S_val (X_move (v := .bool _) rfl) ?_
    refine S_guard_yes rfl rfl rfl rfl ?_
    refine S_val (X_move (v := .int _ _) rfl) ?_
    refine S_guard_yes rfl rfl rfl rfl ?_
    refine S_val (X_eql rfl rfl) ?_
    refine S_val (X_pick_t (v := .bool _) rfl rfl rfl) ?_
    refine S_val (X_assign (v := .bool _) rfl) ?_
    exact C_nil rfl (bv rfl (by first | (simp_all; done) | (simp_all; omega) | (simp at *; omega)))
  intro ψ6
  refine run_ret Try.func32 (res1 (v := .bool _) Try.results32 rfl) ?_
  exact ⟨rfl, xt⟩

theorem c4 (every stages n : Int) (he : i64ok every) (v : Value) (cyc : List Int) (w : World) (hR : Ints w v cyc) : Calls Try.prog 4 #[.agg #[.int .i64 every, v, .int .i64 stages], .int .i64 n] w fun e w' => e = .returned (.bool true) ∧ Ext w w' := by
  obtain ⟨A, c, rfl, hlc, hcm, hn0, hA⟩ := id hR
  refine run_of 74 Try.func4 rfl rfl rfl ?_
  refine run_seq ?_
  refine run_ops ?_
  refine S_box (v := .agg _) rfl rfl fun b1 w1 hb1 x1 hs1 k1 => ?_
  refine S_val (X_assign (v := .bool _) rfl) ?_
  refine S_nil ?_
  refine run_seq ?_
  refine run_ops ?_
  refine S_val (lda [.int _ _, .slice _ _ _, .int _ _] Try.isAgg51 Try.sizeOf51 rfl) ?_
  refine S_val (X_move (v := .int _ _) rfl) ?_
  refine S_call (X_call Try.call27 rfl rfl) (c27 (v := .slice A cyc.length c) (cyc := cyc) every stages n he _ (Rd.ext (flat_carries _ _) xt hR)) ?_
  rintro _ w2 ⟨v2, rfl, x2, hv2⟩; obtain ⟨A2, c2, rfl, hq2, hm2, hz2, hr2⟩ := id hv2; have hs2 := x2.size; refine ⟨_, rfl, ?_⟩
  refine S_val (X_move (v := .tuple _) rfl) ?_
  refine S_val (X_extract (v := .slice _ _ _) rfl rfl) ?_
  refine S_val (X_extract (v := .int _ _) rfl rfl) ?_
  refine S_val (X_assign (v := .slice _ _ _) rfl) ?_
  refine S_val (X_assign (v := .int _ _) rfl) ?_
  refine S_nil ?_
  refine run_seq ?_
  refine run_ops ?_
  refine S_val (lda [.int _ _, .slice _ _ _, .int _ _] Try.isAgg51 Try.sizeOf51 rfl) ?_
  refine S_val (X_move (v := .int _ _) rfl) ?_
  refine S_call (X_call Try.call28 rfl rfl) (c28 (v := .slice A cyc.length c) (cyc := cyc) every stages n _ (Rd.ext (flat_carries _ _) xt hR)) ?_
  rintro _ w3 ⟨v3, rfl, x3, hv3⟩; obtain ⟨A3, c3, rfl, hq3, hm3, hz3, hr3⟩ := id hv3; have hs3 := x3.size; refine ⟨_, rfl, ?_⟩
  refine S_val (X_move (v := .tuple _) rfl) ?_
  refine S_val (X_extract (v := .slice _ _ _) rfl rfl) ?_
  refine S_val (X_extract (v := .int _ _) rfl rfl) ?_
  refine S_val (X_assign (v := .slice _ _ _) rfl) ?_
  refine S_val (X_assign (v := .int _ _) rfl) ?_
  refine S_nil ?_
  refine run_seq ?_
  refine run_ops ?_
  refine S_val (lda [.int _ _, .slice _ _ _, .int _ _] Try.isAgg51 Try.sizeOf51 rfl) ?_
  refine S_call (X_call Try.call29 rfl rfl) (c29 (v := .slice A cyc.length c) (cyc := cyc) every stages he _ (Rd.ext (flat_carries _ _) xt hR)) ?_
  rintro _ w4 ⟨v4, u4, z4, rfl, x4, hv4, hu4, hz4⟩; obtain ⟨A4, c4, rfl, _⟩ := id hv4; obtain ⟨B4, d4, rfl, _⟩ := id hu4; obtain ⟨C4, e4, rfl, _⟩ := id hz4; have hs4 := x4.size; refine ⟨_, rfl, ?_⟩
  refine S_val (X_move (v := .tuple _) rfl) ?_
  refine S_val (X_extract (v := .slice _ _ _) rfl rfl) ?_
  refine S_val (X_extract (v := .slice _ _ _) rfl rfl) ?_
  refine S_val (X_extract (v := .slice _ _ _) rfl rfl) ?_
  refine S_val (X_extract (v := .int _ _) rfl rfl) ?_
  refine S_val (X_assign (v := .slice _ _ _) rfl) ?_
  refine S_val (X_assign (v := .slice _ _ _) rfl) ?_
  refine S_val (X_assign (v := .slice _ _ _) rfl) ?_
  refine S_val (X_assign (v := .int _ _) rfl) ?_
  refine S_nil ?_
  refine run_seq ?_
  refine run_ops ?_
  refine S_val (lda [.int _ _, .slice _ _ _, .int _ _] Try.isAgg51 Try.sizeOf51 rfl) ?_
  refine S_call (X_call Try.call30 rfl rfl) (c30 (v := .slice A cyc.length c) (cyc := cyc) every stages _ (Rd.ext (flat_carries _ _) xt hR)) ?_
  rintro _ w5 ⟨v5, u5, z5, rfl, x5, hv5, hu5, hz5⟩; obtain ⟨A5, c5, rfl, _⟩ := id hv5; obtain ⟨B5, d5, rfl, _⟩ := id hu5; obtain ⟨C5, e5, rfl, _⟩ := id hz5; have hs5 := x5.size; refine ⟨_, rfl, ?_⟩
  refine S_val (X_move (v := .tuple _) rfl) ?_
  refine S_val (X_extract (v := .slice _ _ _) rfl rfl) ?_
  refine S_val (X_extract (v := .slice _ _ _) rfl rfl) ?_
  refine S_val (X_extract (v := .slice _ _ _) rfl rfl) ?_
  refine S_val (X_extract (v := .int _ _) rfl rfl) ?_
  refine S_val (X_assign (v := .slice _ _ _) rfl) ?_
  refine S_val (X_assign (v := .slice _ _ _) rfl) ?_
  refine S_val (X_assign (v := .slice _ _ _) rfl) ?_
  refine S_val (X_assign (v := .int _ _) rfl) ?_
  refine S_nil ?_
  refine run_seq ?_
  refine run_cutX [4, 43, 44, 45, 46, 47, 48, 49, 50, 51, 52, 53, 54, 55, 56, 57, 58, 59, 60, 61, 62, 63, 64, 65, 66, 67, 68, 69, 70, 71, 72, 73] 4 (.bool (true)) ?_ ?_
  · 
    refine S_val (X_move (v := .int _ _) rfl) ?_
    refine S_val (X_move (v := .int _ _) rfl) ?_
    refine S_val (X_eql rfl rfl) ?_
    refine S_val (X_move (v := .bool _) rfl) ?_
    refine S_guard rfl rfl rfl (fun hg3 => ?_) (fun hg3 => ?_)
    · 
      refine S_val (X_move (v := .slice _ _ _) rfl) ?_
      refine S_guard_yes rfl rfl rfl hg3 ?_
      refine S_val (X_move (v := .slice _ _ _) rfl) ?_
      refine S_guard_yes rfl rfl rfl hg3 ?_
      refine S_call (X_call Try.call31 rfl rfl) (c31 _ _ _ _ (Rd.ext rowR_carries xt hv2) (Rd.ext rowR_carries xt hv3)) ?_
      rintro _ w6 ⟨rfl, x6⟩; have hs6 := x6.size; refine ⟨_, rfl, ?_⟩
      refine S_val (X_pick_t (v := .bool _) rfl hg3 rfl) ?_
      refine S_val (X_move (v := .bool _) rfl) ?_
      refine S_guard rfl rfl rfl (fun hg8 => ?_) (fun hg8 => ?_)
      · 
        refine S_val (X_move (v := .int _ _) rfl) ?_
        refine S_guard_yes rfl rfl rfl hg8 ?_
        refine S_val (X_move (v := .int _ _) rfl) ?_
        refine S_guard_yes rfl rfl rfl hg8 ?_
        refine S_val (X_eql rfl rfl) ?_
        refine S_val (X_pick_t (v := .bool _) rfl hg8 rfl) ?_
        refine S_val (X_move (v := .bool _) rfl) ?_
        refine S_guard rfl rfl rfl (fun hg13 => ?_) (fun hg13 => ?_)
        · 
          refine S_val (X_move (v := .slice _ _ _) rfl) ?_
          refine S_guard_yes rfl rfl rfl hg13 ?_
          refine S_val (X_move (v := .slice _ _ _) rfl) ?_
          refine S_guard_yes rfl rfl rfl hg13 ?_
          refine S_call (X_call Try.call31 rfl rfl) (c31 _ _ _ _ (Rd.ext rowR_carries xt hv4) (Rd.ext rowR_carries xt hv5)) ?_
          rintro _ w7 ⟨rfl, x7⟩; have hs7 := x7.size; refine ⟨_, rfl, ?_⟩
          refine S_val (X_pick_t (v := .bool _) rfl hg13 rfl) ?_
          refine S_val (X_move (v := .bool _) rfl) ?_
          refine S_guard rfl rfl rfl (fun hg18 => ?_) (fun hg18 => ?_)
          · 
            refine S_val (X_move (v := .slice _ _ _) rfl) ?_
            refine S_guard_yes rfl rfl rfl hg18 ?_
            refine S_val (X_move (v := .slice _ _ _) rfl) ?_
            refine S_guard_yes rfl rfl rfl hg18 ?_
            refine S_call (X_call Try.call31 rfl rfl) (c31 _ _ _ _ (Rd.ext rowR_carries xt hu4) (Rd.ext rowR_carries xt hu5)) ?_
            rintro _ w8 ⟨rfl, x8⟩; have hs8 := x8.size; refine ⟨_, rfl, ?_⟩
            refine S_val (X_pick_t (v := .bool _) rfl hg18 rfl) ?_
            refine S_val (X_move (v := .bool _) rfl) ?_
            refine S_guard rfl rfl rfl (fun hg23 => ?_) (fun hg23 => ?_)
            · 
              refine S_val (X_move (v := .slice _ _ _) rfl) ?_
              refine S_guard_yes rfl rfl rfl hg23 ?_
              refine S_val (X_move (v := .slice _ _ _) rfl) ?_
              refine S_guard_yes rfl rfl rfl hg23 ?_
              refine S_call (X_call Try.call31 rfl rfl) (c31 _ _ _ _ (Rd.ext rowR_carries xt hz4) (Rd.ext rowR_carries xt hz5)) ?_
              rintro _ w9 ⟨rfl, x9⟩; have hs9 := x9.size; refine ⟨_, rfl, ?_⟩
              refine S_val (X_pick_t (v := .bool _) rfl hg23 rfl) ?_
              refine S_val (X_move (v := .bool _) rfl) ?_
              refine S_guard rfl rfl rfl (fun hg28 => ?_) (fun hg28 => ?_)
              · 
                refine S_call (X_call Try.call32 rfl rfl) (c32 _) ?_
                rintro _ w10 ⟨rfl, x10⟩; have hs10 := x10.size; refine ⟨_, rfl, ?_⟩
                refine S_val (X_pick_t (v := .bool _) rfl hg28 rfl) ?_
                refine S_val (X_assign (v := .bool _) rfl) ?_
                exact C_nil xt (bv rfl (by first | rfl | (exfalso; simp at hg3; done) | (exfalso; simp at hg8; done) | (exfalso; simp at hg13; done) | (exfalso; simp at hg18; done) | (exfalso; simp at hg23; done) | (exfalso; simp at hg28; done)))
              · 
                refine S_val (X_pick_f (v := .bool _) rfl hg28 rfl) ?_
                refine S_val (X_assign (v := .bool _) rfl) ?_
                exact C_nil xt (bv rfl (by first | rfl | (exfalso; simp at hg3; done) | (exfalso; simp at hg8; done) | (exfalso; simp at hg13; done) | (exfalso; simp at hg18; done) | (exfalso; simp at hg23; done) | (exfalso; simp at hg28; done)))
            · 
              refine S_guard_no rfl rfl rfl hg23 ?_
              refine S_guard_no rfl rfl rfl hg23 ?_
              refine S_val (X_pick_f (v := .bool _) rfl hg23 rfl) ?_
              refine S_val (X_move (v := .bool _) rfl) ?_
              refine S_guard_no rfl rfl rfl rfl ?_
              refine S_val (X_pick_f (v := .bool _) rfl rfl rfl) ?_
              refine S_val (X_assign (v := .bool _) rfl) ?_
              exact C_nil xt (bv rfl (by first | rfl | (exfalso; simp at hg3; done) | (exfalso; simp at hg8; done) | (exfalso; simp at hg13; done) | (exfalso; simp at hg18; done) | (exfalso; simp at hg23; done) | (exfalso; simp at hg28; done)))
          · 
            refine S_guard_no rfl rfl rfl hg18 ?_
            refine S_guard_no rfl rfl rfl hg18 ?_
            refine S_val (X_pick_f (v := .bool _) rfl hg18 rfl) ?_
            refine S_val (X_move (v := .bool _) rfl) ?_
            refine S_guard_no rfl rfl rfl rfl ?_
            refine S_guard_no rfl rfl rfl rfl ?_
            refine S_guard_no rfl rfl rfl rfl ?_
            refine S_val (X_pick_f (v := .bool _) rfl rfl rfl) ?_
            refine S_val (X_move (v := .bool _) rfl) ?_
            refine S_guard_no rfl rfl rfl rfl ?_
            refine S_val (X_pick_f (v := .bool _) rfl rfl rfl) ?_
            refine S_val (X_assign (v := .bool _) rfl) ?_
            exact C_nil xt (bv rfl (by first | rfl | (exfalso; simp at hg3; done) | (exfalso; simp at hg8; done) | (exfalso; simp at hg13; done) | (exfalso; simp at hg18; done) | (exfalso; simp at hg23; done) | (exfalso; simp at hg28; done)))
        · 
          refine S_guard_no rfl rfl rfl hg13 ?_
          refine S_guard_no rfl rfl rfl hg13 ?_
          refine S_val (X_pick_f (v := .bool _) rfl hg13 rfl) ?_
          refine S_val (X_move (v := .bool _) rfl) ?_
          refine S_guard_no rfl rfl rfl rfl ?_
          refine S_guard_no rfl rfl rfl rfl ?_
          refine S_guard_no rfl rfl rfl rfl ?_
          refine S_val (X_pick_f (v := .bool _) rfl rfl rfl) ?_
          refine S_val (X_move (v := .bool _) rfl) ?_
          refine S_guard_no rfl rfl rfl rfl ?_
          refine S_guard_no rfl rfl rfl rfl ?_
          refine S_guard_no rfl rfl rfl rfl ?_
          refine S_val (X_pick_f (v := .bool _) rfl rfl rfl) ?_
          refine S_val (X_move (v := .bool _) rfl) ?_
          refine S_guard_no rfl rfl rfl rfl ?_
          refine S_val (X_pick_f (v := .bool _) rfl rfl rfl) ?_
          refine S_val (X_assign (v := .bool _) rfl) ?_
          exact C_nil xt (bv rfl (by first | rfl | (exfalso; simp at hg3; done) | (exfalso; simp at hg8; done) | (exfalso; simp at hg13; done) | (exfalso; simp at hg18; done) | (exfalso; simp at hg23; done) | (exfalso; simp at hg28; done)))
      · 
        refine S_guard_no rfl rfl rfl hg8 ?_
        refine S_guard_no rfl rfl rfl hg8 ?_
        refine S_val (X_pick_f (v := .bool _) rfl hg8 rfl) ?_
        refine S_val (X_move (v := .bool _) rfl) ?_
        refine S_guard_no rfl rfl rfl rfl ?_
        refine S_guard_no rfl rfl rfl rfl ?_
        refine S_guard_no rfl rfl rfl rfl ?_
        refine S_val (X_pick_f (v := .bool _) rfl rfl rfl) ?_
        refine S_val (X_move (v := .bool _) rfl) ?_
        refine S_guard_no rfl rfl rfl rfl ?_
        refine S_guard_no rfl rfl rfl rfl ?_
        refine S_guard_no rfl rfl rfl rfl ?_
        refine S_val (X_pick_f (v := .bool _) rfl rfl rfl) ?_
        refine S_val (X_move (v := .bool _) rfl) ?_
        refine S_guard_no rfl rfl rfl rfl ?_
        refine S_guard_no rfl rfl rfl rfl ?_
        refine S_guard_no rfl rfl rfl rfl ?_
        refine S_val (X_pick_f (v := .bool _) rfl rfl rfl) ?_
        refine S_val (X_move (v := .bool _) rfl) ?_
        refine S_guard_no rfl rfl rfl rfl ?_
        refine S_val (X_pick_f (v := .bool _) rfl rfl rfl) ?_
        refine S_val (X_assign (v := .bool _) rfl) ?_
        exact C_nil xt (bv rfl (by first | rfl | (exfalso; simp at hg3; done) | (exfalso; simp at hg8; done) | (exfalso; simp at hg13; done) | (exfalso; simp at hg18; done) | (exfalso; simp at hg23; done) | (exfalso; simp at hg28; done)))
    · 
      refine S_guard_no rfl rfl rfl hg3 ?_
      refine S_guard_no rfl rfl rfl hg3 ?_
      refine S_val (X_pick_f (v := .bool _) rfl hg3 rfl) ?_
      refine S_val (X_move (v := .bool _) rfl) ?_
      refine S_guard_no rfl rfl rfl rfl ?_
      refine S_guard_no rfl rfl rfl rfl ?_
      refine S_guard_no rfl rfl rfl rfl ?_
      refine S_val (X_pick_f (v := .bool _) rfl rfl rfl) ?_
      refine S_val (X_move (v := .bool _) rfl) ?_
      refine S_guard_no rfl rfl rfl rfl ?_
      refine S_guard_no rfl rfl rfl rfl ?_
      refine S_guard_no rfl rfl rfl rfl ?_
      refine S_val (X_pick_f (v := .bool _) rfl rfl rfl) ?_
      refine S_val (X_move (v := .bool _) rfl) ?_
      refine S_guard_no rfl rfl rfl rfl ?_
      refine S_guard_no rfl rfl rfl rfl ?_
      refine S_guard_no rfl rfl rfl rfl ?_
      refine S_val (X_pick_f (v := .bool _) rfl rfl rfl) ?_
      refine S_val (X_move (v := .bool _) rfl) ?_
      refine S_guard_no rfl rfl rfl rfl ?_
      refine S_guard_no rfl rfl rfl rfl ?_
      refine S_guard_no rfl rfl rfl rfl ?_
      refine S_val (X_pick_f (v := .bool _) rfl rfl rfl) ?_
      refine S_val (X_move (v := .bool _) rfl) ?_
      refine S_guard_no rfl rfl rfl rfl ?_
      refine S_val (X_pick_f (v := .bool _) rfl rfl rfl) ?_
      refine S_val (X_assign (v := .bool _) rfl) ?_
      exact C_nil xt (bv rfl (by first | rfl | (exfalso; simp at hg3; done) | (exfalso; simp at hg8; done) | (exfalso; simp at hg13; done) | (exfalso; simp at hg18; done) | (exfalso; simp at hg23; done) | (exfalso; simp at hg28; done)))
  intro ψ11 w11 x11 hs11
  refine run_ret Try.func4 (res1 (v := .bool _) Try.results4 rfl) ?_
  exact ⟨rfl, xt⟩
end Go.Proofs.Ytfhilbhmkifepaa
