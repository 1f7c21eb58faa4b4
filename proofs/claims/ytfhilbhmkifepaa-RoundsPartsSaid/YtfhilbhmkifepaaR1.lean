/- rounds: within, Max, cmp, fair, in both tellings; no condition. -/
import Derived.Test.YtfhilbhmkifepaaE8
import Derived.Test.YtfhilbhmkifepaaD2
namespace Go.Proofs.Ytfhilbhmkifepaa
open Go.RowKit

theorem c163 (lo hi : Int) (v : Value) (l : List Int) (w : World) (hR : Ints w v l) : Calls Try.prog 163 #[.int .i64 lo, .int .i64 hi, v] w fun e w' => e = .returned (.bool (wi lo hi l)) ∧ Ext w w' := by
  obtain ⟨A, c, rfl, hlc, hcm, hn0, hA⟩ := id hR
  have hmx : l.length ≤ 9223372036854775807 := Nat.le_trans hlc (by simpa [maxLen] using hcm)
  refine run_of 24 Try.func163 rfl rfl rfl ?_
  refine run_seq ?_
  refine run_ops ?_
  refine S_val (X_assign (v := .bool _) rfl) ?_
  refine S_nil ?_
  refine run_seq ?_
  refine run_seq ?_
  refine run_ops ?_
  refine S_val (X_move (v := .slice _ _ _) rfl) ?_
  refine S_val (X_len Try.underlying24 rfl) ?_
  refine S_val (X_move (v := .int _ _) rfl) ?_
  refine S_nil ?_
  refine run_block ?_   -- block 0
  refine run_loopI (σ := Nat) [6, 8, 11, 12, 13, 14, 15, 16, 17, 18, 19, 20, 21, 22, 23] (fun s => [(11, .int .i64 (s : Int))]) (fun s w' => w' = w ∧ s ≤ l.length ∧ (l.take s).all (fun n => !(decide (n < lo) || decide (hi < n))) = true) (fun s => l.length - s) 0 ⟨rfl, by simp, by simp⟩ ⟨rfl, trivial⟩ ?_   -- LOOP 1
  rintro s w1 ψ1 ⟨rfl, hI1, hI2⟩ ih1
  refine run_seq ?_
  refine run_ops ?_
  refine S_val (X_lss rfl rfl) ?_
  refine S_nil ?_
  refine run_seq ?_
  refine run_if rfl (fun hc2 => ?_) (fun hc2 => ?_)   -- t12
  · 
    have h2 : s < l.length := by simpa using hc2
    have hcell := IntsA.cell hA h2
    refine run_skip ?_
    refine run_seq ?_
    refine run_block ?_   -- block 1
    refine run_seq ?_
    refine run_ops ?_
    refine S_val (X_indexR hA Try.underlying24 Try.sizeOf3 rfl rfl (by omega) (by omega) (by first | rfl | omega)) ?_
    refine S_val (ld Try.isAgg3 rfl) ?_
    refine S_val (X_assign (v := .int _ _) rfl) ?_
    refine S_nil ?_
    refine run_seq ?_
    refine run_cut [15, 16, 17, 18, 19, 20, 21, 22] 22 (.bool (decide (l[s] < lo) || decide (hi < l[s]))) ?_ ?_
    · 
      refine S_val (X_move (v := .int _ _) rfl) ?_
      refine S_val (X_move (v := .int _ _) rfl) ?_
      refine S_val (X_lss rfl rfl) ?_
      refine S_val (X_move (v := .bool _) rfl) ?_
      refine S_guard rfl rfl rfl (fun hg3 => ?_) (fun hg3 => ?_)
      · 
        refine S_val (X_move (v := .int _ _) rfl) ?_
        refine S_guard_yes rfl rfl rfl hg3 ?_
        refine S_val (X_move (v := .int _ _) rfl) ?_
        refine S_guard_yes rfl rfl rfl hg3 ?_
        refine S_val (X_gtr rfl rfl) ?_
        refine S_val (X_pick_f (v := .bool _) rfl hg3 rfl) ?_
        exact C_nil rfl (bv rfl (by first | (simp_all; done) | (simp_all; omega) | (simp at *; omega)))
      · 
        refine S_guard_no rfl rfl rfl hg3 ?_
        refine S_guard_no rfl rfl rfl hg3 ?_
        refine S_val (X_pick_t (v := .bool _) rfl hg3 rfl) ?_
        exact C_nil rfl (bv rfl (by first | (simp_all; done) | (simp_all; omega) | (simp at *; omega)))
    intro ψ3
    refine run_if rfl (fun hc4 => ?_) (fun hc4 => ?_)   -- t22
    · 
      refine run_seq ?_
      refine run_ops ?_
      refine S_val (X_assign (v := .bool _) rfl) ?_
      refine S_nil ?_
      refine run_ret Try.func163 (res1 (v := .bool _) Try.results163 rfl) ?_
      exact ⟨by rw [wi, all_no h2 (by rw [hc4]; rfl)], xt⟩
    · 
      refine run_skip ?_
      refine run_inBlock ?_
      refine run_ops ?_
      refine S_val (X_add rfl rfl (wr64 (by omega))) ?_
      refine S_val (X_move (v := .int _ _) rfl) ?_
      refine S_nil ?_
      exact ih1 (s + 1) _ _ ⟨rfl, by omega, by rw [all_succ h2, hI2, hc4]; rfl⟩ ⟨rfl, trivial⟩ (by omega) (by repeat (first | exact agree_mixW _ _ _ | (apply agree_putS rfl) | (apply agree_upd rfl) | (apply agree_mixIn rfl)))
  · 
    refine run_exit rfl ?_   -- block 0
    refine run_seq ?_
    refine run_ops ?_
    refine S_val (X_assign (v := .bool _) rfl) ?_
    refine S_nil ?_
    refine run_ret Try.func163 (res1 (v := .bool _) Try.results163 rfl) ?_
    exact ⟨by rw [wi, all_done hI2 (by simpa using hc2)], xt⟩

theorem c164 (v : Value) (l : List Int) (h0 : 0 < l.length) (w : World) (hR : Ints w v l) : Calls Try.prog 164 #[v] w fun e w' => e = .returned (.int .i64 (l.foldl max l[0])) ∧ Ext w w' := by
  obtain ⟨A, c, rfl, hlc, hcm, hn0, hA⟩ := id hR
  have hmx : l.length ≤ 9223372036854775807 := Nat.le_trans hlc (by simpa [maxLen] using hcm)
  have hc0 := IntsA.cell hA h0
  refine run_of 25 Try.func164 rfl rfl rfl ?_
  refine run_seq ?_
  refine run_ops ?_
  refine S_val (X_assign (v := .int _ _) rfl) ?_
  refine S_nil ?_
  refine run_seq ?_
  refine run_seq ?_
  refine run_ops ?_
  refine S_val (X_move (v := .slice _ _ _) rfl) ?_
  refine S_val (X_len Try.underlying24 rfl) ?_
  refine S_val (X_lss rfl rfl) ?_
  refine S_nil ?_
  refine run_if rfl (fun hc1 => ?_) (fun hc1 => ?_)   -- t7
  · 
    exact absurd hc1 (by simp; omega)
  · 
    refine run_skip ?_
    refine run_seq ?_
    refine run_ops ?_
    refine S_val (X_move (v := .slice _ _ _) rfl) ?_
    refine S_val (X_indexR hA Try.underlying24 Try.sizeOf3 rfl rfl (by omega) (by omega) (by first | rfl | omega)) ?_
    refine S_val (ld Try.isAgg3 rfl) ?_
    refine S_val (X_assign (v := .int _ _) rfl) ?_
    refine S_nil ?_
    refine run_seq ?_
    refine run_seq ?_
    refine run_ops ?_
    refine S_val (X_assign (v := .int _ _) rfl) ?_
    refine S_nil ?_
    refine run_block ?_   -- block 0
    refine run_loopI (σ := Nat) [3, 4, 12, 13, 14, 15, 16, 17, 18, 19, 20, 21, 22, 23] (fun s => [(4, .int .i64 (s : Int)), (3, .int .i64 ((l.take s).foldl max l[0]))]) (fun s w' => w' = w ∧ 1 ≤ s ∧ s ≤ l.length) (fun s => l.length - s) 1 ⟨rfl, by simp, h0⟩ ⟨rfl, by rw [foldl_succ h0]; simp; rfl, trivial⟩ ?_   -- LOOP 1
    rintro s w2 ψ2 ⟨rfl, hI0, hI1⟩ ih1
    refine run_seq ?_
    refine run_seq ?_
    refine run_ops ?_
    refine S_val (X_move (v := .int _ _) rfl) ?_
    refine S_val (X_move (v := .slice _ _ _) rfl) ?_
    refine S_val (X_len Try.underlying24 rfl) ?_
    refine S_val (X_lss rfl rfl) ?_
    refine S_nil ?_
    refine run_if rfl (fun hc3 => ?_) (fun hc3 => ?_)   -- t15
    · 
      have h2 : s < l.length := by simpa using hc3
      have hcell := IntsA.cell hA h2
      refine run_skip ?_
      refine run_seq ?_
      refine run_block ?_   -- block 1
      refine run_ops ?_
      refine S_val (X_move (v := .int _ _) rfl) ?_
      refine S_val (X_move (v := .slice _ _ _) rfl) ?_
      refine S_val (X_move (v := .int _ _) rfl) ?_
      refine S_val (X_indexR hA Try.underlying24 Try.sizeOf3 rfl rfl (by omega) (by omega) (by first | rfl | omega)) ?_
      refine S_val (ld Try.isAgg3 rfl) ?_
      refine S_val (X_max rfl rfl) ?_
      refine S_val (X_assign (v := .int _ _) rfl) ?_
      refine S_nil ?_
      refine run_inBlock ?_
      refine run_ops ?_
      refine S_val (X_move (v := .int _ _) rfl) ?_
      refine S_val (X_add rfl rfl (wr64 (by omega))) ?_
      refine S_val (X_assign (v := .int _ _) rfl) ?_
      refine S_nil ?_
      exact ih1 (s + 1) _ _ ⟨rfl, by omega, by omega⟩ ⟨rfl, by rw [foldl_succ h2]; rfl, trivial⟩ (by omega) (by repeat (first | exact agree_mixW _ _ _ | (apply agree_putS rfl) | (apply agree_upd rfl) | (apply agree_mixIn rfl)))
    · 
      refine run_exit rfl ?_   -- block 0
      refine run_seq ?_
      refine run_ops ?_
      refine S_val (X_move (v := .int _ _) rfl) ?_
      refine S_val (X_assign (v := .int _ _) rfl) ?_
      refine S_nil ?_
      refine run_ret Try.func164 (res1 (v := .int _ _) Try.results164 rfl) ?_
      exact ⟨by rw [foldl_done (by simpa using hc3)], xt⟩

theorem c164c (v : Value) (a : Int) (l : List Int) (w : World) (hR : Ints w v (a :: l)) : Calls Try.prog 164 #[v] w fun e w' => e = .returned (.int .i64 (l.foldl max a)) ∧ Ext w w' := by
  have := c164 v (a :: l) (by simp) w hR
  simpa using this

theorem c168 (v : Value) (l : List Int) (w : World) (hR : Ints w v l) : Calls Try.prog 168 #[v] w fun e w' => e = .returned (.int .i64 (orI l)) ∧ Ext w w' := by
  obtain ⟨A, c, rfl, hlc, hcm, hn0, hA⟩ := id hR
  have hmx : l.length ≤ 9223372036854775807 := Nat.le_trans hlc (by simpa [maxLen] using hcm)
  refine run_of 18 Try.func168 rfl rfl rfl ?_
  refine run_seq ?_
  refine run_ops ?_
  refine S_val (X_assign (v := .int _ _) rfl) ?_
  refine S_nil ?_
  refine run_seq ?_
  refine run_ops ?_
  refine S_val (X_assign (v := .int _ _) rfl) ?_
  refine S_nil ?_
  refine run_seq ?_
  refine run_seq ?_
  refine run_ops ?_
  refine S_val (X_move (v := .slice _ _ _) rfl) ?_
  refine S_val (X_len Try.underlying24 rfl) ?_
  refine S_val (X_move (v := .int _ _) rfl) ?_
  refine S_nil ?_
  refine run_block ?_   -- block 0
  refine run_loopI (σ := Nat) [2, 5, 8, 9, 10, 11, 12, 13, 14, 15, 16] (fun s => [(8, .int .i64 (s : Int))]) (fun s w' => w' = w ∧ s ≤ l.length ∧ orI (l.drop s) = orI l) (fun s => l.length - s) 0 ⟨rfl, by simp, by simp⟩ ⟨rfl, trivial⟩ ?_   -- LOOP 1
  rintro s w1 ψ1 ⟨rfl, hI1, hI2⟩ ih1
  refine run_seq ?_
  refine run_ops ?_
  refine S_val (X_lss rfl rfl) ?_
  refine S_nil ?_
  refine run_seq ?_
  refine run_if rfl (fun hc2 => ?_) (fun hc2 => ?_)   -- t9
  · 
    have h2 : s < l.length := by simpa using hc2
    have hcell := IntsA.cell hA h2
    refine run_skip ?_
    refine run_seq ?_
    refine run_block ?_   -- block 1
    refine run_seq ?_
    refine run_ops ?_
    refine S_val (X_indexR hA Try.underlying24 Try.sizeOf3 rfl rfl (by omega) (by omega) (by first | rfl | omega)) ?_
    refine S_val (ld Try.isAgg3 rfl) ?_
    refine S_val (X_assign (v := .int _ _) rfl) ?_
    refine S_nil ?_
    refine run_seq ?_
    refine run_ops ?_
    refine S_val (X_move (v := .int _ _) rfl) ?_
    refine S_val (X_move (v := .int _ _) rfl) ?_
    refine S_val (X_neq rfl rfl) ?_
    refine S_nil ?_
    refine run_if rfl (fun hc3 => ?_) (fun hc3 => ?_)   -- t14
    · 
      refine run_seq ?_
      refine run_ops ?_
      refine S_val (X_move (v := .int _ _) rfl) ?_
      refine S_val (X_assign (v := .int _ _) rfl) ?_
      refine S_nil ?_
      refine run_ret Try.func168 (res1 (v := .int _ _) Try.results168 rfl) ?_
      exact ⟨by rw [← hI2, drop_at h2]; simp at hc3; simp [orI, hc3], xt⟩
    · 
      refine run_skip ?_
      refine run_inBlock ?_
      refine run_ops ?_
      refine S_val (X_add rfl rfl (wr64 (by omega))) ?_
      refine S_val (X_move (v := .int _ _) rfl) ?_
      refine S_nil ?_
      exact ih1 (s + 1) _ _ ⟨rfl, by omega, by rw [← hI2, drop_at h2]; simp at hc3; simp [orI, hc3]⟩ ⟨rfl, trivial⟩ (by omega) (by repeat (first | exact agree_mixW _ _ _ | (apply agree_putS rfl) | (apply agree_upd rfl) | (apply agree_mixIn rfl)))
  · 
    refine run_exit rfl ?_   -- block 0
    refine run_seq ?_
    refine run_ops ?_
    refine S_val (X_move (v := .int _ _) rfl) ?_
    refine S_val (X_assign (v := .int _ _) rfl) ?_
    refine S_nil ?_
    refine run_ret Try.func168 (res1 (v := .int _ _) Try.results168 rfl) ?_
    exact ⟨by rw [← hI2, List.drop_of_length_le (by simpa using hc2)]; rfl, xt⟩

theorem c233 (x : Int) (w : World) : Calls Try.prog 233 #[.int .i64 x] w fun e w' => e = .returned (.bool (decide (x ≠ x))) ∧ Ext w w' := by
  refine run_of 6 Try.func233 rfl rfl rfl ?_
  refine run_seq ?_
  refine run_ops ?_
  refine S_val (X_assign (v := .bool _) rfl) ?_
  refine S_nil ?_
  refine run_seq ?_
  refine run_ops ?_
  refine S_val (X_move (v := .int _ _) rfl) ?_
  refine S_val (X_move (v := .int _ _) rfl) ?_
  refine S_val (X_neq rfl rfl) ?_
  refine S_val (X_assign (v := .bool _) rfl) ?_
  refine S_nil ?_
  refine run_ret Try.func233 (res1 (v := .bool _) Try.results233 rfl) ?_
  exact ⟨rfl, xt⟩

theorem c169 (x y : Int) (w : World) : Calls Try.prog 169 #[.int .i64 x, .int .i64 y] w fun e w' => e = .returned (.int .i64 (cmpI x y)) ∧ Ext w w' := by
  refine run_of 20 Try.func169 rfl rfl rfl ?_
  refine run_seq ?_
  refine run_ops ?_
  refine S_val (X_assign (v := .int _ _) rfl) ?_
  refine S_nil ?_
  refine run_seq ?_
  refine run_ops ?_
  refine S_val (X_move (v := .int _ _) rfl) ?_
  refine S_call (X_call Try.call233 rfl rfl) (c233 _ _) ?_
  rintro _ w1 ⟨rfl, x1⟩; have hs1 := x1.size; refine ⟨_, rfl, ?_⟩
  refine S_val (X_assign (v := .bool _) rfl) ?_
  refine S_nil ?_
  refine run_seq ?_
  refine run_ops ?_
  refine S_val (X_move (v := .int _ _) rfl) ?_
  refine S_call (X_call Try.call233 rfl rfl) (c233 _ _) ?_
  rintro _ w2 ⟨rfl, x2⟩; have hs2 := x2.size; refine ⟨_, rfl, ?_⟩
  refine S_val (X_assign (v := .bool _) rfl) ?_
  refine S_nil ?_
  refine run_seq ?_
  refine run_seq ?_
  refine run_ops ?_
  refine S_val (X_move (v := .bool _) rfl) ?_
  refine S_nil ?_
  refine run_if rfl (fun hc3 => ?_) (fun hc3 => ?_)   -- t11
  · 
    exact absurd hc3 (by simp)
  · 
    refine run_skip ?_
    refine run_seq ?_
    refine run_seq ?_
    refine run_ops ?_
    refine S_val (X_move (v := .bool _) rfl) ?_
    refine S_nil ?_
    refine run_if rfl (fun hc4 => ?_) (fun hc4 => ?_)   -- t13
    · 
      exact absurd hc4 (by simp)
    · 
      refine run_skip ?_
      refine run_seq ?_
      refine run_seq ?_
      refine run_ops ?_
      refine S_val (X_move (v := .int _ _) rfl) ?_
      refine S_val (X_move (v := .int _ _) rfl) ?_
      refine S_val (X_lss rfl rfl) ?_
      refine S_nil ?_
      refine run_if rfl (fun hc5 => ?_) (fun hc5 => ?_)   -- t16
      · 
        refine run_seq ?_
        refine run_ops ?_
        refine S_val (X_assign (v := .int _ _) rfl) ?_
        refine S_nil ?_
        refine run_ret Try.func169 (res1 (v := .int _ _) Try.results169 rfl) ?_
        exact ⟨by rw [cmpI, if_pos (of_decide_eq_true hc5)], xt⟩
      · 
        refine run_skip ?_
        refine run_seq ?_
        refine run_seq ?_
        refine run_ops ?_
        refine S_val (X_move (v := .int _ _) rfl) ?_
        refine S_val (X_move (v := .int _ _) rfl) ?_
        refine S_val (X_gtr rfl rfl) ?_
        refine S_nil ?_
        refine run_if rfl (fun hc6 => ?_) (fun hc6 => ?_)   -- t19
        · 
          refine run_seq ?_
          refine run_ops ?_
          refine S_val (X_assign (v := .int _ _) rfl) ?_
          refine S_nil ?_
          refine run_ret Try.func169 (res1 (v := .int _ _) Try.results169 rfl) ?_
          exact ⟨by rw [cmpI, if_neg (of_decide_eq_false hc5), if_pos (of_decide_eq_true hc6)], xt⟩
        · 
          refine run_skip ?_
          refine run_seq ?_
          refine run_ops ?_
          refine S_val (X_assign (v := .int _ _) rfl) ?_
          refine S_nil ?_
          refine run_ret Try.func169 (res1 (v := .int _ _) Try.results169 rfl) ?_
          exact ⟨by rw [cmpI, if_neg (of_decide_eq_false hc5), if_neg (of_decide_eq_false hc6)], xt⟩

theorem c167 (a b : Int × Int) (w : World) : Calls Try.prog 167 #[.agg #[.int .i64 a.1, .int .i64 a.2], .agg #[.int .i64 b.1, .int .i64 b.2]] w fun e w' => e = .returned (.int .i64 (cmpS a b)) ∧ Ext w w' := by
  refine run_of 17 Try.func167 rfl rfl rfl ?_
  refine run_seq ?_
  refine run_ops ?_
  refine S_box (v := .agg _) rfl rfl fun b1 w1 hb1 x1 hs1 k1 => ?_
  refine S_box (v := .agg _) rfl rfl fun b2 w2 hb2 x2 hs2 k2 => ?_
  refine S_val (X_assign (v := .int _ _) rfl) ?_
  refine S_nil ?_
  refine run_seq ?_
  refine run_plan_ext [.held 0, .held 1, .held 2, .held 3, .held 5, .held 6, .held 7, .held 8, .eff 4, .eff 9, .eff 10, .eff 11, .held 12] rfl (by kernel_rfl) fun w3 x3 hs3 => ?_
  refine P_val rfl (by first | assumption | exact Step.refl _ _ | exact xt) (fun _ _ => X_fieldAddr 1 Try.underlying153 rfl Try.sizeOf3 rfl) ?_
  refine P_val rfl (by first | assumption | exact Step.refl _ _ | exact xt) (fun _ s => ldx s Try.isAgg3 rfl) ?_
  refine P_val rfl (by first | assumption | exact Step.refl _ _ | exact xt) (fun _ _ => X_fieldAddr 1 Try.underlying153 rfl Try.sizeOf3 rfl) ?_
  refine P_val rfl (by first | assumption | exact Step.refl _ _ | exact xt) (fun _ s => ldx s Try.isAgg3 rfl) ?_
  refine P_val rfl (by first | assumption | exact Step.refl _ _ | exact xt) (fun _ _ => X_fieldAddr 0 Try.underlying153 rfl Try.sizeOf3 rfl) ?_
  refine P_val rfl (by first | assumption | exact Step.refl _ _ | exact xt) (fun _ s => ldx s Try.isAgg3 rfl) ?_
  refine P_val rfl (by first | assumption | exact Step.refl _ _ | exact xt) (fun _ _ => X_fieldAddr 0 Try.underlying153 rfl Try.sizeOf3 rfl) ?_
  refine P_val rfl (by first | assumption | exact Step.refl _ _ | exact xt) (fun _ s => ldx s Try.isAgg3 rfl) ?_
  refine E_call rfl (X_call Try.call169 rfl rfl) (c169 _ _ _) ?_
  rintro _ w4 ⟨rfl, x4⟩; have hs4 := x4.size; refine ⟨_, rfl, xt, ?_⟩
  refine E_call rfl (X_call Try.call169 rfl rfl) (c169 _ _ _) ?_
  rintro _ w5 ⟨rfl, x5⟩; have hs5 := x5.size; refine ⟨_, rfl, xt, ?_⟩
  refine E_build (rs := [.int .i64 0, .int .i64 0]) [.int _ _, .int _ _] rfl Try.underlying24 Try.sizeOf3 Try.zeroValue3 rfl (by kernel_rfl) rfl fun b6 w6 hb6 x6 hs6 k6 => ⟨xt, ?_⟩
  refine E_call rfl (X_call Try.call168 rfl rfl) (c168 _ [_, _] _ (ints_blk [_, _] k6 (by simp; exact ⟨cmpI_ok _ _, cmpI_ok _ _⟩) (by simp [maxLen]))) ?_
  rintro _ w7 ⟨rfl, x7⟩; have hs7 := x7.size; refine ⟨_, rfl, xt, ?_⟩
  refine P_val rfl (by first | assumption | exact Step.refl _ _ | exact xt) (fun _ _ => X_assign (v := .int _ _) rfl) ?_
  refine P_nil ?_
  refine run_ret Try.func167 (res1 (v := .int _ _) Try.results167 rfl) ?_
  exact ⟨rfl, xt⟩

theorem c99 (every stages : Int) (he : i64ok every) (v : Value) (cyc : List Int) (w : World) (hR : Ints w v cyc) : Calls Try.prog 99 #[.agg #[.int .i64 every, v, .int .i64 stages]] w fun e w' => e = .returned (.bool (fairB every cyc stages)) ∧ Ext w w' := by
  obtain ⟨A, c, rfl, hlc, hcm, hn0, hA⟩ := id hR
  have hmx : cyc.length ≤ 9223372036854775807 := Nat.le_trans hlc (by simpa [maxLen] using hcm)
  refine run_of 34 Try.func99 rfl rfl rfl ?_
  refine run_seq ?_
  refine run_ops ?_
  refine S_box (v := .agg _) rfl rfl fun b1 w1 hb1 x1 hs1 k1 => ?_
  refine S_val (X_assign (v := .bool _) rfl) ?_
  refine S_nil ?_
  refine run_seq ?_
  refine run_seq ?_
  refine run_cutX [3, 4, 5, 6, 7, 8, 9, 10, 11, 12, 13, 14, 15, 16, 17, 18, 19] 19 (.bool (!wi 1 65536 [every] || decide (64 < cyc.length) || !wi 0 65536 cyc)) ?_ ?_
  · 
    refine S_val (X_fieldAddr 0 Try.underlying51 rfl Try.sizeOf3 rfl) ?_
    refine S_val (ld Try.isAgg3 rfl) ?_
    refine S_build (rs := [.int .i64 0]) [.int _ _] Try.underlying24 Try.sizeOf3 Try.zeroValue3 rfl (by kernel_rfl) rfl fun b2 w2 hb2 x2 hs2 k2 => ?_
    refine S_call (X_call Try.call163 rfl rfl) (c163 _ _ _ [every] _ (ints_blk [every] k2 (by simpa using he) (by simp [maxLen]))) ?_
    rintro _ w3 ⟨rfl, x3⟩; have hs3 := x3.size; refine ⟨_, rfl, ?_⟩
    refine S_val (X_not rfl) ?_
    refine S_val (X_move (v := .bool _) rfl) ?_
    refine S_guard rfl rfl rfl (fun hg5 => ?_) (fun hg5 => ?_)
    · 
      refine S_val (X_fieldAddr 1 Try.underlying51 rfl Try.sizeOf24 rfl) ?_
      refine S_guard_yes rfl rfl rfl hg5 ?_
      refine S_val (ld Try.isAgg24 rfl) ?_
      refine S_guard_yes rfl rfl rfl hg5 ?_
      refine S_val (X_len Try.underlying24 rfl) ?_
      refine S_guard_yes rfl rfl rfl hg5 ?_
      refine S_val (X_gtr rfl rfl) ?_
      refine S_val (X_pick_f (v := .bool _) rfl hg5 rfl) ?_
      refine S_val (X_move (v := .bool _) rfl) ?_
      refine S_guard rfl rfl rfl (fun hg11 => ?_) (fun hg11 => ?_)
      · 
        refine S_val (X_fieldAddr 1 Try.underlying51 rfl Try.sizeOf24 rfl) ?_
        refine S_guard_yes rfl rfl rfl hg11 ?_
        refine S_val (ld Try.isAgg24 rfl) ?_
        refine S_guard_yes rfl rfl rfl hg11 ?_
        refine S_call (X_call Try.call163 rfl rfl) (c163 _ _ _ cyc _ (Rd.ext (flat_carries _ _) xt hR)) ?_
        rintro _ w4 ⟨rfl, x4⟩; have hs4 := x4.size; refine ⟨_, rfl, ?_⟩
        refine S_guard_yes rfl rfl rfl hg11 ?_
        refine S_val (X_not rfl) ?_
        refine S_val (X_pick_f (v := .bool _) rfl hg11 rfl) ?_
        exact C_nil xt (bv rfl (by first | (simp_all; done) | (simp_all; omega) | (simp at *; omega)))
      · 
        refine S_guard_no rfl rfl rfl hg11 ?_
        refine S_guard_no rfl rfl rfl hg11 ?_
        refine S_guard_no rfl rfl rfl hg11 ?_
        refine S_val (X_pick_t (v := .bool _) rfl hg11 rfl) ?_
        exact C_nil xt (bv rfl (by first | (simp_all; done) | (simp_all; omega) | (simp at *; omega)))
    · 
      refine S_guard_no rfl rfl rfl hg5 ?_
      refine S_guard_no rfl rfl rfl hg5 ?_
      refine S_guard_no rfl rfl rfl hg5 ?_
      refine S_val (X_pick_t (v := .bool _) rfl hg5 rfl) ?_
      refine S_val (X_move (v := .bool _) rfl) ?_
      refine S_guard_no rfl rfl rfl rfl ?_
      refine S_guard_no rfl rfl rfl rfl ?_
      refine S_guard_no rfl rfl rfl rfl ?_
      refine S_guard_no rfl rfl rfl rfl ?_
      refine S_val (X_pick_t (v := .bool _) rfl rfl rfl) ?_
      exact C_nil xt (bv rfl (by first | (simp_all; done) | (simp_all; omega) | (simp at *; omega)))
  intro ψ5 w5 x5 hs5
  refine run_if rfl (fun hc6 => ?_) (fun hc6 => ?_)   -- t19
  · 
    refine run_seq ?_
    refine run_ops ?_
    refine S_val (X_assign (v := .bool _) rfl) ?_
    refine S_nil ?_
    refine run_ret Try.func99 (res1 (v := .bool _) Try.results99 rfl) ?_
    exact ⟨by rw [fairB]; simp at hc6 ⊢; grind, xt⟩
  · 
    simp only [Bool.or_eq_false_iff, Bool.not_eq_false', decide_eq_false_iff_not] at hc6
    obtain ⟨⟨hf1, hf2⟩, hf3⟩ := hc6
    have hev := wi_mem hf1 every (by simp)
    have hmax := fold_max_bound cyc 0 65536 (by decide) (fun x hx => (wi_mem hf3 x hx).2)
    have hmx0 := fold_max_ge cyc 0
    have htd := tdiv_bound (a := cyc.foldl max 0 + every) (b := every) (by omega) (by omega)
    refine run_skip ?_
    refine run_seq ?_
    refine run_plan_ext [.held 0, .held 1, .held 3, .held 4, .held 7, .held 8, .held 10, .held 11, .eff 2, .eff 5, .eff 6, .held 9, .held 12, .held 13, .held 14] rfl (by kernel_rfl) fun w7 x7 hs7 => ?_
    refine P_val rfl (by first | assumption | exact Step.refl _ _ | exact xt) (fun _ _ => X_fieldAddr 2 Try.underlying51 rfl Try.sizeOf3 rfl) ?_
    refine P_val rfl (by first | assumption | exact Step.refl _ _ | exact xt) (fun _ s => ldx s Try.isAgg3 rfl) ?_
    refine P_val rfl (by first | assumption | exact Step.refl _ _ | exact xt) (fun _ _ => X_fieldAddr 1 Try.underlying51 rfl Try.sizeOf24 rfl) ?_
    refine P_val rfl (by first | assumption | exact Step.refl _ _ | exact xt) (fun _ s => ldx s Try.isAgg24 rfl) ?_
    refine P_val rfl (by first | assumption | exact Step.refl _ _ | exact xt) (fun _ _ => X_fieldAddr 0 Try.underlying51 rfl Try.sizeOf3 rfl) ?_
    refine P_val rfl (by first | assumption | exact Step.refl _ _ | exact xt) (fun _ s => ldx s Try.isAgg3 rfl) ?_
    refine P_val rfl (by first | assumption | exact Step.refl _ _ | exact xt) (fun _ _ => X_fieldAddr 0 Try.underlying51 rfl Try.sizeOf3 rfl) ?_
    refine P_val rfl (by first | assumption | exact Step.refl _ _ | exact xt) (fun _ s => ldx s Try.isAgg3 rfl) ?_
    refine E_build (rs := [.int .i64 0]) [.int _ _] rfl Try.underlying24 Try.sizeOf3 Try.zeroValue3 rfl (by kernel_rfl) rfl fun b8 w8 hb8 x8 hs8 k8 => ⟨xt, ?_⟩
    refine E_appR rfl (RdA.ext (flat_carries _ _) xt hA) hn0 (fun _ => rfl) Try.underlying24 lay3 rfl (by decide) (own_of_blk (base := b8) (n := 1) k8 (Nat.le_refl _) rfl (by simp [maxLen])) rfl rfl hlc (by simp [Value.oneCell']) (by simp [maxLen]; omega) (by omega) (by omega) fun A9 c9 w9 g9 => ?_
    have x9 : Ext w7 w9 := g9.ext xt (by omega)
    refine ⟨x9, ?_⟩
    have hR9 := ints_own (0 :: cyc) g9.own (by simp [Nat.add_comm]) rfl (fun x hx => by
      rcases List.mem_cons.1 hx with rfl | hx
      · exact ⟨by decide, by decide⟩
      · exact IntsA.ok hA x hx)
    refine E_call rfl (X_call Try.call164 rfl rfl) (c164c _ 0 cyc _ hR9) ?_
    rintro _ w10 ⟨rfl, x10⟩; have hs10 := x10.size; refine ⟨_, rfl, xt, ?_⟩
    refine P_val rfl (by first | assumption | exact Step.refl _ _ | exact xt) (fun _ _ => X_add rfl rfl (wr64 (by omega))) ?_
    refine P_val rfl (by first | assumption | exact Step.refl _ _ | exact xt) (fun _ _ => X_quo rfl rfl (by omega) (wr64 (by omega))) ?_
    refine P_val rfl (by first | assumption | exact Step.refl _ _ | exact xt) (fun _ _ => X_eql rfl rfl) ?_
    refine P_val rfl (by first | assumption | exact Step.refl _ _ | exact xt) (fun _ _ => X_assign (v := .bool _) rfl) ?_
    refine P_nil ?_
    refine run_ret Try.func99 (res1 (v := .bool _) Try.results99 rfl) ?_
    exact ⟨by rw [fairB, hf1, hf3]; simp; omega, xt⟩

theorem c101 (every stages : Int) (v : Value) (cyc : List Int) (w : World) (hR : Ints w v cyc) : Calls Try.prog 101 #[.agg #[.int .i64 every, v, .int .i64 stages]] w fun e w' => e = .returned (.bool (fairB every cyc stages)) ∧ Ext w w' := by
  obtain ⟨A, c, rfl, hlc, hcm, hn0, hA⟩ := id hR
  have hmx : cyc.length ≤ 9223372036854775807 := Nat.le_trans hlc (by simpa [maxLen] using hcm)
  refine run_of 57 Try.func101 rfl rfl rfl ?_
  refine run_seq ?_
  refine run_ops ?_
  refine S_box (v := .agg _) rfl rfl fun b1 w1 hb1 x1 hs1 k1 => ?_
  refine S_val (X_assign (v := .bool _) rfl) ?_
  refine S_nil ?_
  refine run_seq ?_
  refine run_seq ?_
  refine run_cut [5, 6, 7, 8, 9, 10, 11, 12, 13, 14, 15, 16, 17, 18] 18 (.bool (decide (every < 1) || decide (65536 < every) || decide ((64 : Int) < (cyc.length : Int)))) ?_ ?_
  · 
    refine S_val (X_fieldAddr 0 Try.underlying51 rfl Try.sizeOf3 rfl) ?_
    refine S_val (ld Try.isAgg3 rfl) ?_
    refine S_val (X_lss rfl rfl) ?_
    refine S_val (X_move (v := .bool _) rfl) ?_
    refine S_guard rfl rfl rfl (fun hg3 => ?_) (fun hg3 => ?_)
    · 
      refine S_val (X_fieldAddr 0 Try.underlying51 rfl Try.sizeOf3 rfl) ?_
      refine S_guard_yes rfl rfl rfl hg3 ?_
      refine S_val (ld Try.isAgg3 rfl) ?_
      refine S_guard_yes rfl rfl rfl hg3 ?_
      refine S_val (X_gtr rfl rfl) ?_
      refine S_val (X_pick_f (v := .bool _) rfl hg3 rfl) ?_
      refine S_val (X_move (v := .bool _) rfl) ?_
      refine S_guard rfl rfl rfl (fun hg8 => ?_) (fun hg8 => ?_)
      · 
        refine S_val (X_fieldAddr 1 Try.underlying51 rfl Try.sizeOf24 rfl) ?_
        refine S_guard_yes rfl rfl rfl hg8 ?_
        refine S_val (ld Try.isAgg24 rfl) ?_
        refine S_guard_yes rfl rfl rfl hg8 ?_
        refine S_val (X_len Try.underlying24 rfl) ?_
        refine S_guard_yes rfl rfl rfl hg8 ?_
        refine S_val (X_gtr rfl rfl) ?_
        refine S_val (X_pick_f (v := .bool _) rfl hg8 rfl) ?_
        exact C_nil rfl (bv rfl (by simp_all <;> omega))
      · 
        refine S_guard_no rfl rfl rfl hg8 ?_
        refine S_guard_no rfl rfl rfl hg8 ?_
        refine S_guard_no rfl rfl rfl hg8 ?_
        refine S_val (X_pick_t (v := .bool _) rfl hg8 rfl) ?_
        exact C_nil rfl (bv rfl (by simp_all <;> omega))
    · 
      refine S_guard_no rfl rfl rfl hg3 ?_
      refine S_guard_no rfl rfl rfl hg3 ?_
      refine S_val (X_pick_t (v := .bool _) rfl hg3 rfl) ?_
      refine S_val (X_move (v := .bool _) rfl) ?_
      refine S_guard_no rfl rfl rfl rfl ?_
      refine S_guard_no rfl rfl rfl rfl ?_
      refine S_guard_no rfl rfl rfl rfl ?_
      refine S_guard_no rfl rfl rfl rfl ?_
      refine S_val (X_pick_t (v := .bool _) rfl rfl rfl) ?_
      exact C_nil rfl (bv rfl (by simp_all <;> omega))
  intro ψ2
  refine run_if rfl (fun hc3 => ?_) (fun hc3 => ?_)   -- t18
  · 
    refine run_seq ?_
    refine run_ops ?_
    refine S_val (X_assign (v := .bool _) rfl) ?_
    refine S_nil ?_
    refine run_ret Try.func101 (res1 (v := .bool _) Try.results101 rfl) ?_
    exact ⟨by simp only [fairB, wi]; simp at hc3 ⊢; omega, xt⟩
  · 
    have hf : 1 ≤ every ∧ every ≤ 65536 ∧ cyc.length ≤ 64 := by simp at hc3; omega
    refine run_skip ?_
    refine run_seq ?_
    refine run_ops ?_
    refine S_val (X_assign (v := .int _ _) rfl) ?_
    refine S_nil ?_
    refine run_seq ?_
    refine run_seq ?_
    refine run_ops ?_
    refine S_val (X_assign (v := .int _ _) rfl) ?_
    refine S_nil ?_
    refine run_block ?_   -- block 0
    refine run_loopI (σ := Nat) [2, 3, 4, 19, 20, 21, 22, 23, 24, 25, 26, 27, 28, 29, 30, 31, 32, 33, 34, 35, 36, 37, 38, 39, 40, 41, 42, 43, 44, 45, 46] (fun s => [(4, .int .i64 (s : Int)), (3, .int .i64 ((cyc.take s).foldl max 0))]) (fun s w' => w' = w1 ∧ s ≤ cyc.length ∧ (cyc.take s).all (fun n => !(decide (n < 0) || decide (65536 < n))) = true) (fun s => cyc.length - s) 0 ⟨rfl, by simp, by simp⟩ ⟨rfl, rfl, trivial⟩ ?_   -- LOOP 1
    rintro s w4 ψ4 ⟨rfl, hI1, hI2⟩ ih1
    have hA4 := RdA.ext (w' := w4) (flat_carries _ _) xt hA
    refine run_seq ?_
    refine run_seq ?_
    refine run_ops ?_
    refine S_val (X_move (v := .int _ _) rfl) ?_
    refine S_val (X_fieldAddr 1 Try.underlying51 rfl Try.sizeOf24 rfl) ?_
    refine S_val (ld Try.isAgg24 rfl) ?_
    refine S_val (X_len Try.underlying24 rfl) ?_
    refine S_val (X_lss rfl rfl) ?_
    refine S_nil ?_
    refine run_if rfl (fun hc5 => ?_) (fun hc5 => ?_)   -- t23
    · 
      have h2 : s < cyc.length := by simpa using hc5
      have hcell := IntsA.cell hA4 h2
      refine run_skip ?_
      refine run_seq ?_
      refine run_block ?_   -- block 1
      refine run_seq ?_
      refine run_seq ?_
      refine run_cut [26, 27, 28, 29, 30, 31, 32, 33, 34, 35, 36, 37, 38, 39] 39 (.bool (decide (cyc[s] < 0) || decide (65536 < cyc[s]))) ?_ ?_
      · 
        refine S_val (X_fieldAddr 1 Try.underlying51 rfl Try.sizeOf24 rfl) ?_
        refine S_val (ld Try.isAgg24 rfl) ?_
        refine S_val (X_move (v := .int _ _) rfl) ?_
        refine S_val (X_indexR hA4 Try.underlying24 Try.sizeOf3 rfl rfl (by omega) (by omega) (by first | rfl | omega)) ?_
        refine S_val (ld Try.isAgg3 rfl) ?_
        refine S_val (X_lss rfl rfl) ?_
        refine S_val (X_move (v := .bool _) rfl) ?_
        refine S_guard rfl rfl rfl (fun hg6 => ?_) (fun hg6 => ?_)
        · 
          refine S_val (X_fieldAddr 1 Try.underlying51 rfl Try.sizeOf24 rfl) ?_
          refine S_guard_yes rfl rfl rfl hg6 ?_
          refine S_val (ld Try.isAgg24 rfl) ?_
          refine S_guard_yes rfl rfl rfl hg6 ?_
          refine S_val (X_move (v := .int _ _) rfl) ?_
          refine S_guard_yes rfl rfl rfl hg6 ?_
          refine S_val (X_indexR hA4 Try.underlying24 Try.sizeOf3 rfl rfl (by omega) (by omega) (by first | rfl | omega)) ?_
          refine S_guard_yes rfl rfl rfl hg6 ?_
          refine S_val (ld Try.isAgg3 rfl) ?_
          refine S_guard_yes rfl rfl rfl hg6 ?_
          refine S_val (X_gtr rfl rfl) ?_
          refine S_val (X_pick_f (v := .bool _) rfl hg6 rfl) ?_
          exact C_nil rfl (bv rfl (by first | (simp_all; done) | (simp_all; omega) | (simp at *; omega)))
        · 
          refine S_guard_no rfl rfl rfl hg6 ?_
          refine S_guard_no rfl rfl rfl hg6 ?_
          refine S_guard_no rfl rfl rfl hg6 ?_
          refine S_guard_no rfl rfl rfl hg6 ?_
          refine S_guard_no rfl rfl rfl hg6 ?_
          refine S_val (X_pick_t (v := .bool _) rfl hg6 rfl) ?_
          exact C_nil rfl (bv rfl (by first | (simp_all; done) | (simp_all; omega) | (simp at *; omega)))
      intro ψ6
      refine run_if rfl (fun hc7 => ?_) (fun hc7 => ?_)   -- t39
      · 
        refine run_seq ?_
        refine run_ops ?_
        refine S_val (X_assign (v := .bool _) rfl) ?_
        refine S_nil ?_
        refine run_ret Try.func101 (res1 (v := .bool _) Try.results101 rfl) ?_
        exact ⟨by rw [fairB, show wi 0 65536 cyc = false by rw [wi, all_no h2 (by rw [hc7]; rfl)]]; simp, xt⟩
      · 
        refine run_skip ?_
        refine run_ops ?_
        refine S_val (X_move (v := .int _ _) rfl) ?_
        refine S_val (X_fieldAddr 1 Try.underlying51 rfl Try.sizeOf24 rfl) ?_
        refine S_val (ld Try.isAgg24 rfl) ?_
        refine S_val (X_move (v := .int _ _) rfl) ?_
        refine S_val (X_indexR hA4 Try.underlying24 Try.sizeOf3 rfl rfl (by omega) (by omega) (by first | rfl | omega)) ?_
        refine S_val (ld Try.isAgg3 rfl) ?_
        refine S_val (X_max rfl rfl) ?_
        refine S_val (X_assign (v := .int _ _) rfl) ?_
        refine S_nil ?_
        refine run_inBlock ?_
        refine run_ops ?_
        refine S_val (X_move (v := .int _ _) rfl) ?_
        refine S_val (X_add rfl rfl (wr64 (by omega))) ?_
        refine S_val (X_assign (v := .int _ _) rfl) ?_
        refine S_nil ?_
        exact ih1 (s + 1) _ _ ⟨rfl, by omega, by rw [all_succ h2, hI2, hc7]; rfl⟩ ⟨rfl, by rw [foldl_succ h2]; rfl, trivial⟩ (by omega) (by repeat (first | exact agree_mixW _ _ _ | (apply agree_putS rfl) | (apply agree_upd rfl) | (apply agree_mixIn rfl)))
    · 
      have hall : wi 0 65536 cyc = true := by rw [wi, all_done hI2 (by simpa using hc5)]
      have hfo := foldl_done (f := max) (a := (0 : Int)) (l := cyc) (s := s) (by simpa using hc5)
      rw [hfo]
      have hmax := fold_max_bound cyc 0 65536 (by decide) (fun x hx => (wi_mem hall x hx).2)
      have hmx0 := fold_max_ge cyc 0
      have htd := tdiv_bound (a := cyc.foldl max 0 + every) (b := every) (by omega) (by omega)
      refine run_exit rfl ?_   -- block 0
      refine run_seq ?_
      refine run_plan_ext [.held 0, .held 1, .held 2, .held 3, .held 4, .held 5, .held 6, .held 7, .held 8, .held 9, .held 10] rfl (by kernel_rfl) fun w8 x8 hs8 => ?_
      refine P_val rfl (by first | assumption | exact Step.refl _ _ | exact xt) (fun _ _ => X_fieldAddr 2 Try.underlying51 rfl Try.sizeOf3 rfl) ?_
      refine P_val rfl (by first | assumption | exact Step.refl _ _ | exact xt) (fun _ s => ldx s Try.isAgg3 rfl) ?_
      refine P_val rfl (by first | assumption | exact Step.refl _ _ | exact xt) (fun _ _ => X_move (v := .int _ _) rfl) ?_
      refine P_val rfl (by first | assumption | exact Step.refl _ _ | exact xt) (fun _ _ => X_fieldAddr 0 Try.underlying51 rfl Try.sizeOf3 rfl) ?_
      refine P_val rfl (by first | assumption | exact Step.refl _ _ | exact xt) (fun _ s => ldx s Try.isAgg3 rfl) ?_
      refine P_val rfl (by first | assumption | exact Step.refl _ _ | exact xt) (fun _ _ => X_add rfl rfl (wr64 (by omega))) ?_
      refine P_val rfl (by first | assumption | exact Step.refl _ _ | exact xt) (fun _ _ => X_fieldAddr 0 Try.underlying51 rfl Try.sizeOf3 rfl) ?_
      refine P_val rfl (by first | assumption | exact Step.refl _ _ | exact xt) (fun _ s => ldx s Try.isAgg3 rfl) ?_
      refine P_val rfl (by first | assumption | exact Step.refl _ _ | exact xt) (fun _ _ => X_quo rfl rfl (by omega) (wr64 (by omega))) ?_
      refine P_val rfl (by first | assumption | exact Step.refl _ _ | exact xt) (fun _ _ => X_eql rfl rfl) ?_
      refine P_val rfl (by first | assumption | exact Step.refl _ _ | exact xt) (fun _ _ => X_assign (v := .bool _) rfl) ?_
      refine P_nil ?_
      refine run_ret Try.func101 (res1 (v := .bool _) Try.results101 rfl) ?_
      exact ⟨by rw [fairB, hall, show wi 1 65536 [every] = true by simp [wi]; omega]; simp; omega, xt⟩
end Go.Proofs.Ytfhilbhmkifepaa
