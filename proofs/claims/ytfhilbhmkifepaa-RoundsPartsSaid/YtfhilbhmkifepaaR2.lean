/- rounds: rows, in the document's telling; no condition. -/
import Derived.Test.YtfhilbhmkifepaaR1
import Derived.Test.YtfhilbhmkifepaaD3
namespace Go.Proofs.Ytfhilbhmkifepaa
open Go.RowKit

variable {v : Value} {cyc : List Int}

theorem c102 (every stages n : Int) (hf : fairB every cyc stages = true) (hn : 0 ≤ n ∧ n ≤ 65536) (hb : n * every + every * stages ≤ 65536) (w : World) (hR : Ints w v cyc) : Calls Try.prog 102 #[.agg #[.int .i64 every, v, .int .i64 stages], .int .i64 n] w fun e w' => ∃ x, e = .returned x ∧ Ext w w' ∧ Slots2 w' x (rowsL every cyc stages n) := by
  obtain ⟨A, c, rfl, hlc, hcm, hn0, hA⟩ := id hR
  obtain ⟨he, hcl, hcy, hst1, hst2⟩ := fair_out hf
  refine run_of 55 Try.func102 rfl rfl rfl ?_
  refine run_seq ?_
  refine run_ops ?_
  refine S_box (v := .agg _) rfl rfl fun b1 w1 hb1 x1 hs1 k1 => ?_
  refine S_val (X_assign (v := .slice _ _ _) rfl) ?_
  refine S_nil ?_
  refine run_seq ?_
  refine run_seq ?_
  refine run_ops ?_
  refine S_val (X_move (v := .int _ _) rfl) ?_
  refine S_val (X_eql rfl rfl) ?_
  refine S_nil ?_
  refine run_if rfl (fun hc2 => ?_) (fun hc2 => ?_)   -- t10
  · 
    refine run_seq ?_
    refine run_ops ?_
    refine S_val (X_assign (v := .slice _ _ _) rfl) ?_
    refine S_nil ?_
    refine run_ret Try.func102 (res1 (v := .slice _ _ _) Try.results102 rfl) ?_
    exact ⟨_, rfl, xt, by rw [rowsL, if_pos (by simpa using hc2)]; exact rd_nil⟩
  · 
    have hn1 : 1 ≤ n := by simp at hc2; omega
    obtain ⟨hN0, hN1⟩ := rows_bound he.1 hst1 hn1 hb
    obtain ⟨N, hN⟩ : ∃ N : Nat, (n - 1 + stages) * every = N := ⟨_, (Int.toNat_of_nonneg hN0).symm⟩
    rw [hN] at hN0 hN1
    refine run_skip ?_
    refine run_seq ?_
    refine run_ops ?_
    refine S_val (X_move (v := .int _ _) rfl) ?_
    refine S_val (X_sub rfl rfl (wr64 (by omega))) ?_
    refine S_val (X_fieldAddr 2 Try.underlying51 rfl Try.sizeOf3 rfl) ?_
    refine S_val (ld Try.isAgg3 rfl) ?_
    refine S_val (X_add rfl rfl (wr64 (by omega))) ?_
    refine S_val (X_fieldAddr 0 Try.underlying51 rfl Try.sizeOf3 rfl) ?_
    refine S_val (ld Try.isAgg3 rfl) ?_
    refine S_val (X_mul rfl rfl (c := (N : Int)) (by rw [hN]; exact wr64 (by omega))) ?_
    refine S_make Try.underlying52 lay151 rfl rfl rfl rfl (by omega) (by omega) (by simp [maxLen]; omega) fun B w3 hB3 x3 hs3 k3 => ?_
    refine S_val (X_assign (v := .slice _ _ _) rfl) ?_
    refine S_nil ?_
    refine run_seq ?_
    refine run_seq ?_
    refine run_ops ?_
    refine S_val (X_assign (v := .int _ _) rfl) ?_
    refine S_nil ?_
    refine run_block ?_   -- block 0
    refine run_loopI (σ := Nat) [6, 7, 8, 20, 21, 22, 23, 24, 25, 26, 27, 28, 29, 30, 31, 32, 33, 34, 35, 36, 37, 38, 39, 40, 41, 42, 43, 44, 45, 46, 47, 48, 49, 50, 51, 52, 53] (fun s => [(6, .int .i64 (s : Int))]) (fun s w' => ∃ hs, RowsOf enS 2 153 151 w' (B + 1) B hs (place N (posF every cyc) (P2 cyc.length s)) ∧ Ext w1 w' ∧ B < w'.heap.size ∧ (s : Int) ≤ n) (fun s => n.toNat - s) 0 ⟨_, (by rw [show P2 cyc.length 0 = [] from rfl, place_nil]; exact rows_made k3), xt, k3.lt, by omega⟩ ⟨rfl, trivial⟩ ?_   -- LOOP 1
    rintro r w4 ψ4 ⟨hs, hI1, hI2, hI3, hI4⟩ ih1
    refine run_seq ?_
    refine run_seq ?_
    refine run_ops ?_
    refine S_val (X_move (v := .int _ _) rfl) ?_
    refine S_val (X_move (v := .int _ _) rfl) ?_
    refine S_val (X_lss rfl rfl) ?_
    refine S_nil ?_
    refine run_if rfl (fun hc5 => ?_) (fun hc5 => ?_)   -- t22
    · 
      have hr : (r : Int) < n := by simpa using hc5
      refine run_skip ?_
      refine run_seq ?_
      refine run_block ?_   -- block 1
      refine run_seq ?_
      refine run_ops ?_
      refine S_val (X_assign (v := .int _ _) rfl) ?_
      refine S_nil ?_
      refine run_block ?_   -- block 2
      refine run_loopI (σ := Nat) [7, 8, 25, 26, 27, 28, 29, 30, 31, 32, 33, 34, 35, 36, 37, 38, 39, 40, 41, 42, 43, 44, 45, 46, 47, 48, 49, 50, 51, 52, 53] (fun s => [(7, .int .i64 (s : Int))]) (fun s w' => ∃ hs, RowsOf enS 2 153 151 w' (B + 1) B hs (place N (posF every cyc) (P2 cyc.length r ++ (List.range s).map fun (i : Nat) => ((i : Int), (r : Int)))) ∧ Ext w1 w' ∧ B < w'.heap.size ∧ s ≤ cyc.length) (fun s => cyc.length - s) 0 ⟨_, (by simpa using hI1), hI2, hI3, by omega⟩ ⟨rfl, trivial⟩ ?_   -- LOOP 2
      rintro i w6 ψ6 ⟨hs, hI1, hI2, hI3, hI4⟩ ih2
      have hA6 := RdA.ext (w' := w6) (flat_carries _ _) xt hA
      refine run_seq ?_
      refine run_seq ?_
      refine run_ops ?_
      refine S_val (X_move (v := .int _ _) rfl) ?_
      refine S_val (X_fieldAddr 1 Try.underlying51 rfl Try.sizeOf24 rfl) ?_
      refine S_val (ld Try.isAgg24 rfl) ?_
      refine S_val (X_len Try.underlying24 rfl) ?_
      refine S_val (X_lss rfl rfl) ?_
      refine S_nil ?_
      refine run_if rfl (fun hc7 => ?_) (fun hc7 => ?_)   -- t29
      · 
        have h2 : i < cyc.length := by simpa using hc7
        obtain ⟨hp0, hp1, hp2⟩ := pos_bound hf h2 hr
        obtain ⟨cc, hcc⟩ : ∃ cc : Nat, (r : Int) * every + cyc[i] = cc := ⟨_, (Int.toNat_of_nonneg hp1).symm⟩
        have hcy' := hcy _ (List.getElem_mem h2)
        have hcell := IntsA.cell hA6 h2
        have hcN : cc < N := by omega
        have hl8 := place_get (pos := posF every cyc) (ps := P2 cyc.length r ++ (List.range i).map fun (i : Nat) => ((i : Int), (r : Int))) hcN
        generalize hl8' : List.filter _ (P2 cyc.length r ++ (List.range i).map fun (i : Nat) => ((i : Int), (r : Int))) = l8 at hl8
        have hlb : l8.length ≤ 8388608 := by
          rw [← hl8']
          refine Nat.le_trans (List.length_filter_le _ _) ?_
          rw [List.length_append, P2_len]
          have := Nat.mul_le_mul (show r ≤ 65536 by omega) hcl
          simp; omega
        have hset : (place N (posF every cyc) (P2 cyc.length r ++ (List.range i).map fun (i : Nat) => ((i : Int), (r : Int)))).set cc (l8 ++ [((i : Int), (r : Int))]) = place N (posF every cyc) (P2 cyc.length r ++ (List.range (i + 1)).map fun (i : Nat) => ((i : Int), (r : Int))) := by
          have hp : posF every cyc ((i : Int), (r : Int)) = (cc : Int) := by rw [posF_at h2, hcc]
          rw [range_map_succ, ← List.append_assoc, place_push (by rw [hp]; omega), hp, ← hl8']
          simp
        obtain ⟨A8, c8, hx8, _, ho8', hh8'⟩ := rows_at hI1 hl8
        refine run_skip ?_
        refine run_seq ?_
        refine run_block ?_   -- block 3
        refine run_seq ?_
        refine run_plan_ext [.held 0, .held 1, .held 2, .held 3, .held 4, .held 5, .held 6, .held 7, .held 8, .held 9, .held 10] rfl (by kernel_rfl) fun w8 x8 hs8 => ?_
        refine P_val rfl (by first | assumption | exact Step.refl _ _ | exact xt) (fun _ _ => X_move (v := .int _ _) rfl) ?_
        refine P_val rfl (by first | assumption | exact Step.refl _ _ | exact xt) (fun _ _ => X_fieldAddr 0 Try.underlying51 rfl Try.sizeOf3 rfl) ?_
        refine P_val rfl (by first | assumption | exact Step.refl _ _ | exact xt) (fun _ s => ldx s Try.isAgg3 rfl) ?_
        refine P_val rfl (by first | assumption | exact Step.refl _ _ | exact xt) (fun _ _ => X_mul rfl rfl (wr64 (by omega))) ?_
        refine P_val rfl (by first | assumption | exact Step.refl _ _ | exact xt) (fun _ _ => X_fieldAddr 1 Try.underlying51 rfl Try.sizeOf24 rfl) ?_
        refine P_val rfl (by first | assumption | exact Step.refl _ _ | exact xt) (fun _ s => ldx s Try.isAgg24 rfl) ?_
        refine P_val rfl (by first | assumption | exact Step.refl _ _ | exact xt) (fun _ _ => X_move (v := .int _ _) rfl) ?_
        refine P_val rfl (by first | assumption | exact Step.refl _ _ | exact xt) (fun _ _ => X_indexR hA6 Try.underlying24 Try.sizeOf3 rfl rfl (by omega) (by omega) (by first | rfl | omega)) ?_
        refine P_val rfl (by first | assumption | exact Step.refl _ _ | exact xt) (fun _ s => ldx s Try.isAgg3 rfl) ?_
        refine P_val rfl (by first | assumption | exact Step.refl _ _ | exact xt) (fun _ _ => X_add rfl rfl (c := (cc : Int)) (by rw [hcc]; exact wr64 (by omega))) ?_
        refine P_val rfl (by first | assumption | exact Step.refl _ _ | exact xt) (fun _ _ => X_assign (v := .int _ _) rfl) ?_
        refine P_nil ?_
        refine run_ops ?_
        refine S_val (X_move (v := .slice _ _ _) rfl) ?_
        refine S_val (X_move (v := .int _ _) rfl) ?_
        refine S_val (X_move (v := .slice _ _ _) rfl) ?_
        refine S_val (X_move (v := .int _ _) rfl) ?_
        refine S_val (X_indexS Try.underlying52 Try.sizeOf151 rfl rfl (by omega) (by omega)) ?_
        refine S_val (ld Try.isAgg151 rfl) ?_
        refine S_val (X_move (v := .int _ _) rfl) ?_
        refine S_val (X_move (v := .int _ _) rfl) ?_
        refine S_val (X_build1 [0, 1] [.int _ _, .int _ _] [.int _ _, .int _ _] Try.zeroValue153 Try.underlying153 pl153 rfl rfl rfl rfl) ?_
        refine S_build (rs := [.int .i64 0, .int .i64 0]) [.int _ _, .int _ _] Try.underlying151 Try.sizeOf153 Try.zeroValue153 rfl (by kernel_rfl) rfl fun b9 w9 hb9 x9 hs9 k9 => ?_
        have h8 := hI1.ext x8
        have ho8 := own_step ho8' x8 (fun _ _ hf => hf)
        have h10 := h8.ext x9
        refine S_app Try.underlying151 lay153 rfl (by decide) (own_step ho8 x9 (fun _ _ hf => hf)) rfl rfl k9 rfl rfl (by simp [maxLen]; omega) (by omega) (by omega) fun A12 c12 w12 g12 => ?_
        have hB12 := rows_blk h10 hx8 g12
        have hs12 := g12.step.size
        have x12 : Ext w1 w12 := g12.ext xt (by omega)
        refine S_val (X_indexS Try.underlying52 Try.sizeOf151 rfl rfl (by omega) (by omega)) ?_
        refine S_store (u := .slice A8 l8.length c8) Try.sizeOf151 rfl rfl rfl hB12 (by simpa using hx8) fun w13 m13 hs13 k13 => ?_
        have h13 := rows_push (a := ((i : Int), (r : Int))) h10 hx8 hl8 g12 m13 (by simp) k13
        rw [hset] at h13
        refine S_nil ?_
        refine run_inBlock ?_
        refine run_ops ?_
        refine S_val (X_move (v := .int _ _) rfl) ?_
        refine S_val (X_add rfl rfl (wr64 (by omega))) ?_
        refine S_val (X_assign (v := .int _ _) rfl) ?_
        refine S_nil ?_
        exact ih2 (i + 1) _ _ ⟨_, h13, x12.mod m13 (by omega), by omega, by omega⟩ ⟨rfl, trivial⟩ (by omega) (by repeat (first | exact agree_mixW _ _ _ | (apply agree_putS rfl) | (apply agree_upd rfl) | (apply agree_mixIn rfl)))
      · 
        refine run_exit rfl ?_   -- block 2
        refine run_inBlock ?_
        refine run_ops ?_
        refine S_val (X_move (v := .int _ _) rfl) ?_
        refine S_val (X_add rfl rfl (wr64 (by omega))) ?_
        refine S_val (X_assign (v := .int _ _) rfl) ?_
        refine S_nil ?_
        exact ih1 (r + 1) _ _ ⟨_, (by rw [P2_succ]; have := hI1; rwa [show i = cyc.length by simp at hc7; omega] at this), xt, hI3, by omega⟩ ⟨rfl, trivial⟩ (by omega) (by repeat (first | exact agree_mixW _ _ _ | (apply agree_putS rfl) | (apply agree_upd rfl) | (apply agree_mixIn rfl)))
    · 
      refine run_exit rfl ?_   -- block 0
      refine run_seq ?_
      refine run_ops ?_
      refine S_val (X_move (v := .slice _ _ _) rfl) ?_
      refine S_val (X_assign (v := .slice _ _ _) rfl) ?_
      refine S_nil ?_
      refine run_ret Try.func102 (res1 (v := .slice _ _ _) Try.results102 rfl) ?_
      refine ⟨_, rfl, xt, ?_⟩
      obtain rfl : r = n.toNat := by simp at hc5; omega
      rw [rowsL, if_neg (by omega), show rowsN every stages n = (N : Int) from hN]
      exact rows_rd (enc := enS) (ok := okS) (sz := 2) (fun _ => rfl) (by decide) hI1 (place_ok (fun x hx => mem_P2.1 hx) hcl (by omega)) (by simp [place_len]) (by simp [maxLen]; omega)
end Go.Proofs.Ytfhilbhmkifepaa
