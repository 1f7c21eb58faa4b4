/- rounds: the parts put together; no condition. -/
import Derived.Test.YtfhilbhmkifepaaR5
import Derived.Test.YtfhilbhmkifepaaR6a
namespace Go.Proofs.Ytfhilbhmkifepaa
open Go.RowKit

theorem tmod40 (n : Int) : -40 < n.tmod 40 ∧ n.tmod 40 < 40 := by
  obtain ⟨m, rfl | rfl⟩ := Int.eq_nat_or_neg n
  · rw [Int.tmod_eq_emod_of_nonneg (by omega)]; omega
  · rw [Int.neg_tmod, Int.tmod_eq_emod_of_nonneg (by omega)]; omega
theorem rowsL_mem {every : Int} {cyc : List Int} {stages n : Int} (hm : cyc.length ≤ 64) (hn : 0 ≤ n ∧ n ≤ 65536) : ∀ l ∈ rowsL every cyc stages n, (∀ x ∈ l, 0 ≤ x.2 ∧ x.2 < n) ∧ l.length ≤ 8388608 := by
  intro l hl
  unfold rowsL at hl
  split at hl
  · simp at hl
  · simp only [place, List.mem_map] at hl
    obtain ⟨c, _, rfl⟩ := hl
    refine ⟨fun x hx => ?_, ?_⟩
    · have := (mem_P2.1 (List.mem_filter.1 hx).1).2
      omega
    · refine Nat.le_trans (List.length_filter_le _ _) ?_
      have : (P2 cyc.length n.toNat).length = n.toNat * cyc.length := by
        unfold P2
        generalize n.toNat = q
        induction q with
        | zero => simp
        | succ q ih => rw [List.range_succ, List.flatMap_append, List.length_append, ih, Nat.succ_mul]; simp
      rw [this]
      have : n.toNat * cyc.length ≤ 65536 * 64 := Nat.mul_le_mul (by omega) hm
      omega
/-- All rows behind K rounds of the kernel. -/
def allL (every : Int) (cyc : List Int) (stages : Int) (K : Nat) : List (List (Int × Int)) :=
  PFr (rowsL every cyc stages stages) (pk every stages) ++ (List.range K).flatMap fun (k : Nat) => laterL (PKe (rowsL every cyc stages stages) (pk every stages) every) (k : Int)
theorem allL_succ (every : Int) (cyc : List Int) (stages : Int) (K : Nat) : allL every cyc stages (K + 1) = allL every cyc stages K ++ laterL (PKe (rowsL every cyc stages stages) (pk every stages) every) (K : Int) := by
  unfold allL
  rw [List.range_succ, List.flatMap_append, List.append_assoc]
  simp
theorem all_join {every : Int} {cyc : List Int} {stages m : Int} (hf : fairB every cyc stages = true) (hm : 0 ≤ m) :
    rowsL every cyc stages (m + stages) = allL every cyc stages (m + 1).toNat ++ laterL (PLa (rowsL every cyc stages stages) (pk every stages) every) m := by
  obtain ⟨he, _, hcy, hs, _⟩ := fair_out hf
  obtain ⟨S, rfl⟩ : ∃ S : Nat, stages = (S : Int) := ⟨stages.toNat, by omega⟩
  obtain ⟨q, rfl⟩ : ∃ q : Nat, m = (q : Int) := ⟨m.toNat, by omega⟩
  obtain ⟨e, rfl⟩ : ∃ e : Nat, every = (e : Int) := ⟨every.toNat, by omega⟩
  have h := parts_join (every := (e : Int)) (cyc := cyc) (S := S) (N := q + S) he.1 (by omega) (by omega) (fun x hx => ⟨(hcy x hx).1, (hcy x hx).2.2⟩)
  simp only [Nat.add_sub_cancel, Int.toNat_natCast, Int.natCast_add] at h
  have hp : (pk (e : Int) (S : Int)).toNat = (S - 1) * e := by
    unfold pk
    have : ((S : Int) - 1) * (e : Int) = (((S - 1) * e : Nat) : Int) := by rw [Int.natCast_mul]; congr 1; omega
    rw [this, Int.toNat_natCast]
  have hp2 : (pk (e : Int) (S : Int) + (e : Int)).toNat = (S - 1) * e + e := by
    have : pk (e : Int) (S : Int) = (((S - 1) * e : Nat) : Int) := by
      unfold pk; rw [Int.natCast_mul]; congr 1; omega
    rw [this]; omega
  rw [h, allL, PFr, PKe, PLa, hp, hp2]
  have e1 : (S - 1) * e + e - (S - 1) * e = e := by omega
  have e2 : ((q : Int) + 1).toNat = q + 1 := by omega
  rw [e1, e2, List.drop_zero, Nat.sub_zero]
  congr 2
  exact (List.take_of_length_le (by simp)).symm

theorem c5 (every stages n : Int) (he : i64ok every) (v : Value) (cyc : List Int) (w : World) (hR : Ints w v cyc) : Calls Try.prog 5 #[.agg #[.int .i64 every, v, .int .i64 stages], .int .i64 n] w fun e w' => e = .returned (.bool true) ∧ Ext w w' := by
  obtain ⟨A, c, rfl, hlc, hcm, hn0, hA⟩ := id hR
  obtain ⟨m1, hm1, hm1a, hm1b⟩ : ∃ m1, n.tmod 40 = m1 ∧ -40 < m1 ∧ m1 < 40 := ⟨_, rfl, tmod40 n⟩
  obtain ⟨m2, hm2, hm2a, hm2b⟩ : ∃ m2, (m1 + 40).tmod 40 = m2 ∧ 0 ≤ m2 ∧ m2 < 40 := ⟨_, rfl, by rw [Int.tmod_eq_emod_of_nonneg (by omega)]; omega⟩
  refine run_of 94 Try.func5 rfl rfl rfl ?_
  refine run_seq ?_
  refine run_ops ?_
  refine S_box (v := .agg _) rfl rfl fun b1 w1 hb1 x1 hs1 k1 => ?_
  refine S_val (X_assign (v := .bool _) rfl) ?_
  refine S_nil ?_
  refine run_seq ?_
  refine run_ops ?_
  refine S_val (lda [.int _ _, .slice _ _ _, .int _ _] Try.isAgg51 Try.sizeOf51 rfl) ?_
  refine S_call (X_call Try.call29 rfl rfl) (c29 (v := .slice A cyc.length c) (cyc := cyc) every stages he _ (Rd.ext (flat_carries _ _) xt hR)) ?_
  rintro _ w2 ⟨v2, u2, z2, rfl, x2, hv2, hu2, hz2⟩; obtain ⟨A2, c2, rfl, _⟩ := id hv2; obtain ⟨B2, d2, rfl, _⟩ := id hu2; obtain ⟨C2, e2, rfl, _⟩ := id hz2; have hs2 := x2.size; refine ⟨_, rfl, ?_⟩
  refine S_val (X_move (v := .tuple _) rfl) ?_
  refine S_val (X_extract (v := .slice _ _ _) rfl rfl) ?_
  refine S_val (X_extract (v := .slice _ _ _) rfl rfl) ?_
  refine S_val (X_extract (v := .slice _ _ _) rfl rfl) ?_
  refine S_val (X_extract (v := .int _ _) rfl rfl) ?_
  refine S_val (X_assign (v := .slice _ _ _) rfl) ?_
  refine S_val (X_assign (v := .slice _ _ _) rfl) ?_
  refine S_val (X_assign (v := .slice _ _ _) rfl) ?_
  refine S_val (X_assign (v := .int _ _) rfl) ?_
  refine S_nil ?_
  refine run_seq ?_
  refine run_seq ?_
  refine run_ops ?_
  refine S_val (X_move (v := .int _ _) rfl) ?_
  refine S_val (X_neq rfl rfl) ?_
  refine S_nil ?_
  refine run_if rfl (fun hc3 => ?_) (fun hc3 => ?_)   -- t20
  · 
    have hw : ¬ PaE every cyc stages = 0 := by simpa using hc3
    have hl : PLs every cyc stages = [] := by rw [PLs, if_neg hw]
    refine run_seq ?_
    refine run_cutX [4, 21, 22, 23, 24, 25, 26, 27, 28, 29, 30, 31, 32, 33, 34, 35, 36] 4 (.bool (true)) ?_ ?_
    · 
      refine S_val (X_move (v := .slice _ _ _) rfl) ?_
      refine S_val (X_len Try.underlying52 rfl) ?_
      refine S_val (X_eql rfl rfl) ?_
      refine S_val (X_move (v := .bool _) rfl) ?_
      refine S_guard rfl rfl rfl (fun hg3 => ?_) (fun hg3 => ?_)
      · 
        refine S_val (X_move (v := .slice _ _ _) rfl) ?_
        refine S_guard_yes rfl rfl rfl hg3 ?_
        refine S_val (X_len Try.underlying52 rfl) ?_
        refine S_guard_yes rfl rfl rfl hg3 ?_
        refine S_val (X_eql rfl rfl) ?_
        refine S_val (X_pick_t (v := .bool _) rfl hg3 rfl) ?_
        refine S_val (X_move (v := .bool _) rfl) ?_
        refine S_guard rfl rfl rfl (fun hg8 => ?_) (fun hg8 => ?_)
        · 
          refine S_val (X_move (v := .slice _ _ _) rfl) ?_
          refine S_guard_yes rfl rfl rfl hg8 ?_
          refine S_val (X_len Try.underlying52 rfl) ?_
          refine S_guard_yes rfl rfl rfl hg8 ?_
          refine S_val (X_eql rfl rfl) ?_
          refine S_val (X_pick_t (v := .bool _) rfl hg8 rfl) ?_
          refine S_val (X_move (v := .bool _) rfl) ?_
          refine S_guard rfl rfl rfl (fun hg13 => ?_) (fun hg13 => ?_)
          · 
            refine S_call (X_call Try.call32 rfl rfl) (c32 _) ?_
            rintro _ w4 ⟨rfl, x4⟩; have hs4 := x4.size; refine ⟨_, rfl, ?_⟩
            refine S_val (X_pick_t (v := .bool _) rfl hg13 rfl) ?_
            refine S_val (X_assign (v := .bool _) rfl) ?_
            exact C_nil xt (bv rfl (by first | rfl | (exfalso; simp [hl, PFr, PKe, PLa] at hg3; done) | (exfalso; simp [hl, PFr, PKe, PLa] at hg8; done) | (exfalso; simp [hl, PFr, PKe, PLa] at hg13; done) | (exfalso; simp [hw7] at hg2; done) | (exfalso; simp at hg10; done) | (exfalso; simp [hke] at hg17; done)))
          · 
            refine S_val (X_pick_f (v := .bool _) rfl hg13 rfl) ?_
            refine S_val (X_assign (v := .bool _) rfl) ?_
            exact C_nil xt (bv rfl (by first | rfl | (exfalso; simp [hl, PFr, PKe, PLa] at hg3; done) | (exfalso; simp [hl, PFr, PKe, PLa] at hg8; done) | (exfalso; simp [hl, PFr, PKe, PLa] at hg13; done) | (exfalso; simp [hw7] at hg2; done) | (exfalso; simp at hg10; done) | (exfalso; simp [hke] at hg17; done)))
        · 
          refine S_guard_no rfl rfl rfl hg8 ?_
          refine S_guard_no rfl rfl rfl hg8 ?_
          refine S_val (X_pick_f (v := .bool _) rfl hg8 rfl) ?_
          refine S_val (X_move (v := .bool _) rfl) ?_
          refine S_guard_no rfl rfl rfl rfl ?_
          refine S_val (X_pick_f (v := .bool _) rfl rfl rfl) ?_
          refine S_val (X_assign (v := .bool _) rfl) ?_
          exact C_nil xt (bv rfl (by first | rfl | (exfalso; simp [hl, PFr, PKe, PLa] at hg3; done) | (exfalso; simp [hl, PFr, PKe, PLa] at hg8; done) | (exfalso; simp [hl, PFr, PKe, PLa] at hg13; done) | (exfalso; simp [hw7] at hg2; done) | (exfalso; simp at hg10; done) | (exfalso; simp [hke] at hg17; done)))
      · 
        refine S_guard_no rfl rfl rfl hg3 ?_
        refine S_guard_no rfl rfl rfl hg3 ?_
        refine S_val (X_pick_f (v := .bool _) rfl hg3 rfl) ?_
        refine S_val (X_move (v := .bool _) rfl) ?_
        refine S_guard_no rfl rfl rfl rfl ?_
        refine S_guard_no rfl rfl rfl rfl ?_
        refine S_guard_no rfl rfl rfl rfl ?_
        refine S_val (X_pick_f (v := .bool _) rfl rfl rfl) ?_
        refine S_val (X_move (v := .bool _) rfl) ?_
        refine S_guard_no rfl rfl rfl rfl ?_
        refine S_val (X_pick_f (v := .bool _) rfl rfl rfl) ?_
        refine S_val (X_assign (v := .bool _) rfl) ?_
        exact C_nil xt (bv rfl (by first | rfl | (exfalso; simp [hl, PFr, PKe, PLa] at hg3; done) | (exfalso; simp [hl, PFr, PKe, PLa] at hg8; done) | (exfalso; simp [hl, PFr, PKe, PLa] at hg13; done) | (exfalso; simp [hw7] at hg2; done) | (exfalso; simp at hg10; done) | (exfalso; simp [hke] at hg17; done)))
    intro ψ5 w5 x5 hs5
    refine run_ret Try.func5 (res1 (v := .bool _) Try.results5 rfl) ?_
    exact ⟨rfl, xt⟩
  · 
    have hw : PaE every cyc stages = 0 := by simpa using hc3
    have hf : fairB every cyc stages = true := by
      unfold PaE at hw
      split at hw
      · omega
      · rename_i h; simpa using h
    have h65 : ¬ 65536 < 3 * every * stages := by
      unfold PaE at hw
      rw [if_neg (by simp [hf])] at hw
      split at hw
      · omega
      · rename_i h; simpa using h
    obtain ⟨p1, p2, p3, p4, p5, p6, p7, p8, p9⟩ := part_facts hf h65
    obtain ⟨_, hcl, _, _, _⟩ := fair_out hf
    have hl : PLs every cyc stages = rowsL every cyc stages stages := by rw [PLs, if_pos hw]
    rw [hl] at hv2 hu2 hz2
    simp only [hl]
    have hmem := rowsL_mem (every := every) (cyc := cyc) (stages := stages) (n := stages) hcl ⟨by omega, p3⟩
    have hpk : pk every stages = (stages - 1) * every := rfl
    have hmF : ∀ l ∈ PFr (rowsL every cyc stages stages) (pk every stages), l ∈ rowsL every cyc stages stages := fun l h => List.mem_of_mem_drop (List.mem_of_mem_take h)
    have hmK : ∀ l ∈ PKe (rowsL every cyc stages stages) (pk every stages) every, l ∈ rowsL every cyc stages stages := fun l h => List.mem_of_mem_drop (List.mem_of_mem_take h)
    have hmL : ∀ l ∈ PLa (rowsL every cyc stages stages) (pk every stages) every, l ∈ rowsL every cyc stages stages := fun l h => List.mem_of_mem_drop (List.mem_of_mem_take h)
    have hkL : ∀ l ∈ PLa (rowsL every cyc stages stages) (pk every stages) every, ∀ x ∈ l, i64ok (x.2 + m2) := fun l h x hx => by
      have := (hmem l (hmL l h)).1 x hx
      unfold i64ok; omega
    have hlF : (PFr (rowsL every cyc stages stages) (pk every stages)).length ≤ 65536 := by simp only [PFr, List.length_take, List.length_drop]; omega
    have hlK : (PKe (rowsL every cyc stages stages) (pk every stages) every).length ≤ 131072 ∧ ∀ l ∈ PKe (rowsL every cyc stages stages) (pk every stages) every, l.length ≤ 8388608 := ⟨by simp only [PKe, List.length_take, List.length_drop]; omega, fun l h => (hmem l (hmK l h)).2⟩
    have hlL : (PLa (rowsL every cyc stages stages) (pk every stages) every).length ≤ 131072 ∧ ∀ l ∈ PLa (rowsL every cyc stages stages) (pk every stages) every, l.length ≤ 8388608 := ⟨by simp only [PLa, List.length_take, List.length_drop]; omega, fun l h => (hmem l (hmL l h)).2⟩
    have hke : ((PKe (rowsL every cyc stages stages) (pk every stages) every).length : Int) = every := by simp only [PKe, List.length_take, List.length_drop]; omega
    refine run_skip ?_
    refine run_seq ?_
    refine run_ops ?_
    refine S_val (X_move (v := .int _ _) rfl) ?_
    refine S_val (X_rem rfl rfl (by decide) hm1) ?_
    refine S_val (X_add rfl rfl (wr64 (by omega))) ?_
    refine S_val (X_rem rfl rfl (by decide) hm2) ?_
    refine S_val (X_fieldAddr 2 Try.underlying51 rfl Try.sizeOf3 rfl) ?_
    refine S_val (ld Try.isAgg3 rfl) ?_
    refine S_val (X_add rfl rfl (wr64 (by omega))) ?_
    refine S_val (X_assign (v := .int _ _) rfl) ?_
    refine S_nil ?_
    refine run_seq ?_
    refine run_ops ?_
    refine S_val (lda [.int _ _, .slice _ _ _, .int _ _] Try.isAgg51 Try.sizeOf51 rfl) ?_
    refine S_val (X_move (v := .int _ _) rfl) ?_
    refine S_call (X_call Try.call27 rfl rfl) (c27 (v := .slice A cyc.length c) (cyc := cyc) every stages (m2 + stages) he _ (Rd.ext (flat_carries _ _) xt hR)) ?_
    rintro _ w6 ⟨v6, rfl, x6, hv6⟩; obtain ⟨A6, c6, rfl, hq6, hm6, hz6, hr6⟩ := id hv6; have hs6 := x6.size; refine ⟨_, rfl, ?_⟩
    refine S_val (X_move (v := .tuple _) rfl) ?_
    refine S_val (X_extract (v := .slice _ _ _) rfl rfl) ?_
    refine S_val (X_extract (v := .int _ _) rfl rfl) ?_
    refine S_val (X_assign (v := .slice _ _ _) rfl) ?_
    refine S_val (X_assign (v := .int _ _) rfl) ?_
    refine S_nil ?_
    refine run_seq ?_
    refine run_seq ?_
    refine run_ops ?_
    refine S_val (X_move (v := .int _ _) rfl) ?_
    refine S_val (X_neq rfl rfl) ?_
    refine S_nil ?_
    refine run_if rfl (fun hc7 => ?_) (fun hc7 => ?_)   -- t51
    · 
      have hw7 : WE every cyc stages (m2 + stages) = 3 := by
        have h := hc7
        unfold WE at h ⊢
        rw [if_neg (by simp [hf]; omega)] at h ⊢
        split at h
        · rename_i h8; rw [if_pos h8]
        · simp at h
      refine run_seq ?_
      refine run_cutX [4, 52, 53, 54, 55, 56] 4 (.bool (true)) ?_ ?_
      · 
        refine S_val (X_move (v := .int _ _) rfl) ?_
        refine S_val (X_eql rfl rfl) ?_
        refine S_val (X_move (v := .bool _) rfl) ?_
        refine S_guard rfl rfl rfl (fun hg2 => ?_) (fun hg2 => ?_)
        · 
          refine S_call (X_call Try.call32 rfl rfl) (c32 _) ?_
          rintro _ w8 ⟨rfl, x8⟩; have hs8 := x8.size; refine ⟨_, rfl, ?_⟩
          refine S_val (X_pick_t (v := .bool _) rfl hg2 rfl) ?_
          refine S_val (X_assign (v := .bool _) rfl) ?_
          exact C_nil xt (bv rfl (by first | rfl | (exfalso; simp [hl, PFr, PKe, PLa] at hg3; done) | (exfalso; simp [hl, PFr, PKe, PLa] at hg8; done) | (exfalso; simp [hl, PFr, PKe, PLa] at hg13; done) | (exfalso; simp [hw7] at hg2; done) | (exfalso; simp at hg10; done) | (exfalso; simp [hke] at hg17; done)))
        · 
          refine S_val (X_pick_f (v := .bool _) rfl hg2 rfl) ?_
          refine S_val (X_assign (v := .bool _) rfl) ?_
          exact C_nil xt (bv rfl (by first | rfl | (exfalso; simp [hl, PFr, PKe, PLa] at hg3; done) | (exfalso; simp [hl, PFr, PKe, PLa] at hg8; done) | (exfalso; simp [hl, PFr, PKe, PLa] at hg13; done) | (exfalso; simp [hw7] at hg2; done) | (exfalso; simp at hg10; done) | (exfalso; simp [hke] at hg17; done)))
      intro ψ9 w9 x9 hs9
      refine run_ret Try.func5 (res1 (v := .bool _) Try.results5 rfl) ?_
      exact ⟨rfl, xt⟩
    · 
      have hw6 : WE every cyc stages (m2 + stages) = 0 := by simpa using hc7
      have hj := all_join (every := every) (cyc := cyc) (stages := stages) (m := m2) hf hm2a
      have hwl : WL every cyc stages (m2 + stages) = rowsL every cyc stages (m2 + stages) := by rw [WL, if_pos hw6]
      have hv6a : Slots2 w6 (Value.slice A6 (WL every cyc stages (m2 + stages)).length c6) (allL every cyc stages (m2 + 1).toNat ++ laterL (PLa (rowsL every cyc stages stages) (pk every stages) every) m2) := by rw [← hj, ← hwl]; exact hv6
      refine run_skip ?_
      refine run_seq ?_
      refine run_ops ?_
      refine S_build (rs := []) [] Try.underlying52 Try.sizeOf151 Try.zeroValue151 rfl (by kernel_rfl) rfl fun b10 w10 hb10 x10 hs10 k10 => ?_
      refine S_val (X_move (v := .slice _ _ _) rfl) ?_
      obtain ⟨Af, cf, hsf, ef, f1, f2, f3, f4, f5, f6⟩ := rows_hds hv2
      cases ef
      refine S_appR (RdA.ext (flat_carries _ _) (xt (a := w2)) f5) f3 (fun _ => rfl) Try.underlying52 lay151 rfl (by decide) (own_of_blk (base := b10) (n := 0) k10 (Nat.le_refl _) rfl (by simp [maxLen])) rfl (by rw [f4]; rfl) (by omega) hds_one (by simp [maxLen]; omega) (by omega) (by omega) fun A11 c11 w11 g11 => ?_
      have x11 : Ext w6 w11 := g11.ext xt (by omega)
      rw [hds_flat] at g11
      have hO11 : Out enS okS 2 151 w11 b10 (.slice A11 (0 + hsf.length) c11) ([] ++ hsf.map hv) ([] ++ PFr (rowsL every cyc stages stages) (pk every stages)) := Out.push (by decide) (⟨own_of_blk (base := b10) (n := 0) k10 (Nat.le_refl _) rfl (by simp [maxLen]), rfl, by simp, by simp⟩ : Out enS okS 2 151 w10 b10 (.slice (some ⟨b10, 0, none⟩) 0 0) [] []) (by simp) g11 (by simp [f4]) (fun i x l h1 h2 => ⟨Rd.ext (flat_carries _ _) (xt (a := w2)) (f6 i x l h1 h2), fun hne b hb he => by
        obtain ⟨k, hk1, hk2⟩ := (f6 i x l h1 h2).below (by decide) hne
        rw [hk1] at he
        simp [Value.ownBlock] at hb he
        omega⟩)
      have hL11 : (hsf.map hv).length = (PFr (rowsL every cyc stages stages) (pk every stages)).length := by simp [f4]
      refine S_val (X_assign (v := .slice _ _ _) rfl) ?_
      refine S_nil ?_
      refine run_seq ?_
      refine run_seq ?_
      refine run_ops ?_
      refine S_val (X_move (v := .int _ _) rfl) ?_
      refine S_val (X_fieldAddr 2 Try.underlying51 rfl Try.sizeOf3 rfl) ?_
      refine S_val (ld Try.isAgg3 rfl) ?_
      refine S_val (X_sub rfl rfl (c := m2) (by rw [show m2 + stages - stages = m2 by omega]; exact wr64 (by omega))) ?_
      refine S_val (X_add rfl rfl (wr64 (by omega))) ?_
      refine S_val (X_move (v := .int _ _) rfl) ?_
      refine S_nil ?_
      refine run_block ?_   -- block 0
      refine run_loopI (σ := Nat × Value × List Value) [10, 11, 65, 66, 67, 68, 69, 70, 71, 72, 73] (fun s => [(65, .int .i64 (s.1 : Int)), (10, s.2.1)]) (fun s w' => Ext w6 w' ∧ Out enS okS 2 151 w' b10 s.2.1 s.2.2 (allL every cyc stages s.1) ∧ s.2.2.length ≤ 131072 * (s.1 + 1) ∧ (s.1 : Int) ≤ m2 + 1) (fun s => 41 - s.1) (0, .slice A11 (0 + hsf.length) c11, hsf.map hv) ⟨x11, by simpa [allL] using hO11, by simp only; omega, by simp only; omega⟩ ⟨rfl, rfl, trivial⟩ ?_   -- LOOP 1
      rintro ⟨s, v, hs⟩ w12 ψ12 ⟨hI1, hI2, hI3, hI4⟩ ih1
      dsimp only at hI1 hI2 hI3 hI4
      obtain ⟨A0, c0, rfl, _⟩ := own_shape hI2.own
      have hI1s := hI1.size
      have hkK : ∀ l ∈ PKe (rowsL every cyc stages stages) (pk every stages) every, ∀ x ∈ l, i64ok (x.2 + (s : Int)) := fun l h x hx => by
        have := (hmem l (hmK l h)).1 x hx
        unfold i64ok; omega
      refine run_seq ?_
      refine run_ops ?_
      refine S_val (X_lss rfl rfl) ?_
      refine S_nil ?_
      refine run_seq ?_
      refine run_if rfl (fun hc13 => ?_) (fun hc13 => ?_)   -- t66
      · 
        have h13 : (s : Int) < m2 + 1 := by simp at hc13; omega
        refine run_skip ?_
        refine run_seq ?_
        refine run_block ?_   -- block 1
        refine run_seq ?_
        refine run_ops ?_
        refine S_val (X_move (v := .int _ _) rfl) ?_
        refine S_val (X_assign (v := .int _ _) rfl) ?_
        refine S_nil ?_
        refine run_ops ?_
        refine S_val (X_move (v := .slice _ _ _) rfl) ?_
        refine S_val (X_move (v := .slice _ _ _) rfl) ?_
        refine S_val (X_move (v := .int _ _) rfl) ?_
        refine S_call (X_call Try.call33 rfl rfl) (c33 _ (s : Int) _ _ (Rd.ext rowR_carries (xt (a := w2)) hu2) hkK hlK) ?_
        rintro _ w14 ⟨v14, q14, rfl, x14, hO14, hb14⟩; obtain ⟨A14, c14, hd14, rfl, rfl, f114, f214, f314, f414⟩ := hO14.hds; have hs14 := x14.size; refine ⟨_, rfl, ?_⟩
        have hn14 : hd14.length ≤ 131072 := by
          have h1 := hO14.len
          rw [later_len, List.length_map] at h1
          have := hlK.1
          omega
        refine S_appR f414 f214 (fun _ => rfl) Try.underlying52 lay151 rfl (by decide) (own_step hI2.own x14 (fun _ _ hf => hf)) rfl (by rw [f314]; rfl) (by rw [f314]; exact f114) hds_one (by simp [maxLen]; omega) (by omega) (by omega) fun A15 c15 w15 g15 => ?_
        have x15 : Ext w6 w15 := g15.ext xt (by omega)
        rw [hds_flat] at g15
        have hO15 := Out.push (by decide) (hI2.ext x14) (by simp) g15 hO14.len (fun i x l h1 h2 => ⟨hO14.rd i x l h1 h2, fun _ b hb he => by
          have h5 := hb14 x (List.mem_of_getElem? h1) b he
          have h6 := (hI2.own.lt b hb).2
          omega⟩)
        refine S_val (X_assign (v := .slice _ _ _) rfl) ?_
        refine S_nil ?_
        refine run_inBlock ?_
        refine run_ops ?_
        refine S_val (X_add rfl rfl (wr64 (by omega))) ?_
        refine S_val (X_move (v := .int _ _) rfl) ?_
        refine S_nil ?_
        refine ih1 (s + 1, .slice A15 (hs.length + hd14.length) c15, hs ++ hd14.map hv) _ _ ⟨x15, ?_, ?_, by simp only; omega⟩ ⟨rfl, rfl, trivial⟩ (by simp only; omega) (by repeat (first | exact agree_mixW _ _ _ | (apply agree_putS rfl) | (apply agree_upd rfl) | (apply agree_mixIn rfl)))
        · rw [allL_succ]; exact hO15
        · have := hO14.len
          rw [later_len] at this
          simp only [List.length_append]
          have := hlK.1
          omega
      · 
        have h13 : ¬ (s : Int) < m2 + 1 := by simp at hc13; omega
        obtain rfl : s = (m2 + 1).toNat := by omega
        refine run_exit rfl ?_   -- block 0
        refine run_seq ?_
        refine run_cutW [4, 74, 75, 76, 77, 78, 79, 80, 81, 82, 83, 84, 85, 86, 87, 88, 89, 90, 91, 92, 93] 4 (.bool (true)) (Ext w6) ?_ ?_
        · 
          refine S_val (X_move (v := .slice _ _ _) rfl) ?_
          refine S_val (X_move (v := .slice _ _ _) rfl) ?_
          refine S_val (X_move (v := .slice _ _ _) rfl) ?_
          refine S_val (X_move (v := .int _ _) rfl) ?_
          refine S_val (X_fieldAddr 2 Try.underlying51 rfl Try.sizeOf3 rfl) ?_
          refine S_val (ld Try.isAgg3 rfl) ?_
          refine S_val (X_sub rfl rfl (c := m2) (by rw [show m2 + stages - stages = m2 by omega]; exact wr64 (by omega))) ?_
          refine S_call (X_call Try.call33 rfl rfl) (c33 _ m2 _ _ (Rd.ext rowR_carries (xt (a := w2)) hz2) hkL hlL) ?_
          rintro _ w16 ⟨v16, q16, rfl, x16, hO16, hb16⟩; obtain ⟨A16, c16, hd16, rfl, rfl, f116, f216, f316, f416⟩ := hO16.hds; have hs16 := x16.size; refine ⟨_, rfl, ?_⟩
          have hn16 : hd16.length ≤ 131072 := by
            have h1 := hO16.len
            rw [later_len, List.length_map] at h1
            have := hlL.1
            omega
          refine S_appR f416 f216 (fun _ => rfl) Try.underlying52 lay151 rfl (by decide) (own_step hI2.own x16 (fun _ _ hf => hf)) rfl (by rw [f316]; rfl) (by rw [f316]; exact f116) hds_one (by simp [maxLen]; omega) (by omega) (by omega) fun A17 c17 w17 g17 => ?_
          have x17 : Ext w6 w17 := g17.ext xt (by omega)
          rw [hds_flat] at g17
          have hO17 := Out.push (by decide) (hI2.ext x16) (by simp) g17 hO16.len (fun i x l h1 h2 => ⟨hO16.rd i x l h1 h2, fun _ b hb he => by
            have h5 := hb16 x (List.mem_of_getElem? h1) b he
            have h6 := (hI2.own.lt b hb).2
            omega⟩)
          have hfin := hO17.rdR
          refine S_call (X_call Try.call31 rfl rfl) (c31 _ _ _ _ (Rd.ext rowR_carries (xt (a := w6)) hv6a) hfin) ?_
          rintro _ w18 ⟨rfl, x18⟩; have hs18 := x18.size; refine ⟨_, rfl, ?_⟩
          refine S_val (X_move (v := .bool _) rfl) ?_
          refine S_guard rfl rfl rfl (fun hg10 => ?_) (fun hg10 => ?_)
          · 
            refine S_val (X_move (v := .slice _ _ _) rfl) ?_
            refine S_guard_yes rfl rfl rfl hg10 ?_
            refine S_val (X_len Try.underlying52 rfl) ?_
            refine S_guard_yes rfl rfl rfl hg10 ?_
            refine S_val (X_fieldAddr 0 Try.underlying51 rfl Try.sizeOf3 rfl) ?_
            refine S_guard_yes rfl rfl rfl hg10 ?_
            refine S_val (ld Try.isAgg3 rfl) ?_
            refine S_guard_yes rfl rfl rfl hg10 ?_
            refine S_val (X_eql rfl rfl) ?_
            refine S_val (X_pick_t (v := .bool _) rfl hg10 rfl) ?_
            refine S_val (X_move (v := .bool _) rfl) ?_
            refine S_guard rfl rfl rfl (fun hg17 => ?_) (fun hg17 => ?_)
            · 
              refine S_call (X_call Try.call32 rfl rfl) (c32 _) ?_
              rintro _ w19 ⟨rfl, x19⟩; have hs19 := x19.size; refine ⟨_, rfl, ?_⟩
              refine S_val (X_pick_t (v := .bool _) rfl hg17 rfl) ?_
              refine S_val (X_assign (v := .bool _) rfl) ?_
              exact C_nil xt (bv rfl (by first | rfl | (exfalso; simp [hl, PFr, PKe, PLa] at hg3; done) | (exfalso; simp [hl, PFr, PKe, PLa] at hg8; done) | (exfalso; simp [hl, PFr, PKe, PLa] at hg13; done) | (exfalso; simp [hw7] at hg2; done) | (exfalso; simp at hg10; done) | (exfalso; simp [hke] at hg17; done)))
            · 
              refine S_val (X_pick_f (v := .bool _) rfl hg17 rfl) ?_
              refine S_val (X_assign (v := .bool _) rfl) ?_
              exact C_nil xt (bv rfl (by first | rfl | (exfalso; simp [hl, PFr, PKe, PLa] at hg3; done) | (exfalso; simp [hl, PFr, PKe, PLa] at hg8; done) | (exfalso; simp [hl, PFr, PKe, PLa] at hg13; done) | (exfalso; simp [hw7] at hg2; done) | (exfalso; simp at hg10; done) | (exfalso; simp [hke] at hg17; done)))
          · 
            refine S_guard_no rfl rfl rfl hg10 ?_
            refine S_guard_no rfl rfl rfl hg10 ?_
            refine S_guard_no rfl rfl rfl hg10 ?_
            refine S_guard_no rfl rfl rfl hg10 ?_
            refine S_val (X_pick_f (v := .bool _) rfl hg10 rfl) ?_
            refine S_val (X_move (v := .bool _) rfl) ?_
            refine S_guard_no rfl rfl rfl rfl ?_
            refine S_val (X_pick_f (v := .bool _) rfl rfl rfl) ?_
            refine S_val (X_assign (v := .bool _) rfl) ?_
            exact C_nil xt (bv rfl (by first | rfl | (exfalso; simp [hl, PFr, PKe, PLa] at hg3; done) | (exfalso; simp [hl, PFr, PKe, PLa] at hg8; done) | (exfalso; simp [hl, PFr, PKe, PLa] at hg13; done) | (exfalso; simp [hw7] at hg2; done) | (exfalso; simp at hg10; done) | (exfalso; simp [hke] at hg17; done)))
        intro ψ20 w20 x20; have hs20 := x20.size
        refine run_ret Try.func5 (res1 (v := .bool _) Try.results5 rfl) ?_
        exact ⟨rfl, xt⟩
end Go.Proofs.Ytfhilbhmkifepaa
