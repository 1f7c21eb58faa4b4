/- rounds: rows, in the document's telling; no condition. -/
import Derived.Test.YtfhilbhmkifepaaS1
import Derived.Test.YtfhilbhmkifepaaD4
namespace Go.Proofs.Ytfhilbhmkifepaa
open Go.RowKit

theorem c166 (v : Value) (l : List (Int × Int)) (lo : Nat) (w : World) (ho : w.ownsRow lo 153 2 v l.length (l.flatMap enS)) (hl : l.length < 4611686018427387904) :
    Calls Try.prog 166 #[v, .func (.func 167) #[] #[]] w fun e w' => e = .returned v ∧ Step (fun k => v.ownBlock = some k) w w' ∧ w'.ownsRow lo 153 2 v l.length ((sortS l).flatMap enS) := by
  obtain ⟨A, cp, rfl, _⟩ := own_shape ho
  refine run_of 9 Try.func166 rfl rfl rfl ?_
  refine run_seq ?_
  refine run_ops ?_
  refine S_val (X_assign (v := .slice _ _ _) rfl) ?_
  refine S_nil ?_
  refine run_seq ?_
  refine run_ops ?_
  refine S_val (X_move (v := .slice _ _ _) rfl) ?_
  refine S_val (X_move (v := .func _ _ _) rfl) ?_
  refine S_call (X_call Try.call232 rfl rfl) (c232 _ _ _ _ ho hl) ?_
  rintro _ w1 ⟨rfl, x1, o1⟩; refine ⟨_, rfl, ?_⟩
  refine S_nil ?_
  refine run_seq ?_
  refine run_ops ?_
  refine S_val (X_move (v := .slice _ _ _) rfl) ?_
  refine S_val (X_assign (v := .slice _ _ _) rfl) ?_
  refine S_nil ?_
  refine run_ret Try.func166 (res1 (v := .slice _ _ _) Try.results166 rfl) ?_
  exact ⟨rfl, x1, o1⟩

theorem c165 (every stages : Int) (A : Option Addr) (c : Nat) (cyc : List Int) (i r N cc bp bo B lo : Nat) (hs : List Value) (L : List (List (Int × Int))) (l : List (Int × Int)) (w : World) (hA : IntsA w A cyc)
    (kp : Blk w bp [.int .i64 every, .slice A cyc.length c, .int .i64 stages] 51) (ko : Blk w bo [.slice (some ⟨B, 0, none⟩) N N] 52) (hRO : RowsOf enS 2 153 151 w lo B hs L) (hl : L[cc]? = some l) (hi : i < cyc.length) (hcc : (r : Int) * every + cyc[i] = cc) (hp : 0 ≤ (r : Int) * every) (hN : cc < N) (hN' : N ≤ 65536) (hc0 : 0 ≤ cyc[i]) (hlb : l.length ≤ 8388608)
    (hb : bp < lo ∧ bo < lo ∧ bp ≠ B ∧ bo ≠ B ∧ lo ≤ w.heap.size) :
    Calls Try.prog 165 #[.int .i64 i, .int .i64 r, .pointer (some ⟨bp, 0, none⟩), .pointer (some ⟨bo, 0, none⟩)] w fun e w' => e = .returned (.tuple #[]) ∧ (∃ hs', RowsOf enS 2 153 151 w' lo B hs' (L.set cc (l ++ [((i : Int), (r : Int))]))) ∧ Step (fun k => k = B ∨ lo ≤ k) w w' := by
  obtain ⟨A8, c8, hx8, _, ho8, hh8⟩ := rows_at hRO hl
  have hcell := IntsA.cell hA hi
  refine run_of 29 Try.func165 rfl rfl rfl ?_
  refine run_seq ?_
  refine run_plan_ext [.held 0, .held 1, .held 2, .held 3, .held 4, .held 5, .held 6, .held 7, .held 8, .held 9, .held 10] rfl (by kernel_rfl) fun w1 x1 hs1 => ?_
  refine P_val rfl (by first | assumption | exact Step.refl _ _ | exact xt) (fun _ _ => X_move (v := .int _ _) rfl) ?_
  refine P_val rfl (by first | assumption | exact Step.refl _ _ | exact xt) (fun _ _ => X_fieldAddr 0 Try.underlying51 rfl Try.sizeOf3 rfl) ?_
  refine P_val rfl (by first | assumption | exact Step.refl _ _ | exact xt) (fun _ s => ldx s Try.isAgg3 rfl) ?_
  refine P_val rfl (by first | assumption | exact Step.refl _ _ | exact xt) (fun _ _ => X_mul rfl rfl (wr64 (by omega))) ?_
  refine P_val rfl (by first | assumption | exact Step.refl _ _ | exact xt) (fun _ _ => X_fieldAddr 1 Try.underlying51 rfl Try.sizeOf24 rfl) ?_
  refine P_val rfl (by first | assumption | exact Step.refl _ _ | exact xt) (fun _ s => ldx s Try.isAgg24 rfl) ?_
  refine P_val rfl (by first | assumption | exact Step.refl _ _ | exact xt) (fun _ _ => X_move (v := .int _ _) rfl) ?_
  refine P_val rfl (by first | assumption | exact Step.refl _ _ | exact xt) (fun _ _ => X_indexR hA Try.underlying24 Try.sizeOf3 rfl rfl (by omega) (by omega) (by first | rfl | omega)) ?_
  refine P_val rfl (by first | assumption | exact Step.refl _ _ | exact xt) (fun _ s => ldx s Try.isAgg3 rfl) ?_
  refine P_val rfl (by first | assumption | exact Step.refl _ _ | exact xt) (fun _ _ => X_add rfl rfl (c := (cc : Int)) (by rw [hcc]; exact wr64 (by omega))) ?_
  refine P_val rfl (by first | assumption | exact Step.refl _ _ | exact xt) (fun _ _ => X_assign (v := .int _ _) rfl) ?_
  refine P_nil ?_
  refine run_plan_mod (fun k => k = B ∨ lo ≤ k) [.held 0, .held 1, .held 2, .held 3, .held 4, .held 6, .held 7, .held 8, .pair 5 9, .eff 10, .held 11, .eff 12] rfl (by kernel_rfl) fun w2 x2 hs2 => ?_
  refine P_val rfl (by first | assumption | exact Step.refl _ _ | exact xt) (fun _ s => ldS s Try.isAgg52 rfl) ?_
  refine P_val rfl (by first | assumption | exact Step.refl _ _ | exact xt) (fun _ _ => X_move (v := .int _ _) rfl) ?_
  refine P_val rfl (by first | assumption | exact Step.refl _ _ | exact xt) (fun _ s => ldS s Try.isAgg52 rfl) ?_
  refine P_val rfl (by first | assumption | exact Step.refl _ _ | exact xt) (fun _ _ => X_move (v := .int _ _) rfl) ?_
  refine P_val rfl (by first | assumption | exact Step.refl _ _ | exact xt) (fun _ _ => X_indexS Try.underlying52 Try.sizeOf151 rfl rfl (by omega) (by omega)) ?_
  refine P_val rfl (by first | assumption | exact Step.refl _ _ | exact xt) (fun _ _ => X_move (v := .int _ _) rfl) ?_
  refine P_val rfl (by first | assumption | exact Step.refl _ _ | exact xt) (fun _ _ => X_move (v := .int _ _) rfl) ?_
  refine P_val rfl (by first | assumption | exact Step.refl _ _ | exact xt) (fun _ _ => X_build1 [0, 1] [.int _ _, .int _ _] [.int _ _, .int _ _] Try.zeroValue153 Try.underlying153 pl153 rfl rfl rfl rfl) ?_
  refine P_pair_build (rs := [.int .i64 0, .int .i64 0]) [.int _ _, .int _ _] rfl (fun _ s => ldx s Try.isAgg151 rfl) (by first | assumption | exact Step.refl _ _ | exact xt) rfl Try.underlying151 Try.sizeOf153 Try.zeroValue153 rfl (by kernel_rfl) rfl fun b3 w3 hb3 x3 hs3 k3 => ⟨Ext.any x3, ?_⟩
  have h3 := hRO.ext (w' := w3) xt
  refine E_app rfl Try.underlying151 lay153 rfl (by decide) (own_step ho8 (w' := w3) (xt (a := w)) (fun _ _ hf => hf)) rfl rfl k3 rfl rfl (by simp [maxLen]; omega) (by omega) (by omega) fun A4 c4 w4 g4 => ?_
  have s4 : Step (fun k => k = B ∨ lo ≤ k) w2 w4 := S_s x3.any g4.step (fun i _ hi => .inr (g4.low i hi))
  refine ⟨s4, ?_⟩
  have hB4 := rows_blk h3 hx8 g4
  refine P_val rfl (by first | assumption | exact Step.refl _ _ | exact xt) (fun _ _ => X_indexS Try.underlying52 Try.sizeOf151 rfl rfl (by omega) (by omega)) ?_
  refine E_stS rfl Try.sizeOf151 rfl rfl hB4 (by simpa using hx8) rfl fun w5 m5 hs5 k5 => ⟨S_s s4 m5 (fun i _ hi => .inl hi), ?_⟩
  have s5 : Step (fun k => k = B ∨ lo ≤ k) w2 w5 := S_s s4 m5 (fun i _ hi => .inl hi)
  have h5 := rows_push (a := ((i : Int), (r : Int))) h3 hx8 hl g4 m5 (by simp) k5
  refine P_nil ?_
  refine run_end Try.func165 (res0 rfl) ?_
  exact ⟨rfl, ⟨_, h5⟩, Step.trans (Ext.any (Ext.trans x1 x2)) s5⟩

variable {v : Value} {cyc : List Int}

theorem c100 (every stages n : Int) (hf : fairB every cyc stages = true) (hn : 0 ≤ n ∧ n ≤ 65536) (hb : n * every + every * stages ≤ 65536) (w : World) (hR : Ints w v cyc) : Calls Try.prog 100 #[.agg #[.int .i64 every, v, .int .i64 stages], .int .i64 n] w fun e w' => ∃ x, e = .returned x ∧ Ext w w' ∧ Slots2 w' x (rowsL every cyc stages n) := by
  obtain ⟨A, c, rfl, hlc, hcm, hn0, hA⟩ := id hR
  obtain ⟨he, hcl, hcy, hst1, hst2⟩ := fair_out hf
  refine run_of 53 Try.func100 rfl rfl rfl ?_
  refine run_seq ?_
  refine run_ops ?_
  refine S_box (v := .agg _) rfl rfl fun b1 w1 hb1 x1 hs1 k1 => ?_
  refine S_val (X_assign (v := .slice _ _ _) rfl) ?_
  refine S_nil ?_
  refine run_seq ?_
  refine run_seq ?_
  refine run_ops ?_
  refine S_val (X_move (v := .int _ _) rfl) ?_
  refine S_val (X_eql rfl rfl) ?_
  refine S_nil ?_
  refine run_if rfl (fun hc2 => ?_) (fun hc2 => ?_)   -- t11
  · 
    refine run_seq ?_
    refine run_ops ?_
    refine S_val (X_assign (v := .slice _ _ _) rfl) ?_
    refine S_nil ?_
    refine run_ret Try.func100 (res1 (v := .slice _ _ _) Try.results100 rfl) ?_
    exact ⟨_, rfl, xt, by rw [rowsL, if_pos (by simpa using hc2)]; exact rd_nil⟩
  · 
    have hn1 : 1 ≤ n := by simp at hc2; omega
    obtain ⟨hN0, hN1⟩ := rows_bound he.1 hst1 hn1 hb
    obtain ⟨N, hN⟩ : ∃ N : Nat, (n - 1 + stages) * every = N := ⟨_, (Int.toNat_of_nonneg hN0).symm⟩
    rw [hN] at hN0 hN1
    refine run_skip ?_
    refine run_seq ?_
    refine run_ops ?_
    refine S_val (X_move (v := .int _ _) rfl) ?_
    refine S_val (X_sub rfl rfl (wr64 (by omega))) ?_
    refine S_val (X_fieldAddr 2 Try.underlying51 rfl Try.sizeOf3 rfl) ?_
    refine S_val (ld Try.isAgg3 rfl) ?_
    refine S_val (X_add rfl rfl (wr64 (by omega))) ?_
    refine S_val (X_fieldAddr 0 Try.underlying51 rfl Try.sizeOf3 rfl) ?_
    refine S_val (ld Try.isAgg3 rfl) ?_
    refine S_val (X_mul rfl rfl (c := (N : Int)) (by rw [hN]; exact wr64 (by omega))) ?_
    refine S_make Try.underlying52 lay151 rfl rfl rfl rfl (by omega) (by omega) (by simp [maxLen]; omega) fun B w3 hB3 x3 hs3 k3 => ?_
    refine S_alloc Try.zeroValue52 rfl fun b4 w4 hb4 x4 hs4 k4 => ?_
    refine st (v := .slice _ _ _) Try.sizeOf52 rfl rfl fun w5 m5 hs5 k5 => ?_
    refine S_nil ?_
    refine run_seq ?_
    refine run_ops ?_
    refine S_val (X_makeFuncL (ca := [.tmp 2, .tmp 5]) (vs := [.pointer (some ⟨b1, 0, none⟩), .pointer (some ⟨b4, 0, none⟩)]) rfl) ?_
    refine S_val (X_assign (v := .func _ _ _) rfl) ?_
    refine S_nil ?_
    refine run_seq ?_
    refine run_seq ?_
    refine run_ops ?_
    refine S_val (X_fieldAddr 1 Try.underlying51 rfl Try.sizeOf24 rfl) ?_
    refine S_val (ld Try.isAgg24 rfl) ?_
    refine S_val (X_len Try.underlying24 rfl) ?_
    refine S_val (X_move (v := .int _ _) rfl) ?_
    refine S_nil ?_
    refine run_block ?_   -- block 0
    refine run_loopI (σ := Nat) [7, 8, 25, 26, 27, 28, 29, 30, 31, 32, 33, 34, 35, 36, 37] (fun s => [(25, .int .i64 (s : Int))]) (fun s w' => ∃ hs, RowsOf enS 2 153 151 w' (b4 + 1) B hs (place N (posF every cyc) (P1 s n.toNat)) ∧ Blk w' b4 [.slice (some ⟨B, 0, none⟩) N N] 52 ∧ Ext w1 w' ∧ b4 < w'.heap.size ∧ s ≤ cyc.length) (fun s => cyc.length - s) 0 ⟨_, (by rw [show P1 0 n.toNat = [] from rfl, place_nil]; exact (rows_made k3).ext (xt (a := w3))), k5, xt, k5.lt, by omega⟩ ⟨rfl, trivial⟩ ?_   -- LOOP 1
    rintro i w6 ψ6 ⟨hs, hI1, hI2, hI3, hI4, hI5⟩ ih1
    refine run_seq ?_
    refine run_ops ?_
    refine S_val (X_lss rfl rfl) ?_
    refine S_nil ?_
    refine run_seq ?_
    refine run_if rfl (fun hc7 => ?_) (fun hc7 => ?_)   -- t26
    · 
      have h2 : i < cyc.length := by simpa using hc7
      refine run_skip ?_
      refine run_seq ?_
      refine run_block ?_   -- block 1
      refine run_seq ?_
      refine run_ops ?_
      refine S_val (X_move (v := .int _ _) rfl) ?_
      refine S_val (X_assign (v := .int _ _) rfl) ?_
      refine S_nil ?_
      refine run_seq ?_
      refine run_ops ?_
      refine S_val (X_move (v := .int _ _) rfl) ?_
      refine S_val (X_move (v := .int _ _) rfl) ?_
      refine S_nil ?_
      refine run_block ?_   -- block 2
      refine run_loopI (σ := Nat) [8, 29, 30, 31, 32, 33, 34, 35, 36] (fun s => [(29, .int .i64 (s : Int))]) (fun s w' => ∃ hs, RowsOf enS 2 153 151 w' (b4 + 1) B hs (place N (posF every cyc) (P1 i n.toNat ++ (List.range s).map fun (r : Nat) => ((i : Int), (r : Int)))) ∧ Blk w' b4 [.slice (some ⟨B, 0, none⟩) N N] 52 ∧ Ext w1 w' ∧ b4 < w'.heap.size ∧ (s : Int) ≤ n) (fun s => n.toNat - s) 0 ⟨_, (by simpa using hI1), hI2, hI3, hI4, by omega⟩ ⟨rfl, trivial⟩ ?_   -- LOOP 2
      rintro r w8 ψ8 ⟨hs, hI1, hI2, hI3, hI4, hI5⟩ ih2
      refine run_seq ?_
      refine run_ops ?_
      refine S_val (X_lss rfl rfl) ?_
      refine S_nil ?_
      refine run_seq ?_
      refine run_if rfl (fun hc9 => ?_) (fun hc9 => ?_)   -- t30
      · 
        have hr : (r : Int) < n := by simpa using hc9
        obtain ⟨hp0, hp1, hp2⟩ := pos_bound hf h2 hr
        obtain ⟨cc, hcc⟩ : ∃ cc : Nat, (r : Int) * every + cyc[i] = cc := ⟨_, (Int.toNat_of_nonneg hp1).symm⟩
        have hcy' := hcy _ (List.getElem_mem h2)
        have hcN : cc < N := by omega
        have hl8 := place_get (pos := posF every cyc) (ps := P1 i n.toNat ++ (List.range r).map fun (r : Nat) => ((i : Int), (r : Int))) hcN
        generalize hl8' : List.filter _ (P1 i n.toNat ++ (List.range r).map fun (r : Nat) => ((i : Int), (r : Int))) = l8 at hl8
        have hlb : l8.length ≤ 8388608 := by
          rw [← hl8']
          refine Nat.le_trans (List.length_filter_le _ _) ?_
          rw [List.length_append, P1_len]
          have := Nat.mul_le_mul (show i ≤ 64 by omega) (show n.toNat ≤ 65536 by omega)
          simp; omega
        have hset : (place N (posF every cyc) (P1 i n.toNat ++ (List.range r).map fun (r : Nat) => ((i : Int), (r : Int)))).set cc (l8 ++ [((i : Int), (r : Int))]) = place N (posF every cyc) (P1 i n.toNat ++ (List.range (r + 1)).map fun (r : Nat) => ((i : Int), (r : Int))) := by
          have hp : posF every cyc ((i : Int), (r : Int)) = (cc : Int) := by rw [posF_at h2, hcc]
          rw [range_map_succ, ← List.append_assoc, place_push (by rw [hp]; omega), hp, ← hl8']
          simp
        refine run_skip ?_
        refine run_seq ?_
        refine run_block ?_   -- block 3
        refine run_seq ?_
        refine run_ops ?_
        refine S_val (X_move (v := .int _ _) rfl) ?_
        refine S_val (X_assign (v := .int _ _) rfl) ?_
        refine S_nil ?_
        refine run_ops ?_
        refine S_val (X_move (v := .func _ _ _) rfl) ?_
        refine S_val (X_move (v := .int _ _) rfl) ?_
        refine S_val (X_move (v := .int _ _) rfl) ?_
        refine S_call (X_callv Try.call165 (cap := [.pointer (some ⟨b1, 0, none⟩), .pointer (some ⟨b4, 0, none⟩)]) (args := [.int .i64 i, .int .i64 r, .pointer (some ⟨b1, 0, none⟩), .pointer (some ⟨b4, 0, none⟩)]) rfl rfl) (c165 every stages A c cyc i r N cc b1 b4 B (b4 + 1) hs _ l8 _ (RdA.ext (flat_carries _ _) xt hA) (k1.ext xt) hI2 hI1 hl8 h2 hcc hp0 hcN (by omega) hcy'.1 hlb ⟨by omega, by omega, by omega, by omega, by omega⟩) ?_
        rintro _ w10 ⟨rfl, ⟨hs10, h10⟩, s10⟩; have hz10 := s10.size; refine ⟨_, rfl, ?_⟩
        refine S_nil ?_
        refine run_inBlock ?_
        refine run_ops ?_
        refine S_val (X_add rfl rfl (wr64 (by omega))) ?_
        refine S_val (X_move (v := .int _ _) rfl) ?_
        refine S_nil ?_
        rw [hset] at h10
        exact ih2 (r + 1) _ _ ⟨_, h10, hI2.step s10 (by omega), Step.tail hI3 s10 (fun k hk => by rcases hk with rfl | hk <;> omega), by omega, by omega⟩ ⟨rfl, trivial⟩ (by omega) (by repeat (first | exact agree_mixW _ _ _ | (apply agree_putS rfl) | (apply agree_upd rfl) | (apply agree_mixIn rfl)))
      · 
        refine run_exit rfl ?_   -- block 2
        refine run_inBlock ?_
        refine run_ops ?_
        refine S_val (X_add rfl rfl (wr64 (by omega))) ?_
        refine S_val (X_move (v := .int _ _) rfl) ?_
        refine S_nil ?_
        exact ih1 (i + 1) _ _ ⟨_, (by rw [P1_succ]; have := hI1; rwa [show r = n.toNat by simp at hc9; omega] at this), hI2, hI3, hI4, by omega⟩ ⟨rfl, trivial⟩ (by omega) (by repeat (first | exact agree_mixW _ _ _ | (apply agree_putS rfl) | (apply agree_upd rfl) | (apply agree_mixIn rfl)))
    · 
      refine run_exit rfl ?_   -- block 0
      refine run_seq ?_
      refine run_seq ?_
      refine run_ops ?_
      refine S_val (ld Try.isAgg52 rfl) ?_
      refine S_val (X_len Try.underlying52 rfl) ?_
      refine S_val (X_move (v := .int _ _) rfl) ?_
      refine S_nil ?_
      refine run_block ?_   -- block 4
      refine run_loopI (σ := Nat) [9, 40, 41, 42, 43, 44, 45, 46, 47, 48, 49, 50, 51] (fun s => [(40, .int .i64 (s : Int))]) (fun s w' => ∃ hs, RowsOf enS 2 153 151 w' (b4 + 1) B hs (((place N (posF every cyc) (P1 cyc.length n.toNat)).take s).map sortS ++ (place N (posF every cyc) (P1 cyc.length n.toNat)).drop s) ∧ Blk w' b4 [.slice (some ⟨B, 0, none⟩) N N] 52 ∧ Ext w1 w' ∧ b4 < w'.heap.size ∧ s ≤ N) (fun s => N - s) 0 ⟨_, (by rw [show cyc.length = i by simp at hc7; omega]; simpa using hI1), hI2, hI3, hI4, by omega⟩ ⟨rfl, trivial⟩ ?_   -- LOOP 3
      rintro s w11 ψ11 ⟨hs, hI1, hI2, hI3, hI4, hI5⟩ ih3
      refine run_seq ?_
      refine run_ops ?_
      refine S_val (X_lss rfl rfl) ?_
      refine S_nil ?_
      refine run_seq ?_
      refine run_if rfl (fun hc12 => ?_) (fun hc12 => ?_)   -- t41
      · 
        have h3 : s < N := by simpa using hc12
        have hLs : s < (place N (posF every cyc) (P1 cyc.length n.toNat)).length := by rw [place_len]; exact h3
        have hl12 := mid_get sortS _ s hLs
        have hset := mid_set sortS _ s hLs
        have hlb12 : ((place N (posF every cyc) (P1 cyc.length n.toNat))[s]).length ≤ 8388608 := by
          obtain ⟨c', _, h'⟩ := List.mem_map.1 (List.getElem_mem hLs)
          rw [← h']
          refine Nat.le_trans (List.length_filter_le _ _) ?_
          rw [P1_len]
          have := Nat.mul_le_mul hcl (show n.toNat ≤ 65536 by omega)
          omega
        generalize (place N (posF every cyc) (P1 cyc.length n.toNat))[s] = l12 at hl12 hset hlb12
        obtain ⟨A12, c12, hx12, _, ho12, hh12⟩ := rows_at hI1 hl12
        refine run_skip ?_
        refine run_seq ?_
        refine run_block ?_   -- block 5
        refine run_seq ?_
        refine run_ops ?_
        refine S_val (X_move (v := .int _ _) rfl) ?_
        refine S_val (X_assign (v := .int _ _) rfl) ?_
        refine S_nil ?_
        refine run_plan_mod (fun k => k = B ∨ b4 + 1 ≤ k) [.held 0, .held 1, .held 2, .held 3, .held 4, .eff 5, .eff 6, .held 7, .eff 8] rfl (by kernel_rfl) fun w13 x13 hs13 => ?_
        refine P_val rfl (by first | assumption | exact Step.refl _ _ | exact xt) (fun _ s => ldS s Try.isAgg52 rfl) ?_
        refine P_val rfl (by first | assumption | exact Step.refl _ _ | exact xt) (fun _ _ => X_move (v := .int _ _) rfl) ?_
        refine P_val rfl (by first | assumption | exact Step.refl _ _ | exact xt) (fun _ s => ldS s Try.isAgg52 rfl) ?_
        refine P_val rfl (by first | assumption | exact Step.refl _ _ | exact xt) (fun _ _ => X_move (v := .int _ _) rfl) ?_
        refine P_val rfl (by first | assumption | exact Step.refl _ _ | exact xt) (fun _ _ => X_indexS Try.underlying52 Try.sizeOf151 rfl rfl (by omega) (by omega)) ?_
        refine E_val rfl (ld Try.isAgg151 rfl) (by first | assumption | exact Step.refl _ _) ?_
        refine E_call rfl (X_call Try.call166 rfl rfl) (c166 _ l12 _ _ (own_step ho12 x13 (fun _ _ hf => hf)) (by omega)) ?_
        rintro _ w14 ⟨rfl, x14, o14⟩
        have h13 := hI1.ext x13
        have s14 : Step (fun k => k = B ∨ b4 + 1 ≤ k) w13 w14 := S_s (Step.refl _ _) x14 (fun i _ hi => .inr (ho12.lt i hi).1)
        have hB14 := h13.blk.step x14 (h13.out s _ hx12)
        refine ⟨_, rfl, s14, ?_⟩
        refine P_val rfl (by first | assumption | exact Step.refl _ _ | exact xt) (fun _ _ => X_indexS Try.underlying52 Try.sizeOf151 rfl rfl (by omega) (by omega)) ?_
        refine E_stS (v := .slice A12 l12.length c12) rfl Try.sizeOf151 rfl rfl hB14 (by simpa using hx12) rfl fun w15 m15 hs15 k15 => ⟨S_s s14 m15 (fun i _ hi => .inl hi), ?_⟩
        have s15 : Step (fun k => k = B ∨ b4 + 1 ≤ k) w13 w15 := S_s s14 m15 (fun i _ hi => .inl hi)
        have hs15' := s15.size
        have h15 := h13.turn (x := .slice A12 l12.length c12) (x' := .slice A12 l12.length c12) (l' := sortS l12) (W := w14) hx12 hl12 x14 (by rw [show (sortS l12).length = l12.length from List.length_mergeSort _]; exact o14) (.inl rfl) m15 (by simpa using k15)
        refine P_nil ?_
        refine run_inBlock ?_
        refine run_ops ?_
        refine S_val (X_add rfl rfl (wr64 (by omega))) ?_
        refine S_val (X_move (v := .int _ _) rfl) ?_
        refine S_nil ?_
        rw [hset] at h15
        exact ih3 (s + 1) _ _ ⟨_, h15, (hI2.ext x13).step s15 (by omega), Step.tail (Ext.trans hI3 x13) s15 (fun k hk => by rcases hk with rfl | hk <;> omega), by omega, by omega⟩ ⟨rfl, trivial⟩ (by omega) (by repeat (first | exact agree_mixW _ _ _ | (apply agree_putS rfl) | (apply agree_upd rfl) | (apply agree_mixIn rfl)))
      · 
        refine run_exit rfl ?_   -- block 4
        refine run_seq ?_
        refine run_ops ?_
        refine S_val (ld Try.isAgg52 rfl) ?_
        refine S_val (X_assign (v := .slice _ _ _) rfl) ?_
        refine S_nil ?_
        refine run_ret Try.func100 (res1 (v := .slice _ _ _) Try.results100 rfl) ?_
        refine ⟨_, rfl, xt, ?_⟩
        obtain rfl : s = N := by simp at hc12; omega
        rw [rowsL, if_neg (by omega), show rowsN every stages n = (s : Int) from hN]
        rw [List.drop_of_length_le (by rw [place_len]; omega), List.take_of_length_le (by rw [place_len]; omega), List.append_nil, place_sorted] at hI1
        exact rows_rd (enc := enS) (ok := okS) (sz := 2) (fun _ => rfl) (by decide) hI1 (place_ok (fun x hx => mem_P2.1 hx) hcl (by omega)) (by simp [place_len]) (by simp [maxLen]; omega)
end Go.Proofs.Ytfhilbhmkifepaa
