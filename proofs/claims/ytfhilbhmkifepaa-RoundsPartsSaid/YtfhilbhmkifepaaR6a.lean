/- rounds: the parts put together; no condition. -/
import Derived.Test.YtfhilbhmkifepaaR1
import Derived.Test.YtfhilbhmkifepaaE10
import Derived.Test.YtfhilbhmkifepaaE15
import Derived.Test.YtfhilbhmkifepaaD7
namespace Go.Proofs.Ytfhilbhmkifepaa
open Go.RowKit

theorem later_succ (L : List (List (Int × Int))) (k : Int) (i : Nat) (h : i < L.length) : laterL (L.take (i + 1)) k = laterL (L.take i) k ++ [L[i].map (shS k)] := by
  rw [laterL, List.take_succ_eq_append_getElem h, List.map_append]; rfl
theorem later_len (L : List (List (Int × Int))) (k : Int) : (laterL L k).length = L.length := by simp [laterL]

theorem c33 (va : Value) (k : Int) (L : List (List (Int × Int))) (w : World) (hL : Slots2 w va L) (hk : ∀ l ∈ L, ∀ x ∈ l, i64ok (x.2 + k)) (hn : L.length ≤ 131072 ∧ ∀ l ∈ L, l.length ≤ 8388608) : Calls Try.prog 33 #[va, .int .i64 k] w fun e w' => ∃ x hs, e = .returned x ∧ Ext w w' ∧ Out enS okS 2 151 w' w.heap.size x hs (laterL L k) ∧ ∀ y ∈ hs, ∀ b, y.ownBlock = some b → w.heap.size ≤ b := by
  obtain ⟨A, ca, rfl, ha1, ha2, ha3, hrA⟩ := id hL
  refine run_of 40 Try.func33 rfl rfl rfl ?_
  refine run_seq ?_
  refine run_ops ?_
  refine S_val (X_assign (v := .slice _ _ _) rfl) ?_
  refine S_nil ?_
  refine run_seq ?_
  refine run_ops ?_
  refine S_val (X_assign (v := .slice _ _ _) rfl) ?_
  refine S_nil ?_
  refine run_seq ?_
  refine run_seq ?_
  refine run_ops ?_
  refine S_val (X_move (v := .slice _ _ _) rfl) ?_
  refine S_val (X_len Try.underlying52 rfl) ?_
  refine S_val (X_move (v := .int _ _) rfl) ?_
  refine S_nil ?_
  refine run_block ?_   -- block 0
  refine run_loopI (σ := Nat × Value × List Value) [5, 7, 8, 10, 13, 14, 15, 16, 17, 18, 19, 20, 21, 22, 23, 24, 25, 26, 27, 28, 29, 30, 31, 32, 33, 34, 35, 36, 37, 38] (fun s => [(13, .int .i64 (s.1 : Int)), (5, s.2.1)]) (fun s w' => Ext w w' ∧ Out enS okS 2 151 w' w.heap.size s.2.1 s.2.2 (laterL (L.take s.1) k) ∧ (∀ y ∈ s.2.2, ∀ b, y.ownBlock = some b → w.heap.size ≤ b) ∧ s.1 ≤ L.length) (fun s => L.length - s.1) (0, .slice none 0 0, []) ⟨xt, out_nil, by simp, by simp⟩ ⟨rfl, rfl, trivial⟩ ?_   -- LOOP 1
  rintro ⟨i, v, hs⟩ w1 ψ1 ⟨hI1, hI2, hI3, hI4⟩ ih1
  dsimp only at hI1 hI2 hI3 hI4
  obtain ⟨A1, c1, rfl, _⟩ := own_shape hI2.own
  refine run_seq ?_
  refine run_ops ?_
  refine S_val (X_lss rfl rfl) ?_
  refine S_nil ?_
  refine run_seq ?_
  refine run_if rfl (fun hc2 => ?_) (fun hc2 => ?_)   -- t14
  · 
    have h2 : i < L.length := by simpa using hc2
    have hrA1 := RdA.ext (w' := w1) rowR_carries hI1 hrA
    obtain ⟨Ai, ci, hci, hia, hi1, hi2, hi3⟩ := rowr_at hrA1 h2
    have hll := hn.2 _ (List.getElem_mem h2)
    have hml : hs.length = i := by rw [hI2.len, later_len]; simp; omega
    have hI1s := hI1.size
    refine run_skip ?_
    refine run_seq ?_
    refine run_block ?_   -- block 1
    refine run_seq ?_
    refine run_ops ?_
    refine S_val (X_indexR hrA1 Try.underlying52 Try.sizeOf151 rfl rfl (by omega) (by omega) (by first | rfl | omega)) ?_
    refine S_val (ld Try.isAgg151 rfl) ?_
    refine S_val (X_assign (v := .slice _ _ _) rfl) ?_
    refine S_nil ?_
    refine run_seq ?_
    refine run_ops ?_
    refine S_val (X_assign (v := .slice _ _ _) rfl) ?_
    refine S_nil ?_
    refine run_seq ?_
    refine run_seq ?_
    refine run_ops ?_
    refine S_val (X_move (v := .slice _ _ _) rfl) ?_
    refine S_val (X_len Try.underlying151 rfl) ?_
    refine S_val (X_move (v := .int _ _) rfl) ?_
    refine S_nil ?_
    refine run_block ?_   -- block 2
    refine run_loopI (σ := Nat × Value) [8, 10, 19, 20, 21, 22, 23, 24, 25, 26, 27, 28, 29, 30, 31, 32, 33] (fun s => [(19, .int .i64 (s.1 : Int)), (8, s.2)]) (fun s w' => Ext w1 w' ∧ w'.ownsRow w1.heap.size 153 2 s.2 s.1 (((L[i].take s.1).map (shS k)).flatMap enS) ∧ s.1 ≤ L[i].length) (fun s => L[i].length - s.1) (0, .slice none 0 0) ⟨xt, ⟨by simp, .inl ⟨rfl, rfl⟩⟩, by simp⟩ ⟨rfl, rfl, trivial⟩ ?_   -- LOOP 2
    rintro ⟨s, v⟩ w3 ψ3 ⟨hJ1, hJ2, hJ3⟩ ih2
    dsimp only at hJ1 hJ2 hJ3
    obtain ⟨A3, c3, rfl, _⟩ := own_shape hJ2
    have hJ1s := hJ1.size
    refine run_seq ?_
    refine run_ops ?_
    refine S_val (X_lss rfl rfl) ?_
    refine S_nil ?_
    refine run_seq ?_
    refine run_if rfl (fun hc4 => ?_) (fun hc4 => ?_)   -- t20
    · 
      have h4 : s < L[i].length := by simpa using hc4
      refine run_skip ?_
      refine run_seq ?_
      refine run_block ?_   -- block 3
      refine run_seq ?_
      refine run_ops ?_
      refine S_val (X_indexR hia Try.underlying151 Try.sizeOf153 rfl rfl (by omega) (by omega) (by first | rfl | omega)) ?_
      refine S_val (X_loadAgg (vs := enS _) Try.isAgg153 Try.sizeOf153 rfl (fun q u hu => Ext.cell hJ1 (rda_cells hia h4 q u hu))) ?_
      refine S_alloc Try.zeroValue153 rfl fun b5 w5 hb5 x5 hs5 k5 => ?_
      refine sta0 (vs := [.int _ _, .int _ _]) rfl rfl Try.sizeOf153 fun w6 m6 hs6 k6 => ?_
      refine S_nil ?_
      refine run_ops ?_
      refine S_val (X_move (v := .slice _ _ _) rfl) ?_
      refine S_val (X_fieldAddr 0 Try.underlying153 rfl Try.sizeOf3 rfl) ?_
      refine S_val (ld Try.isAgg3 rfl) ?_
      refine S_val (X_fieldAddr 1 Try.underlying153 rfl Try.sizeOf3 rfl) ?_
      refine S_val (ld Try.isAgg3 rfl) ?_
      refine S_val (X_move (v := .int _ _) rfl) ?_
      refine S_val (X_add rfl rfl (wr64 (hk _ (List.getElem_mem h2) _ (List.getElem_mem h4)))) ?_
      refine S_val (X_build1 [0, 1] [.int _ _, .int _ _] [.int _ _, .int _ _] Try.zeroValue153 Try.underlying153 pl153 rfl rfl rfl rfl) ?_
      refine S_build (rs := [.int .i64 0, .int .i64 0]) [.int _ _, .int _ _] Try.underlying151 Try.sizeOf153 Try.zeroValue153 rfl (by kernel_rfl) rfl fun b7 w7 hb7 x7 hs7 k7 => ?_
      refine S_app Try.underlying151 lay153 rfl (by decide) (own_step hJ2 (w' := w7) (xt (a := w3)) (fun _ _ hf => hf)) rfl rfl k7 rfl rfl (by simp [maxLen]; omega) (by omega) (by omega) fun A8 c8 w8 g8 => ?_
      have x8 : Ext w1 w8 := g8.ext xt (Nat.le_refl _)
      refine S_val (X_assign (v := .slice _ _ _) rfl) ?_
      refine S_nil ?_
      refine run_inBlock ?_
      refine run_ops ?_
      refine S_val (X_add rfl rfl (wr64 (by omega))) ?_
      refine S_val (X_move (v := .int _ _) rfl) ?_
      refine S_nil ?_
      exact ih2 (s + 1, .slice A8 (s + 1) c8) _ _ ⟨x8, (by rw [List.take_succ_eq_append_getElem h4, List.map_append, List.flatMap_append]; exact g8.own), by simp only; omega⟩ ⟨rfl, rfl, trivial⟩ (by simp only; omega) (by repeat (first | exact agree_mixW _ _ _ | (apply agree_putS rfl) | (apply agree_upd rfl) | (apply agree_mixIn rfl)))
    · 
      have h4 : ¬ s < L[i].length := by simpa using hc4
      obtain rfl : s = L[i].length := by omega
      have hok : ∀ x ∈ L[i].map (shS k), okS x := fun x hx => by
        obtain ⟨y, hy, rfl⟩ := List.mem_map.1 hx
        obtain ⟨q, hq, rfl⟩ := List.mem_iff_getElem.1 hy
        exact ⟨(hia.flat (List.getElem?_eq_getElem hq)).2.1.1, hk _ (List.getElem_mem h2) _ hy⟩
      have hJr := hJ2
      rw [List.take_length, show L[i].length = (L[i].map (shS k)).length by simp] at hJr
      have hRr := rd_of_own (enc := enS) (sz := 2) (fun _ => rfl) (by decide) hJr hok
      rw [List.length_map] at hRr
      refine run_exit rfl ?_   -- block 2
      refine run_ops ?_
      refine S_val (X_move (v := .slice _ _ _) rfl) ?_
      refine S_val (X_move (v := .slice _ _ _) rfl) ?_
      refine S_build (rs := [.slice none 0 0]) [.slice _ _ _] Try.underlying52 Try.sizeOf151 Try.zeroValue151 rfl (by kernel_rfl) rfl fun b9 w9 hb9 x9 hs9 k9 => ?_
      refine S_app Try.underlying52 lay151 rfl (by decide) (own_step hI2.own (w' := w9) (xt (a := w1)) (fun _ _ hf => hf)) rfl rfl k9 rfl rfl (by simp [maxLen]; omega) (by omega) (by omega) fun A10 c10 w10 g10 => ?_
      have x10 : Ext w w10 := g10.ext xt (Nat.le_refl _)
      have hO10 := Out.push1 (l := L[i].map (shS k)) (by decide) (hI2.ext (w' := w9) xt) g10 (Rd.ext (flat_carries _ _) x9 hRr) (fun _ q hq e => by have h5 := (hJ2.lt q e).1; have h6 := (hI2.own.lt q hq).2; omega)
      refine S_val (X_assign (v := .slice _ _ _) rfl) ?_
      refine S_nil ?_
      refine run_inBlock ?_
      refine run_ops ?_
      refine S_val (X_add rfl rfl (wr64 (by omega))) ?_
      refine S_val (X_move (v := .int _ _) rfl) ?_
      refine S_nil ?_
      refine ih1 (i + 1, .slice A10 (hs.length + 1) c10, hs ++ [.slice A3 L[i].length c3]) _ _ ⟨x10, ?_, ?_, by simp only; omega⟩ ⟨rfl, rfl, trivial⟩ (by simp only; omega) (by repeat (first | exact agree_mixW _ _ _ | (apply agree_putS rfl) | (apply agree_upd rfl) | (apply agree_mixIn rfl)))
      · rw [later_succ _ _ _ h2]; exact hO10
      · intro y hy b hb
        rcases List.mem_append.1 hy with hy | hy
        · exact hI3 y hy b hb
        · obtain rfl := List.mem_singleton.1 hy
          have := (hJ2.lt b hb).1
          omega
  · 
    have h2 : ¬ i < L.length := by simpa using hc2
    refine run_exit rfl ?_   -- block 0
    refine run_seq ?_
    refine run_ops ?_
    refine S_val (X_move (v := .slice _ _ _) rfl) ?_
    refine S_val (X_assign (v := .slice _ _ _) rfl) ?_
    refine S_nil ?_
    refine run_ret Try.func33 (res1 (v := .slice _ _ _) Try.results33 rfl) ?_
    refine ⟨_, hs, rfl, xt, ?_, hI3⟩
    rw [List.take_of_length_le (by omega)] at hI2
    exact hI2
end Go.Proofs.Ytfhilbhmkifepaa
