/- Rounds told as lists: where a slot falls; no condition. -/
import Derived.Test.YtfhilbhmkifepaaD2
namespace Go.Proofs.Ytfhilbhmkifepaa
def posF (every : Int) (cyc : List Int) (x : Int × Int) : Int := x.2 * every + cyc.getD x.1.toNat 0
def place (N : Nat) (pos : Int × Int → Int) (ps : List (Int × Int)) : List (List (Int × Int)) := (List.range N).map fun (c : Nat) => ps.filter fun x => decide (pos x = (c : Int))
theorem place_len (N : Nat) (pos : Int × Int → Int) (ps : List (Int × Int)) : (place N pos ps).length = N := by simp [place]
theorem place_get {N : Nat} {pos : Int × Int → Int} {ps : List (Int × Int)} {c : Nat} (h : c < N) : (place N pos ps)[c]? = some (ps.filter fun x => decide (pos x = (c : Int))) := by
  simp [place, h]
theorem place_nil (N : Nat) (pos : Int × Int → Int) : place N pos [] = List.replicate N [] := by
  simp [place, List.map_const']
theorem place_push {N : Nat} {pos : Int × Int → Int} {ps : List (Int × Int)} {x : Int × Int} (h0 : 0 ≤ pos x) :
    place N pos (ps ++ [x]) = (place N pos ps).set (pos x).toNat ((ps.filter fun y => decide (pos y = (((pos x).toNat : Nat) : Int))) ++ [x]) := by
  apply List.ext_getElem?
  intro c
  by_cases hc : c < N
  · rw [place_get hc, List.getElem?_set]
    by_cases e : (pos x).toNat = c
    · subst e
      rw [if_pos rfl, place_len, if_pos hc]
      have : pos x = (((pos x).toNat : Nat) : Int) := by omega
      rw [List.filter_append]
      simp only [List.filter_cons, List.filter_nil, ← this, decide_true, if_true]
    · rw [if_neg e, place_get hc]
      have : ¬ pos x = (c : Int) := by omega
      simp [List.filter_append, this]
  · rw [List.getElem?_eq_none (by rw [place_len]; omega), List.getElem?_eq_none (by rw [List.length_set, place_len]; omega)]
/-- Round by round. -/
def P2 (m n : Nat) : List (Int × Int) := (List.range n).flatMap fun (r : Nat) => (List.range m).map fun (i : Nat) => ((i : Int), (r : Int))
/-- Operation by operation. -/
def P1 (m n : Nat) : List (Int × Int) := (List.range m).flatMap fun (i : Nat) => (List.range n).map fun (r : Nat) => ((i : Int), (r : Int))
theorem range_map_succ {α : Type} (f : Nat → α) (i : Nat) : (List.range (i + 1)).map f = (List.range i).map f ++ [f i] := by simp [List.range_succ]
theorem P2_succ (m n : Nat) : P2 m (n + 1) = P2 m n ++ (List.range m).map fun (i : Nat) => ((i : Int), (n : Int)) := by simp [P2, List.range_succ]
theorem P1_succ (m n : Nat) : P1 (m + 1) n = P1 m n ++ (List.range n).map fun (r : Nat) => ((m : Int), (r : Int)) := by simp [P1, List.range_succ]
theorem mem_P2 {m n : Nat} {x : Int × Int} : x ∈ P2 m n ↔ (0 ≤ x.1 ∧ x.1 < m) ∧ 0 ≤ x.2 ∧ x.2 < n := by
  obtain ⟨a, b⟩ := x
  simp only [P2, List.mem_flatMap, List.mem_map, List.mem_range, Prod.mk.injEq]
  constructor
  · rintro ⟨r, hr, i, hi, rfl, rfl⟩; omega
  · rintro ⟨⟨h1, h2⟩, h3, h4⟩
    exact ⟨b.toNat, by omega, a.toNat, by omega, by omega, by omega⟩
theorem mem_P1 {m n : Nat} {x : Int × Int} : x ∈ P1 m n ↔ (0 ≤ x.1 ∧ x.1 < m) ∧ 0 ≤ x.2 ∧ x.2 < n := by
  obtain ⟨a, b⟩ := x
  simp only [P1, List.mem_flatMap, List.mem_map, List.mem_range, Prod.mk.injEq]
  constructor
  · rintro ⟨i, hi, r, hr, rfl, rfl⟩; omega
  · rintro ⟨⟨h1, h2⟩, h3, h4⟩
    exact ⟨a.toNat, by omega, b.toNat, by omega, by omega, by omega⟩
def rowsN (every stages n : Int) : Int := (n - 1 + stages) * every
def rowsL (every : Int) (cyc : List Int) (stages n : Int) : List (List (Int × Int)) := if n = 0 then [] else place (rowsN every stages n).toNat (posF every cyc) (P2 cyc.length n.toNat)
theorem fair_out {every stages : Int} {cyc : List Int} (h : fairB every cyc stages = true) : (1 ≤ every ∧ every ≤ 65536) ∧ cyc.length ≤ 64 ∧ (∀ x ∈ cyc, 0 ≤ x ∧ x ≤ 65536 ∧ x < stages * every) ∧ 1 ≤ stages ∧ stages ≤ 131072 := by
  simp only [fairB, Bool.and_eq_true, decide_eq_true_eq] at h
  obtain ⟨⟨⟨h1, h2⟩, h3⟩, h4⟩ := h
  have he := wi_mem h1 every (by simp)
  have hm := fold_max_bound cyc 0 65536 (by decide) (fun x hx => (wi_mem h3 x hx).2)
  have h0 := fold_max_ge cyc 0
  have hmx : ∀ (l : List Int) (a : Int), ∀ x ∈ l, x ≤ l.foldl max a := by
    intro l
    induction l with
    | nil => intro a x hx; cases hx
    | cons y l ih =>
      intro a x hx
      rcases List.mem_cons.1 hx with rfl | hx
      · exact Int.le_trans (by omega) (fold_max_ge l (max a x))
      · exact ih _ x hx
  rw [Int.tdiv_eq_ediv_of_nonneg (by omega)] at h4
  have h5 : cyc.foldl max 0 < stages * every := by
    rw [h4]
    have := Int.lt_ediv_add_one_mul_self (cyc.foldl max 0 + every) (b := every) (by omega)
    rw [Int.add_mul] at this
    omega
  refine ⟨he, h2, fun x hx => ⟨(wi_mem h3 x hx).1, (wi_mem h3 x hx).2, Int.lt_of_le_of_lt (hmx cyc 0 x hx) h5⟩, ?_, ?_⟩
  · rw [h4, Int.add_ediv_of_dvd_right (Int.dvd_refl every), Int.ediv_self (by omega)]
    have := Int.ediv_nonneg h0 (show 0 ≤ every by omega)
    omega
  · rw [h4]
    have := Int.ediv_le_self every (show 0 ≤ cyc.foldl max 0 + every by omega)
    omega
theorem rows_bound {every stages n : Int} (he : 1 ≤ every) (hs : 1 ≤ stages) (hn : 1 ≤ n) (hb : n * every + every * stages ≤ 65536) : 0 ≤ (n - 1 + stages) * every ∧ (n - 1 + stages) * every ≤ 65536 := by
  refine ⟨Int.mul_nonneg (by omega) (by omega), ?_⟩
  rw [Int.add_mul, Int.sub_mul, Int.mul_comm stages every]
  omega
theorem pos_bound {every stages n : Int} {cyc : List Int} (h : fairB every cyc stages = true) {i r : Nat} (hi : i < cyc.length) (hr : (r : Int) < n) : 0 ≤ (r : Int) * every ∧ 0 ≤ (r : Int) * every + cyc[i] ∧ (r : Int) * every + cyc[i] < (n - 1 + stages) * every := by
  obtain ⟨he, _, hc, _, _⟩ := fair_out h
  have h1 := hc _ (List.getElem_mem hi)
  have h2 : 0 ≤ (r : Int) * every := Int.mul_nonneg (by omega) (by omega)
  have h3 : (r : Int) * every ≤ (n - 1) * every := Int.mul_le_mul_of_nonneg_right (by omega) (by omega)
  rw [Int.add_mul]
  omega
theorem posF_at {every : Int} {cyc : List Int} {i r : Nat} (hi : i < cyc.length) : posF every cyc ((i : Int), (r : Int)) = (r : Int) * every + cyc[i] := by
  simp [posF, hi, List.getD_eq_getElem?_getD]
theorem P2_len (m n : Nat) : (P2 m n).length = n * m := by
  induction n with
  | zero => simp [P2]
  | succ n ih => rw [P2_succ, List.length_append, ih]; simp [Nat.succ_mul]
theorem P1_len (m n : Nat) : (P1 m n).length = m * n := by
  induction m with
  | zero => simp [P1]
  | succ n ih => rw [P1_succ, List.length_append, ih]; simp [Nat.succ_mul]
abbrev Slots2 := Rd (RowR enS okS 2) 1
theorem place_ok {N m n : Nat} {pos : Int × Int → Int} {ps : List (Int × Int)} (hp : ∀ x ∈ ps, (0 ≤ x.1 ∧ x.1 < (m : Int)) ∧ 0 ≤ x.2 ∧ x.2 < (n : Int)) (hm : m ≤ 64) (hn : n ≤ 65536) : ∀ l ∈ place N pos ps, ∀ x ∈ l, okS x := by
  intro l hl x hx
  obtain ⟨c, _, rfl⟩ := List.mem_map.1 hl
  have := hp x (List.mem_filter.1 hx).1
  exact ⟨⟨by omega, by omega⟩, by omega, by omega⟩
end Go.Proofs.Ytfhilbhmkifepaa
