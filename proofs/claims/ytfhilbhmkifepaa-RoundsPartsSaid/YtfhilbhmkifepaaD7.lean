/- Rounds told as lists: any number of rounds is the first part, the kernel so many times, and the last part; no condition. -/
import Derived.Test.YtfhilbhmkifepaaD3
namespace Go.Proofs.Ytfhilbhmkifepaa
theorem fm_congr {α β : Type} {f g : α → List β} : ∀ {l : List α}, (∀ a ∈ l, f a = g a) → l.flatMap f = l.flatMap g
  | [], _ => rfl
  | a :: l, h => by rw [List.flatMap_cons, List.flatMap_cons, h a (by simp), fm_congr (fun b hb => h b (by simp [hb]))]
def shS (k : Int) (x : Int × Int) : Int × Int := (x.1, x.2 + k)
def laterL (L : List (List (Int × Int))) (k : Int) : List (List (Int × Int)) := L.map fun l => l.map (shS k)
def rowR2 (m r : Nat) : List (Int × Int) := (List.range m).map fun (i : Nat) => ((i : Int), (r : Int))
theorem range_add (a b : Nat) : List.range (a + b) = List.range a ++ (List.range b).map (a + ·) := by
  induction b with
  | zero => simp
  | succ b ih => rw [← Nat.add_assoc, List.range_succ, ih, List.range_succ, List.map_append, List.append_assoc]; rfl
theorem P2_add (m a b : Nat) : P2 m (a + b) = P2 m a ++ (P2 m b).map (shS a) := by
  unfold P2
  rw [range_add, List.flatMap_append]
  congr 1
  rw [List.flatMap_map, List.map_flatMap]
  refine fm_congr fun r _ => ?_
  rw [List.map_map]
  refine List.map_congr_left fun i _ => ?_
  simp only [Function.comp_apply, shS, Int.natCast_add]
  rw [Int.add_comm]
theorem filt_none {p : Int × Int → Bool} {l : List (Int × Int)} (h : ∀ x ∈ l, p x = false) : l.filter p = [] := by
  rw [List.filter_eq_nil_iff]
  intro x hx
  rw [h x hx]; simp
theorem pos_sh (every : Int) (cyc : List Int) (k : Int) (x : Int × Int) : posF every cyc (shS k x) = posF every cyc x + k * every := by
  simp only [posF, shS, Int.add_mul]; omega
theorem filt_shift {every : Int} {cyc : List Int} {S N k : Nat} (he : 1 ≤ every) (hk : k + S ≤ N) (hc : ∀ x ∈ cyc, 0 ≤ x ∧ x < (S : Int) * every) (c : Int) (h1 : k = 0 ∨ ((k : Int) + S - 1) * every ≤ c) (h2 : k + S = N ∨ c < ((k : Int) + S) * every) :
    (P2 cyc.length N).filter (fun x => decide (posF every cyc x = c)) = ((P2 cyc.length S).filter fun x => decide (posF every cyc x = c - k * every)).map (shS k) := by
  have hcy : ∀ x ∈ P2 cyc.length N, 0 ≤ cyc.getD x.1.toNat 0 ∧ cyc.getD x.1.toNat 0 < (S : Int) * every := fun x hx => by
    have := (mem_P2.1 hx).1
    have hlt : x.1.toNat < cyc.length := by omega
    simp only [List.getD_eq_getElem?_getD, List.getElem?_eq_getElem hlt, Option.getD_some]
    exact hc _ (List.getElem_mem hlt)
  obtain ⟨q, rfl⟩ := Nat.exists_eq_add_of_le hk
  rw [P2_add, P2_add] at hcy
  rw [P2_add, P2_add, List.filter_append, List.filter_append]
  have hA : (P2 cyc.length k).filter (fun x => decide (posF every cyc x = c)) = [] := filt_none fun x hx => by
    have hm := (mem_P2.1 hx).2
    have h3 := hcy x (by simp [hx])
    rcases h1 with rfl | h1
    · omega
    · have h4 : (x.2 + 1) * every ≤ (k : Int) * every := Int.mul_le_mul_of_nonneg_right (by omega) (by omega)
      have h5 : ((k : Int) + S - 1) * every = (k : Int) * every + (S : Int) * every - every := by rw [Int.sub_mul, Int.add_mul, Int.one_mul]
      have h6 : (x.2 + 1) * every = x.2 * every + every := by rw [Int.add_mul, Int.one_mul]
      have h7 : ¬ x.2 * every + cyc.getD x.1.toNat 0 = c := by omega
      simp only [posF, h7, decide_false]
  have hB : ((P2 cyc.length q).map (shS ((k + S : Nat) : Int))).filter (fun x => decide (posF every cyc x = c)) = [] := filt_none fun x hx => by
    obtain ⟨y, hy, rfl⟩ := List.mem_map.1 hx
    have hm := (mem_P2.1 hy).2
    have h3 := hcy (shS ((k + S : Nat) : Int) y) (by simp only [List.mem_append]; exact .inr hx)
    rcases h2 with h2 | h2
    · have : q = 0 := by omega
      subst this
      omega
    · rw [pos_sh]
      simp only [shS] at h3
      have h4 : 0 ≤ y.2 * every := Int.mul_nonneg hm.1 (by omega)
      have h5 : ((k + S : Nat) : Int) * every = ((k : Int) + S) * every := by rw [Int.natCast_add]
      have h6 := Int.mul_nonneg (a := (S : Int)) (b := every) (by omega) (by omega)
      have h7 : ¬ (y.2 * every + cyc.getD y.1.toNat 0 + ((k + S : Nat) : Int) * every) = c := by omega
      simp only [posF, h7, decide_false]
  rw [hA, hB, List.nil_append, List.append_nil, List.filter_map]
  congr 1
  refine List.filter_congr fun x _ => ?_
  simp only [Function.comp_apply, pos_sh]
  congr 1
  apply propext
  constructor <;> intro h <;> omega
theorem range_mul {α : Type} (K e : Nat) (G : Nat → α) : (List.range (K * e)).map G = (List.range K).flatMap fun k => (List.range e).map fun x => G (k * e + x) := by
  induction K with
  | zero => simp
  | succ K ih =>
    rw [Nat.succ_mul, range_add, List.map_append, ih, List.range_succ, List.flatMap_append, List.map_map]
    simp [Function.comp_def]
theorem take_range (a b : Nat) (F : Nat → List (Int × Int)) : ((List.range (a + b)).map F).take a = (List.range a).map F := by
  rw [range_add, List.map_append, List.take_append_of_le_length (by simp), List.take_of_length_le (by simp)]
theorem drop_range (a b : Nat) (F : Nat → List (Int × Int)) : ((List.range (a + b)).map F).drop a = (List.range b).map fun x => F (a + x) := by
  rw [range_add, List.map_append, List.drop_append_of_le_length (by simp), List.drop_of_length_le (by simp), List.nil_append, List.map_map]; rfl
/-- The parts told as lists. -/
theorem parts_join {every : Int} {cyc : List Int} {S N : Nat} (he : 1 ≤ every) (hS : 1 ≤ S) (hN : S ≤ N) (hc : ∀ x ∈ cyc, 0 ≤ x ∧ x < (S : Int) * every) :
    let L := rowsL every cyc S S
    let a := (S - 1) * every.toNat
    rowsL every cyc S N = L.take a ++ (List.range (N - S + 1)).flatMap (fun (k : Nat) => laterL ((L.drop a).take every.toNat) (k : Int)) ++ laterL (L.drop (a + every.toNat)) ((N - S : Nat) : Int) := by
  intro L a
  obtain ⟨e, rfl⟩ : ∃ e : Nat, every = (e : Int) := ⟨every.toNat, by omega⟩
  simp only [Int.toNat_natCast] at a ⊢
  obtain ⟨s, rfl⟩ : ∃ s, S = s + 1 := ⟨S - 1, by omega⟩
  have ha : a = s * e := rfl
  have hLen : ∀ n : Nat, 1 ≤ n → (rowsN (e : Int) ((s + 1 : Nat) : Int) (n : Int)).toNat = (n + s) * e := fun n hn => by
    unfold rowsN
    have : ((n : Int) - 1 + ((s + 1 : Nat) : Int)) * (e : Int) = (((n + s) * e : Nat) : Int) := by
      rw [Int.natCast_mul]; congr 1; omega
    rw [this, Int.toNat_natCast]
  have hF : ∀ n : Nat, 1 ≤ n → rowsL (e : Int) cyc ((s + 1 : Nat) : Int) (n : Int) = (List.range ((n + s) * e)).map fun (c : Nat) => (P2 cyc.length n).filter fun x => decide (posF (e : Int) cyc x = (c : Int)) := fun n hn => by
    unfold rowsL
    rw [if_neg (by omega), hLen n hn]; rfl
  have e0 : 0 < e := by omega
  let F := fun (c : Nat) => (P2 cyc.length N).filter fun x => decide (posF (e : Int) cyc x = (c : Int))
  let G := fun (c : Nat) => (P2 cyc.length (s + 1)).filter fun x => decide (posF (e : Int) cyc x = (c : Int))
  have hL : L = (List.range (s * e + (e + s * e))).map G := by
    show rowsL (e : Int) cyc ((s + 1 : Nat) : Int) ((s + 1 : Nat) : Int) = _
    rw [hF (s + 1) (by omega)]
    have : (s + 1 + s) * e = s * e + (e + s * e) := by rw [Nat.add_mul, Nat.add_mul]; omega
    rw [this]
  obtain ⟨K, rfl⟩ : ∃ K, N = K + (s + 1) := ⟨N - (s + 1), by omega⟩
  have hNK : K + (s + 1) - (s + 1) = K := by omega
  have hW : rowsL (e : Int) cyc ((s + 1 : Nat) : Int) ((K + (s + 1) : Nat) : Int) = (List.range (s * e + ((K + 1) * e + s * e))).map F := by
    rw [hF _ (by omega)]
    have : (K + (s + 1) + s) * e = s * e + ((K + 1) * e + s * e) := by simp only [Nat.add_mul]; omega
    rw [this]
  have hsh := fun (k : Nat) (c : Int) h0 h1 h2 => filt_shift (every := (e : Int)) (cyc := cyc) (S := s + 1) (N := K + (s + 1)) (k := k) he h0 hc c h1 h2
  have hcast : ∀ a b : Nat, ((a * b : Nat) : Int) = (a : Int) * (b : Int) := fun a b => Int.natCast_mul a b
  rw [hNK, hW, hL, ha, take_range, drop_range, range_add (s * e), List.map_append, range_add ((K + 1) * e), List.map_append, List.map_append, List.append_assoc]
  congr 1
  · refine List.map_congr_left fun c hc' => ?_
    rw [List.mem_range] at hc'
    show F c = G c
    have := hsh 0 (c : Int) (by omega) (.inl rfl) (.inr (by
      have h1 : s * e ≤ (s + 1) * e := Nat.mul_le_mul_right _ (by omega)
      have h2 : ((c : Nat) : Int) < (((s + 1) * e : Nat) : Int) := by omega
      rw [hcast] at h2
      simpa using h2))
    simp only [F, G]
    rw [this]
    have hid : shS (0 : Int) = id := by funext x; simp [shS]
    simp [hid]
  congr 1
  · rw [List.map_map, range_mul]
    refine fm_congr fun k hk => ?_
    rw [List.mem_range] at hk
    have : ((List.range (e + s * e)).map fun x => G (s * e + x)).take e = (List.range e).map fun x => G (s * e + x) := take_range e (s * e) _
    rw [this, laterL, List.map_map]
    refine List.map_congr_left fun x hx => ?_
    rw [List.mem_range] at hx
    have hcc : ((s * e + (k * e + x) : Nat) : Int) - (k : Int) * (e : Int) = ((s * e + x : Nat) : Int) := by
      have := hcast k e; omega
    have := hsh k ((s * e + (k * e + x) : Nat) : Int) (by omega) (.inr (by
        have h1 : ((k : Int) + ((s + 1 : Nat) : Int) - 1) * (e : Int) = (((k + s) * e : Nat) : Int) := by rw [hcast]; congr 1; omega
        rw [h1]
        have : (k + s) * e = k * e + s * e := Nat.add_mul ..
        omega)) (.inr (by
        have h1 : ((k : Int) + ((s + 1 : Nat) : Int)) * (e : Int) = (((k + s + 1) * e : Nat) : Int) := by rw [hcast]; congr 1
        rw [h1]
        have : (k + s + 1) * e = k * e + s * e + e := by simp only [Nat.add_mul, Nat.one_mul]
        omega))
    rw [hcc] at this
    exact this
  · have hd : ((List.range (s * e + (e + s * e))).map G).drop (s * e + e) = (List.range (s * e)).map fun x => G (s * e + e + x) := by
      rw [← Nat.add_assoc]; exact drop_range (s * e + e) (s * e) _
    rw [hd, laterL, List.map_map, List.map_map, List.map_map]
    refine List.map_congr_left fun x hx => ?_
    rw [List.mem_range] at hx
    have hcc : ((s * e + ((K + 1) * e + x) : Nat) : Int) - (K : Int) * (e : Int) = ((s * e + e + x : Nat) : Int) := by
      have := hcast K e
      have h2 : (K + 1) * e = K * e + e := by rw [Nat.add_mul, Nat.one_mul]
      omega
    have := hsh K ((s * e + ((K + 1) * e + x) : Nat) : Int) (by omega) (.inr (by
        have h1 : ((K : Int) + ((s + 1 : Nat) : Int) - 1) * (e : Int) = (((K + s) * e : Nat) : Int) := by rw [hcast]; congr 1; omega
        rw [h1]
        have : (K + s) * e = K * e + s * e := Nat.add_mul ..
        have h2 : (K + 1) * e = K * e + e := by rw [Nat.add_mul, Nat.one_mul]
        omega)) (.inl rfl)
    rw [hcc] at this
    exact this
end Go.Proofs.Ytfhilbhmkifepaa
