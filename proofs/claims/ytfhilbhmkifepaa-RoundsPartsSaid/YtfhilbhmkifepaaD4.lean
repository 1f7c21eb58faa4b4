/- Rounds told as lists: sorted, both orders are one; no condition. -/
import Derived.Test.YtfhilbhmkifepaaS1
namespace Go.Proofs.Ytfhilbhmkifepaa
open Go.Sort
theorem mid_get {α : Type} (f : α → α) (L : List α) (s : Nat) (hs : s < L.length) : ((L.take s).map f ++ L.drop s)[s]? = some L[s] := by
  rw [List.getElem?_append_right (by simp; omega)]
  simp [Nat.min_eq_left (Nat.le_of_lt hs), hs]
theorem mid_set {α : Type} (f : α → α) (L : List α) (s : Nat) (hs : s < L.length) : ((L.take s).map f ++ L.drop s).set s (f L[s]) = (L.take (s + 1)).map f ++ L.drop (s + 1) := by
  rw [List.set_append_right _ _ (by simp; omega), List.take_succ_eq_append_getElem hs, List.map_append, List.append_assoc]
  congr 1
  simp only [List.length_map, List.length_take, Nat.min_eq_left (Nat.le_of_lt hs), Nat.sub_self]
  rw [List.drop_eq_getElem_cons hs]
  rfl
theorem P1_nodup (m n : Nat) : (P1 m n).Nodup := by
  unfold P1
  simp only [List.Nodup, List.pairwise_flatMap]
  refine ⟨fun i _ => List.Pairwise.map _ (fun a b h => ?_) (List.nodup_range (n := n)), List.Pairwise.imp (fun {a b} h => ?_) (List.nodup_range (n := m))⟩
  · simp; omega
  · intro x hx y hy
    simp at hx hy
    obtain ⟨_, _, rfl⟩ := hx
    obtain ⟨_, _, rfl⟩ := hy
    simp; omega
theorem P2_sorted (m n : Nat) : (P2 m n).Pairwise fun x y => x.2 < y.2 ∨ (x.2 = y.2 ∧ x.1 < y.1) := by
  unfold P2
  rw [List.pairwise_flatMap]
  refine ⟨fun r _ => List.Pairwise.map _ (fun a b h => ?_) (List.pairwise_lt_range (n := m)), List.Pairwise.imp (fun {a b} h => ?_) (List.pairwise_lt_range (n := n))⟩
  · simp; omega
  · intro x hx y hy
    simp at hx hy
    obtain ⟨_, _, rfl⟩ := hx
    obtain ⟨_, _, rfl⟩ := hy
    simp; omega
theorem P2_nodup (m n : Nat) : (P2 m n).Nodup := (P2_sorted m n).imp (fun {a b} h => by rintro rfl; omega)
theorem P_perm (m n : Nat) : (P1 m n).Perm (P2 m n) := (List.perm_ext_iff_of_nodup (P1_nodup m n) (P2_nodup m n)).2 fun x => by rw [mem_P1, mem_P2]
theorem sortS_eq {l l' : List (Int × Int)} (h : l.Perm l') (hs : l'.Pairwise fun x y => x.2 < y.2 ∨ (x.2 = y.2 ∧ x.1 < y.1)) : sortS l = l' := by
  have h1 : (sortS l).Pairwise fun x y => (!(ltOf cmpS) y x) = true := List.pairwise_mergeSort (fun a b c h1 h2 => by
    simp only [Bool.not_eq_true', cmpS_nlt] at *; omega) (fun a b => by
    simp only [Bool.or_eq_true, Bool.not_eq_true', cmpS_nlt]; omega) l
  refine List.Perm.eq_of_pairwise (le := fun x y => (!(ltOf cmpS) y x) = true) (fun a b _ _ h1 h2 => ?_) h1 (hs.imp fun {a b} h => ?_) ((List.mergeSort_perm _ _).trans h)
  · simp only [Bool.not_eq_true', cmpS_nlt] at h1 h2
    exact Prod.ext (by omega) (by omega)
  · simp only [Bool.not_eq_true', cmpS_nlt]; omega
theorem place_sorted (N m n : Nat) (pos : Int × Int → Int) : (place N pos (P1 m n)).map sortS = place N pos (P2 m n) := by
  simp only [place, List.map_map]
  refine List.map_congr_left fun c _ => ?_
  exact sortS_eq ((P_perm m n).filter _) ((P2_sorted m n).filter _)
end Go.Proofs.Ytfhilbhmkifepaa
