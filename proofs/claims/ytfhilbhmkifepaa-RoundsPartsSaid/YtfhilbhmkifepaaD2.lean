/- Plain laws of lists used by the walks; rounds told as lists. -/
import Derived.Test.YtfhilbhmkifepaaE9
namespace Go.Proofs.Ytfhilbhmkifepaa
theorem all_succ {α : Type} {p : α → Bool} {l : List α} {s : Nat} (h : s < l.length) : (l.take (s + 1)).all p = ((l.take s).all p && p l[s]) := by
  rw [List.take_succ_eq_append_getElem h, List.all_append]; simp only [List.all_cons, List.all_nil, Bool.and_true]
theorem all_no {α : Type} {p : α → Bool} {l : List α} {s : Nat} (h : s < l.length) (hp : p l[s] = false) : l.all p = false :=
  List.all_eq_false.2 ⟨l[s], List.getElem_mem h, by simp [hp]⟩
theorem all_done {α : Type} {p : α → Bool} {l : List α} {s : Nat} (h : (l.take s).all p = true) (hs : l.length ≤ s) : l.all p = true := by
  rwa [List.take_of_length_le hs] at h
theorem foldl_succ {α β : Type} {f : β → α → β} {a : β} {l : List α} {s : Nat} (h : s < l.length) : (l.take (s + 1)).foldl f a = f ((l.take s).foldl f a) l[s] := by
  rw [List.take_succ_eq_append_getElem h, List.foldl_append]; rfl
theorem foldl_done {α β : Type} {f : β → α → β} {a : β} {l : List α} {s : Nat} (hs : l.length ≤ s) : (l.take s).foldl f a = l.foldl f a := by
  rw [List.take_of_length_le hs]
def wi (lo hi : Int) (l : List Int) : Bool := l.all fun n => !(decide (n < lo) || decide (hi < n))
def cmpI (x y : Int) : Int := if x < y then -1 else if y < x then 1 else 0
def orI : List Int → Int
  | [] => 0
  | x :: l => if x ≠ 0 then x else orI l
def cmpS (a b : Int × Int) : Int := orI [cmpI a.2 b.2, cmpI a.1 b.1]
def enS (x : Int × Int) : List Value := [.int .i64 x.1, .int .i64 x.2]
def okS (x : Int × Int) : Prop := i64ok x.1 ∧ i64ok x.2
theorem cmpI_ok (x y : Int) : i64ok (cmpI x y) := by unfold cmpI i64ok; split <;> (try split) <;> omega
theorem drop_at {l : List Int} {s : Nat} (h : s < l.length) : l.drop s = l[s] :: l.drop (s + 1) := List.drop_eq_getElem_cons h
def fairB (every : Int) (cyc : List Int) (stages : Int) : Bool := wi 1 65536 [every] && decide (cyc.length ≤ 64) && wi 0 65536 cyc && decide (stages = (cyc.foldl max 0 + every).tdiv every)
theorem fold_max_bound (l : List Int) (a hi : Int) (ha : a ≤ hi) (h : ∀ x ∈ l, x ≤ hi) : l.foldl max a ≤ hi := by
  induction l generalizing a with
  | nil => exact ha
  | cons x l ih => exact ih _ (by have := h x (by simp); omega) (fun y hy => h y (by simp [hy]))
theorem fold_max_ge (l : List Int) (a : Int) : a ≤ l.foldl max a := by
  induction l generalizing a with
  | nil => exact Int.le_refl _
  | cons x l ih => exact Int.le_trans (by omega) (ih _)
theorem wi_mem {lo hi : Int} {l : List Int} (h : wi lo hi l = true) : ∀ x ∈ l, lo ≤ x ∧ x ≤ hi := fun x hx => by
  have := List.all_eq_true.1 h x hx
  simp at this; omega
theorem tdiv_bound {a b : Int} (ha : 0 ≤ a) (hb : 1 ≤ b) : 0 ≤ a.tdiv b ∧ a.tdiv b ≤ a := by
  rw [Int.tdiv_eq_ediv_of_nonneg ha]
  exact ⟨Int.ediv_nonneg ha (by omega), Int.ediv_le_self _ ha⟩
end Go.Proofs.Ytfhilbhmkifepaa
