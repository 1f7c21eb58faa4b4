/- rounds: a row of the call's own is sorted; the shelf's contract of slices.SortFunc laid at this program; no condition. -/
import Derived.Test.YtfhilbhmkifepaaR2
import Derived.Test.YtfhilbhmkifepaaShel
namespace Go.Proofs.Ytfhilbhmkifepaa
open Go.Shelf Go.RowKit Go.Lib Go.Sort
theorem flatK_eq {α : Type} [Inhabited α] {enc : α → List Value} {k : Nat} (hk : ∀ x, (enc x).length = k) (h0 : 0 < k) (d : Array α) : flatK enc k d = (d.toList.flatMap enc).toArray := by
  have hlen := flat_len hk d.toList
  apply Array.ext
  · simp [hlen]
  · intro t h1 h2
    simp only [size_flatK] at h1
    have hq : t / k < d.size := Nat.div_lt_of_lt_mul (by rw [Nat.mul_comm]; exact h1)
    have hm : t % k < k := Nat.mod_lt _ h0
    have h3 := get_flatK enc k d t h1
    have h4 : (flatK enc k d)[t]! = (flatK enc k d)[t] := getElem!_pos (flatK enc k d) t (by simpa using h1)
    have h5 : (d.toList.flatMap enc)[t / k * k + t % k]? = some (enc d[t / k])[t % k]! := by
      refine flat_get hk d.toList (t / k) (t % k) d[t / k] _ (by simp [hq]) ?_
      rw [List.getElem!_eq_getElem?_getD, List.getElem?_eq_getElem (by rw [hk]; exact hm)]
      rfl
    have h6 : t / k * k + t % k = t := by rw [Nat.mul_comm]; exact Nat.div_add_mod t k
    rw [h6] at h5
    rw [← h4, h3]
    have h7 : d[t / k]! = d[t / k] := getElem!_pos d (t / k) hq
    rw [h7]
    have := (List.getElem?_eq_some_iff.1 h5).2
    simp [this]
theorem ext_grow {w w' : World} (h : Ext w w') : ∃ q os, w' = grow (w.drewN q) os := by
  refine ⟨w'.drawn - w.drawn, w'.heap.extract w.heap.size w'.heap.size, ?_⟩
  have hh : w'.heap = w.heap ++ w'.heap.extract w.heap.size w'.heap.size := by
    apply Array.ext_getElem?
    intro i
    by_cases hi : i < w.heap.size
    · rw [Array.getElem?_append_left hi, h.block i hi (fun hf => hf)]
    · rw [Array.getElem?_append_right (by omega), Array.getElem?_extract]
      split
      · congr 1; omega
      · rw [Array.getElem?_eq_none (by have := h.size; omega)]
  have hd := h.drawn
  obtain ⟨h1, h2, h3, _, _, _⟩ := h
  cases w; cases w'
  simp only [grow, World.drewN] at *
  subst h1 h2 h3
  simp only [World.mk.injEq, true_and]
  exact ⟨hh, by omega, trivial⟩
theorem sortWorld_step {α : Type} [Inhabited α] {enc : α → List Value} {k : Nat} {w : World} {g m : Nat} {d : Array α} {os : Array Obj} : Step (fun i => i = g) w (sortWorldK enc k w g 0 m d os) := by
  refine ⟨rfl, rfl, rfl, Nat.le_add_right _ _, ?_, ?_⟩
  · simp [sortWorldK, putRowK, putRow, mapBlock, grow, Sort.ahead]
  · intro i hi hn
    simp only [sortWorldK, putRowK, putRow, mapBlock, grow, Sort.ahead]
    rw [Array.getElem?_append_left (by simpa using hi), Array.getElem?_modify, if_neg (fun h => hn h.symm)]
theorem sortWorld_own {α : Type} [Inhabited α] {enc : α → List Value} {k : Nat} (hk : ∀ x, (enc x).length = k) (h0 : 0 < k) {w : World} {lo e g n c m : Nat} {l l' : List α} {os : Array Obj} (h : w.ownsRow lo e k (.slice (some ⟨g, 0, none⟩) n c) n (l.flatMap enc)) (hl : l'.length = n) :
    (sortWorldK enc k w g 0 m l'.toArray os).ownsRow lo e k (.slice (some ⟨g, 0, none⟩) n c) n (l'.flatMap enc) := by
  have hf := flat_len hk l'
  refine ⟨by rw [hf, hl], ?_⟩
  rcases h.2 with ⟨h1, _⟩ | ⟨g', c', cur, hv, hb, hh, h1, h2, h3, h4⟩
  · cases h1
  · cases hv
    refine .inr ⟨g, c, putCells id 0 (flatK enc k l'.toArray) cur, rfl, hb, ?_, h1, h2, by simpa [putCells] using h3, ?_⟩
    · have hg := (Array.getElem?_eq_some_iff.1 hh).1
      simp only [sortWorldK, putRowK, putRow, mapBlock, grow, Sort.ahead]
      rw [Array.getElem?_append_left (by simpa using hg), Array.getElem?_modify, if_pos rfl, hh]
      rfl
    · rw [flatK_eq hk h0]
      have hle : n * k ≤ cur.size := by rw [h3]; exact Nat.mul_le_mul_right _ h1
      apply List.ext_getElem?
      intro i
      by_cases hi : i < n * k
      · rw [List.getElem?_take_of_lt hi]
        have hi' : i < (l'.flatMap enc).length := by rw [hf, hl]; exact hi
        generalize l'.flatMap enc = F at hi'
        simp [putCells, show i < cur.size by omega, hi']
      · rw [List.getElem?_eq_none (by simp [putCells]; omega), List.getElem?_eq_none (by rw [hf, hl]; omega)]
theorem holds_own {α : Type} [Inhabited α] {enc : α → List Value} {k : Nat} (hk : ∀ x, (enc x).length = k) (h0 : 0 < k) {w : World} {lo e g n c : Nat} {l : List α} (h : w.ownsRow lo e k (.slice (some ⟨g, 0, none⟩) n c) n (l.flatMap enc)) : HoldsK enc k w g 0 l.toArray := by
  intro j hj
  rw [flatK_eq hk h0] at hj ⊢
  simp only [List.size_toArray] at hj
  obtain ⟨g', c', hv, hc⟩ := own_cell h (i := j) (u := (l.flatMap enc)[j]) (by simp)
  cases hv
  refine ⟨by
    rw [Nat.zero_add, hc]
    generalize l.flatMap enc = F at hj
    simp [hj], ?_⟩
  rcases h.2 with ⟨h1, _⟩ | ⟨g', c', cur, hv, hb, hh, h1, h2, h3, h4⟩
  · cases h1
  · cases hv
    simp [World.frozen?, hh]
def sortS (l : List (Int × Int)) : List (Int × Int) := l.mergeSort fun x y => !(ltOf cmpS) y x
theorem cmpS_lt (x y : Int × Int) : ltOf cmpS x y = true ↔ x.2 < y.2 ∨ (x.2 = y.2 ∧ x.1 < y.1) := by
  by_cases a1 : x.2 < y.2
  · simp [ltOf, cmpS, orI, cmpI, a1]
  by_cases a2 : y.2 < x.2
  · simp [ltOf, cmpS, orI, cmpI, a1, a2]; omega
  have a3 : x.2 = y.2 := by omega
  by_cases b1 : x.1 < y.1
  · simp [ltOf, cmpS, orI, cmpI, a3, b1]
  by_cases b2 : y.1 < x.1
  · simp [ltOf, cmpS, orI, cmpI, a3, b1, b2]
  · simp [ltOf, cmpS, orI, cmpI, a3, b1, b2]
theorem cmpS_nlt (x y : Int × Int) : ltOf cmpS x y = false ↔ ¬ (x.2 < y.2 ∨ (x.2 = y.2 ∧ x.1 < y.1)) := by
  rw [← cmpS_lt]; simp
theorem cmpS_swo : SWO (ltOf cmpS) where
  irrefl x := by rw [cmpS_nlt]; omega
  trans x y z h1 h2 := by rw [cmpS_lt] at *; omega
  ntrans x y z h1 h2 := by rw [cmpS_nlt] at *; omega
theorem c232 (v : Value) (l : List (Int × Int)) (lo : Nat) (w : World) (ho : w.ownsRow lo 153 2 v l.length (l.flatMap enS)) (hl : l.length < 4611686018427387904) :
    Calls Try.prog 232 #[v, .func (.func 167) #[] #[]] w fun e w' => e = .returned (.tuple #[]) ∧ Step (fun k => v.ownBlock = some k) w w' ∧ w'.ownsRow lo 153 2 v l.length ((sortS l).flatMap enS) := by
  have hsl : (sortS l).length = l.length := List.length_mergeSort _
  rcases ho.2 with ⟨rfl, h0⟩ | ⟨g, c, cur, rfl, _, hh, _⟩
  · have hl0 : l = [] := List.length_eq_zero_iff.1 h0
    subst hl0
    refine Calls.mono (AnyF.slices_SortFunc_none Try.sortSlot none 0 (.func (.func 167) #[] #[]) w) ?_
    rintro e w' ⟨he, hw⟩
    subst hw
    exact ⟨he, Step.refl _ _, by simpa [sortS] using ho⟩
  · have hg := (Array.getElem?_eq_some_iff.1 hh).1
    have := AnyQ.slices_SortFunc_total Try.sortSlot 2 Try.isAgg153 Try.sizeOf153 enS (fun _ => rfl) (fun x v hv => by simp [enS] at hv; rcases hv with rfl | rfl <;> rfl) cmpS cmpS_swo 167 #[] g 0 c l.toArray w Try.call167
      (fun m os dk _ x y => (c167 x y _).mono fun e w' ⟨h1, h2⟩ => ⟨h1, ext_grow h2⟩) (holds_own (k := 2) (fun _ => rfl) (by decide) ho) hg (by simpa using hl) (fun x y h1 h2 => by rw [cmpS_nlt] at h1 h2; exact Prod.ext (by omega) (by omega))
    refine Calls.mono this ?_
    rintro e w' ⟨he, n, os, rfl⟩
    exact ⟨he, sortWorld_step.mono (fun k _ hk => by subst hk; rfl), sortWorld_own (enc := enS) (fun _ => rfl) (by decide) ho hsl⟩
end Go.Proofs.Ytfhilbhmkifepaa
