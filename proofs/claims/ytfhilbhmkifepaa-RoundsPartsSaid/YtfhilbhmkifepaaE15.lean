/- Rows of rows that a call grows: a row of slices, each of which reads; no condition. -/
import Derived.Test.YtfhilbhmkifepaaE9
import Derived.Test.YtfhilbhmkifepaaE12
namespace Go.Proofs.Ytfhilbhmkifepaa
open Go.RowKit
section
variable {α : Type} {enc : α → List Value} {ok : α → Prop} {sz e lo : Nat} {w : World}
theorem Rd.step {M : Nat → Prop} {w' : World} {x : Value} {l : List α} (s : Step M w w') (hm : l ≠ [] → ∀ k, x.ownBlock = some k → ¬ M k) (h : Rd (Flat enc ok) sz w x l) : Rd (Flat enc ok) sz w' x l := by
  obtain ⟨A, c, rfl, h1, h2, h3, h4⟩ := h
  refine ⟨A, c, rfl, h1, h2, h3, fun i y hy => ?_⟩
  obtain ⟨h5, cs, h6, h7, h8⟩ := h4 i y hy
  refine ⟨h5, cs, h6, h7, fun j u hu => ?_⟩
  exact s.cell (h8 j u hu) (hm (by rintro rfl; simp at hy) _ (by rw [h5]; rfl))
theorem Rd.below {x : Value} {l : List α} (h0 : 0 < sz) (h : Rd (Flat enc ok) sz w x l) (hne : l ≠ []) : ∃ k, x.ownBlock = some k ∧ k < w.heap.size := by
  obtain ⟨A, c, rfl, h1, h2, h3, h4⟩ := h
  obtain ⟨y, l', rfl⟩ := List.exists_cons_of_ne_nil hne
  obtain ⟨h5, cs, h6, h7, h8⟩ := h4 0 y rfl
  have h9 := h8 0 _ (List.getElem?_eq_getElem (by omega))
  exact ⟨ablk A, by rw [h5]; rfl, World.block_lt_of_cell? w _ h9⟩
/-- A row v of slices hs, which read as L; their cells lie elsewhere than the row. -/
structure Out (enc : α → List Value) (ok : α → Prop) (sz e : Nat) (w : World) (lo : Nat) (v : Value) (hs : List Value) (L : List (List α)) : Prop where
  own : w.ownsRow lo e 1 v hs.length hs
  len : hs.length = L.length
  rd : ∀ (i : Nat) x l, hs[i]? = some x → L[i]? = some l → Rd (Flat enc ok) sz w x l
  sep : ∀ (i : Nat) x l, hs[i]? = some x → L[i]? = some l → l ≠ [] → ∀ g, v.ownBlock = some g → x.ownBlock ≠ some g
theorem out_nil : Out enc ok sz e w lo (.slice none 0 0) [] ([] : List (List α)) := ⟨⟨by simp, .inl ⟨rfl, rfl⟩⟩, rfl, by simp, by simp⟩
theorem Out.step {M : Nat → Prop} {w' : World} {v : Value} {hs : List Value} {L : List (List α)} (s : Step M w w') (h : Out enc ok sz e w lo v hs L) (hv : ∀ k, v.ownBlock = some k → ¬ M k) (hr : ∀ x ∈ hs, ∀ k, x.ownBlock = some k → ¬ M k) : Out enc ok sz e w' lo v hs L :=
  ⟨own_step h.own s hv, h.len, fun i x l hx hl => (h.rd i x l hx hl).step s (fun _ => hr x (List.mem_of_getElem? hx)), h.sep⟩
theorem Out.ext {w' : World} {v : Value} {hs : List Value} {L : List (List α)} (s : Ext w w') (h : Out enc ok sz e w lo v hs L) : Out enc ok sz e w' lo v hs L := h.step s (fun _ _ hf => hf) (fun _ _ _ _ hf => hf)
theorem Out.push {W : World} {v : Value} {hs xs : List Value} {L L' : List (List α)} {A : Option Addr} {c m : Nat} (h0 : 0 < sz) (h : Out enc ok sz e w lo v hs L) (hm : m = (hs ++ xs).length) (g : Grew w lo e 1 m v (hs ++ xs) A c W) (hl : xs.length = L'.length)
    (hx : ∀ (i : Nat) x l, xs[i]? = some x → L'[i]? = some l → Rd (Flat enc ok) sz w x l ∧ (l ≠ [] → ∀ g, v.ownBlock = some g → x.ownBlock ≠ some g)) : Out enc ok sz e W lo (.slice A m c) (hs ++ xs) (L ++ L') := by
  have key : ∀ (i : Nat) x l, (hs ++ xs)[i]? = some x → (L ++ L')[i]? = some l → Rd (Flat enc ok) sz w x l ∧ (l ≠ [] → ∀ g, v.ownBlock = some g → x.ownBlock ≠ some g) := fun i x l h1 h2 => by
    by_cases hi : i < hs.length
    · rw [List.getElem?_append_left hi] at h1
      rw [List.getElem?_append_left (by rw [← h.len]; exact hi)] at h2
      exact ⟨h.rd i x l h1 h2, h.sep i x l h1 h2⟩
    · rw [List.getElem?_append_right (by omega)] at h1
      rw [List.getElem?_append_right (by rw [← h.len]; omega), ← h.len] at h2
      exact hx _ x l h1 h2
  refine ⟨by subst hm; exact g.own, by simp [h.len, hl], fun i x l h1 h2 => ?_, fun i x l h1 h2 hne b hb => ?_⟩
  · obtain ⟨h3, h4⟩ := key i x l h1 h2
    exact h3.step g.step (fun hne k hk hv => h4 hne k hv hk)
  · obtain ⟨h3, h4⟩ := key i x l h1 h2
    rcases g.row with hr | hr
    · exact h4 hne b (hr ▸ hb)
    · obtain ⟨k, hk, hlt⟩ := h3.below h0 hne
      rw [hr] at hb
      rw [hk]
      simp only [ne_eq, Option.some.injEq] at hb ⊢
      omega
theorem Out.rdR {v : Value} {hs : List Value} {L : List (List α)} (h : Out enc ok sz e w lo v hs L) : Rd (RowR enc ok sz) 1 w v L := by
  obtain ⟨A, c, rfl, h1, h2, h3⟩ := own_shape h.own
  refine ⟨A, c, by rw [h.len], by rw [← h.len]; exact h1, h2, h3, fun i l hl => ?_⟩
  have hi : i < hs.length := by rw [h.len]; exact (List.getElem?_eq_some_iff.1 hl).1
  have hx : hs[i]? = some hs[i] := List.getElem?_eq_getElem hi
  obtain ⟨g, c', hv, hc⟩ := own_cell h.own hx
  injection hv with hA _ _
  subst hA
  refine ⟨rfl, [hs[i]], rfl, ⟨_, rfl, h.rd i _ l hx hl⟩, fun j u hu => ?_⟩
  cases j with
  | zero =>
    simp at hu
    subst hu
    simpa [ablk, aoff] using hc
  | succ j => simp at hu
/-- A slice's header. -/
abbrev Hd := Option Addr × Nat × Nat
def hv (h : Hd) : Value := .slice h.1 h.2.1 h.2.2
abbrev Hds := RdA (Flat (fun h : Hd => [hv h]) (fun _ => True)) 1
theorem hds_one : ∀ x : Hd, ∀ u ∈ [hv x], u.oneCell' = true := fun x u hu => by simp at hu; subst hu; rfl
theorem hds_flat (hs : List Hd) : (hs.flatMap fun h => [hv h]) = hs.map hv := by
  induction hs with
  | nil => rfl
  | cons a l ih => rw [List.flatMap_cons, ih]; rfl
theorem rows_hds {v : Value} {L : List (List α)} (h : Rd (RowR enc ok sz) 1 w v L) : ∃ A c hs, v = .slice A L.length c ∧ L.length ≤ c ∧ c ≤ maxLen ∧ (A = none → c = 0) ∧ hs.length = L.length ∧ Hds w A hs ∧ ∀ (i : Nat) x l, (hs.map hv)[i]? = some x → L[i]? = some l → Rd (Flat enc ok) sz w x l := by
  obtain ⟨A, c, rfl, h1, h2, h3, h4⟩ := h
  obtain ⟨hs, hl, hq⟩ := list_of (Q := fun i (x : Hd) => ∃ l, L[i]? = some l ∧ Rd (Flat enc ok) sz w (hv x) l ∧ A = some ⟨ablk A, aoff A, none⟩ ∧ w.cell? ⟨ablk A, aoff A + i * 1, none⟩ = some (hv x)) L.length (fun i hi => by
    have hx : L[i]? = some L[i] := List.getElem?_eq_getElem hi
    obtain ⟨h5, cs, h6, ⟨x, rfl, h7⟩, h8⟩ := h4 i _ hx
    obtain ⟨B, c', rfl, _⟩ := id h7
    exact ⟨(B, _, c'), L[i], hx, h7, h5, h8 0 _ rfl⟩)
  refine ⟨A, c, hs, rfl, h1, h2, h3, hl, fun i x hx => ?_, fun i x l hx hl' => ?_⟩
  · obtain ⟨l, _, _, h5, h6⟩ := hq i x hx
    refine ⟨h5, [hv x], rfl, ⟨rfl, trivial⟩, fun j u hu => ?_⟩
    cases j with
    | zero => simp at hu; subst hu; exact h6
    | succ j => simp at hu
  · rw [List.getElem?_map] at hx
    obtain ⟨y, hy, rfl⟩ := Option.map_eq_some_iff.1 hx
    obtain ⟨l', h5, h6, _⟩ := hq i y hy
    rw [h5] at hl'
    cases hl'
    exact h6
theorem Out.push1 {W : World} {v x : Value} {hs : List Value} {L : List (List α)} {l : List α} {A : Option Addr} {c : Nat} (h0 : 0 < sz) (h : Out enc ok sz e w lo v hs L) (g : Grew w lo e 1 (hs.length + 1) v (hs ++ [x]) A c W)
    (hx : Rd (Flat enc ok) sz w x l) (hsep : l ≠ [] → ∀ g, v.ownBlock = some g → x.ownBlock ≠ some g) : Out enc ok sz e W lo (.slice A (hs.length + 1) c) (hs ++ [x]) (L ++ [l]) :=
  h.push h0 (by simp) g rfl fun i x' l' h1 h2 => by
    cases i with
    | zero => simp at h1 h2; subst h1 h2; exact ⟨hx, hsep⟩
    | succ i => simp at h1
theorem Out.hds {v : Value} {hs : List Value} {L : List (List α)} (h : Out enc ok sz e w lo v hs L) : ∃ A c hd, v = .slice A hs.length c ∧ hs = hd.map hv ∧ hs.length ≤ c ∧ (A = none → c = 0) ∧ hd.length = hs.length ∧ Hds w A hd := by
  obtain ⟨A, c, rfl, h1, h2, h3⟩ := own_shape h.own
  obtain ⟨hd, hl, hq⟩ := list_of (Q := fun i (x : Hd) => hs[i]? = some (hv x) ∧ A = some ⟨ablk A, aoff A, none⟩ ∧ w.cell? ⟨ablk A, aoff A + i * 1, none⟩ = some (hv x)) hs.length (fun i hi => by
    have hx : hs[i]? = some hs[i] := List.getElem?_eq_getElem hi
    obtain ⟨B, c', hv', _⟩ := h.rd i _ _ hx (List.getElem?_eq_getElem (by rw [← h.len]; exact hi))
    obtain ⟨g, c2, he, hc⟩ := own_cell h.own hx
    injection he with hA _ _
    subst hA
    exact ⟨(B, _, c'), by rw [hx, hv']; rfl, rfl, by rw [hv'] at hc; simpa [ablk, aoff, hv] using hc⟩)
  refine ⟨A, c, hd, rfl, ?_, h1, h3, hl, fun i x hx => ?_⟩
  · apply List.ext_getElem?
    intro i
    rw [List.getElem?_map]
    by_cases hi : i < hs.length
    · have hx : hd[i]? = some hd[i] := List.getElem?_eq_getElem (by omega)
      rw [hx, (hq i _ hx).1]; rfl
    · rw [List.getElem?_eq_none (by omega), List.getElem?_eq_none (by omega)]; rfl
  · obtain ⟨_, h5, h6⟩ := hq i x hx
    refine ⟨h5, [hv x], rfl, ⟨rfl, trivial⟩, fun j u hu => ?_⟩
    cases j with
    | zero => simp at hu; subst hu; exact h6
    | succ j => simp at hu
end
end Go.Proofs.Ytfhilbhmkifepaa
