/- Slices cut; rows of rows; a call's own row reads; no condition. -/
import Derived.Test.YtfhilbhmkifepaaE7
namespace Go.Proofs.Ytfhilbhmkifepaa
open Go.RowKit

/-! ### Cutting -/
def subA (A : Option Addr) (l m s : Nat) : Option Addr := if m = l then A else A.map (·.add (l * s))
section
variable {P : Program} {ρ : Operand → Value} {w : World} {d : Option Tmp} {ty : TypeId} {pos : String} {af : Array Edge} {g : Option (Nat × Bool)}
theorem sb_h {n c : Nat} {k : IntKind} {h : Int} (h0 : 0 ≤ h) (h1 : h ≤ c) : ∀ w, (Instr.sliceBounds true n c none (some (.int k h)) none).run P w = .ok (0, h.toNat, c) w := fun w => by
  simp [Instr.sliceBounds, run_sliceBound, h0, h1]
theorem sb_hm {n c : Nat} {k j : IntKind} {h m : Int} (h0 : 0 ≤ h) (h1 : h ≤ m) (h2 : m ≤ c) : ∀ w, (Instr.sliceBounds true n c none (some (.int k h)) (some (.int j m))).run P w = .ok (0, h.toNat, m.toNat) w := fun w => by
  have e : (m.toNat : Int) = m := Int.toNat_of_nonneg (by omega)
  simp [Instr.sliceBounds, run_sliceBound, h0, h1, h2, e, show 0 ≤ m by omega]
theorem sb_lhm {n c : Nat} {i k j : IntKind} {l h m : Int} (hl : 0 ≤ l) (h0 : l ≤ h) (h1 : h ≤ m) (h2 : m ≤ c) : ∀ w, (Instr.sliceBounds true n c (some (.int i l)) (some (.int k h)) (some (.int j m))).run P w = .ok (l.toNat, h.toNat, m.toNat) w := fun w => by
  have e : (m.toNat : Int) = m := Int.toNat_of_nonneg (by omega)
  have e' : (h.toNat : Int) = h := Int.toNat_of_nonneg (by omega)
  simp [Instr.sliceBounds, run_sliceBound, h0, h1, h2, e, e', hl, show 0 ≤ m by omega, show 0 ≤ h by omega]
theorem sb_lh {n c : Nat} {i k : IntKind} {l h : Int} (hl : 0 ≤ l) (h0 : l ≤ h) (h1 : h ≤ c) : ∀ w, (Instr.sliceBounds true n c (some (.int i l)) (some (.int k h)) none).run P w = .ok (l.toNat, h.toNat, c) w := fun w => by
  have e' : (h.toNat : Int) = h := Int.toNat_of_nonneg (by omega)
  simp [Instr.sliceBounds, run_sliceBound, h0, h1, e', hl, show 0 ≤ h by omega]
theorem sb_l {n c : Nat} {i : IntKind} {l : Int} (hl : 0 ≤ l) (h0 : l ≤ n) : ∀ w, (Instr.sliceBounds true n c (some (.int i l)) none none).run P w = .ok (l.toNat, n, c) w := fun w => by
  simp [Instr.sliceBounds, run_sliceBound, h0, hl]
theorem X_slice {x : Operand} {lo hi mx : Option Operand} {A : Option Addr} {n c sz l h m : Nat} {vl vh vm : Option Value} {t e : TypeId} (hu : P.underlying t = some (.slice e)) (hz : ∀ w, (sizeOf e).run P w = .ok sz w) (hx : ρ x = .slice A n c) (h1 : lo.map ρ = vl) (h2 : hi.map ρ = vh) (h3 : mx.map ρ = vm)
    (hb : ∀ w, (Instr.sliceBounds true n c vl vh vm).run P w = .ok (l, h, m) w) :
    (execOp ρ ⟨d, .slice t x lo hi mx, ty, pos, af, g⟩).run P w = .ok (.value (.slice (subA A l m sz) (h - l) (m - l))) w := by
  subst h1 h2 h3
  have he : P.elem t = e := by simp [Program.elem, hu]
  simp [execOp, hx, Instr.sliceAt, run_underlying hu, Instr.slice, hb, hz, subA]
end
theorem RdA.sub {α : Type} {R : World → List Value → α → Prop} {sz : Nat} {w : World} {A : Option Addr} {L : List α} (h : RdA R sz w A L) {l hi m : Nat} (h1 : l ≤ hi) (h3 : hi ≤ m) : RdA R sz w (subA A l m sz) ((L.drop l).take (hi - l)) := by
  intro i x hx
  have hi' : i < hi - l := by
    have := (List.getElem?_eq_some_iff.1 hx).1
    simp at this; omega
  rw [List.getElem?_take_of_lt hi', List.getElem?_drop] at hx
  obtain ⟨hA, cs, hcs, hR, hc⟩ := h _ _ hx
  have hne : m ≠ l := by omega
  have e : subA A l m sz = some ⟨ablk A, aoff A + l * sz, none⟩ := by
    simp only [subA, if_neg hne]
    rw [hA]
    simp only [Option.map_some, ablk, aoff]
    rw [Addr.add_lit]
  rw [e]
  refine ⟨rfl, cs, hcs, hR, fun j u hu => ?_⟩
  have := hc j u hu
  show w.cell? ⟨ablk A, aoff A + l * sz + i * sz + j, none⟩ = some u
  rw [show aoff A + l * sz + i * sz + j = aoff A + (l + i) * sz + j by rw [Nat.add_mul]; omega]
  exact this

/-! ### A row of the call's own -/
theorem flat_len {α : Type} {enc : α → List Value} {sz : Nat} (hk : ∀ x, (enc x).length = sz) (l : List α) : (l.flatMap enc).length = l.length * sz := by
  induction l with
  | nil => simp
  | cons x l ih => rw [List.flatMap_cons, List.length_append, ih, hk, List.length_cons, Nat.succ_mul]; omega
theorem flat_get {α : Type} {enc : α → List Value} {sz : Nat} (hk : ∀ x, (enc x).length = sz) : ∀ (l : List α) (i j : Nat) (x : α) (u : Value), l[i]? = some x → (enc x)[j]? = some u → (l.flatMap enc)[i * sz + j]? = some u
  | [], _, _, _, _, h, _ => by simp at h
  | y :: l, 0, j, x, u, h, hu => by
    simp only [List.getElem?_cons_zero, Option.some.injEq] at h
    subst h
    rw [List.flatMap_cons, List.getElem?_append_left (by have := (List.getElem?_eq_some_iff.1 hu).1; omega)]
    simpa using hu
  | y :: l, i + 1, j, x, u, h, hu => by
    rw [List.flatMap_cons, List.getElem?_append_right (by rw [hk, Nat.succ_mul]; omega), hk, show (i + 1) * sz + j - sz = i * sz + j by rw [Nat.succ_mul]; omega]
    exact flat_get hk l i j x u (by simpa using h) hu
theorem own_cell {w : World} {base e size n : Nat} {v : Value} {xs : List Value} (h : w.ownsRow base e size v n xs) {i : Nat} {u : Value} (hu : xs[i]? = some u) : ∃ g c, v = .slice (some ⟨g, 0, none⟩) n c ∧ w.cell? ⟨g, i, none⟩ = some u := by
  obtain ⟨hl, h⟩ := h
  rcases h with ⟨_, rfl⟩ | ⟨g, c, cur, rfl, _, hb, _, _, _, ht⟩
  · have := (List.getElem?_eq_some_iff.1 hu).1
    omega
  · refine ⟨g, c, rfl, ?_⟩
    have hi := (List.getElem?_eq_some_iff.1 hu).1
    rw [← ht, List.getElem?_take_of_lt (by omega)] at hu
    simp only [World.cell?, hb]
    simpa using hu
theorem rd_of_own {α : Type} {enc : α → List Value} {ok : α → Prop} {sz : Nat} (hk : ∀ x, (enc x).length = sz) (h0 : 0 < sz) {w : World} {base e : Nat} {v : Value} {l : List α} (h : w.ownsRow base e sz v l.length (l.flatMap enc)) (hok : ∀ x ∈ l, ok x) : Rd (Flat enc ok) sz w v l := by
  obtain ⟨A, c, rfl, h1, h2, h3⟩ := own_shape h
  refine ⟨A, c, rfl, h1, h2, h3, fun i x hx => ?_⟩
  have h00 : (enc x)[0]? = some ((enc x)[0]'(by rw [hk]; exact h0)) := List.getElem?_eq_getElem _
  obtain ⟨g, c', hv, _⟩ := own_cell h (flat_get hk l i 0 x _ hx h00)
  injection hv with hA _ _
  subst hA
  refine ⟨rfl, enc x, hk x, ⟨rfl, hok x (List.mem_of_getElem? hx)⟩, fun j u hu => ?_⟩
  obtain ⟨g', c'', hv', hc'⟩ := own_cell h (flat_get hk l i j x u hx hu)
  injection hv' with hA' _ _
  injection hA' with hA'
  injection hA' with hg _ _
  subst hg
  simpa [ablk, aoff] using hc'
theorem own_step {w w' : World} {base e size n : Nat} {v : Value} {xs : List Value} {M : Nat → Prop} (h : w.ownsRow base e size v n xs) (s : Step M w w') (hm : ∀ k, v.ownBlock = some k → ¬ M k) : w'.ownsRow base e size v n xs := by
  obtain ⟨hl, h⟩ := h
  refine ⟨hl, ?_⟩
  rcases h with h | ⟨g, c, cur, rfl, hb, hh, h1, h2, h3, h4⟩
  · exact .inl h
  · exact .inr ⟨g, c, cur, rfl, hb, by rw [s.block g (Array.getElem?_eq_some_iff.1 hh).1 (hm g rfl)]; exact hh, h1, h2, h3, h4⟩

/-! ### Rows of rows -/
/-- Block B holds rows, each of the call's own, none of them shared, all of them behind lo. -/
structure RowsOf {α : Type} (enc : α → List Value) (sz e th : Nat) (w : World) (lo B : Nat) (hs : List Value) (L : List (List α)) : Prop where
  blk : Blk w B hs th
  len : hs.length = L.length
  own : ∀ (c : Nat) h l, hs[c]? = some h → L[c]? = some l → w.ownsRow lo e sz h l.length (l.flatMap enc)
  sep : ∀ (c c' : Nat) h h' k, c ≠ c' → hs[c]? = some h → hs[c']? = some h' → h.ownBlock = some k → h'.ownBlock ≠ some k
  out : ∀ (c : Nat) h, hs[c]? = some h → h.ownBlock ≠ some B
section
variable {α : Type} {enc : α → List Value} {sz e th : Nat} {w : World} {lo B : Nat} {hs : List Value} {L : List (List α)}
theorem RowsOf.ext {w' : World} (h : RowsOf enc sz e th w lo B hs L) (s : Ext w w') : RowsOf enc sz e th w' lo B hs L :=
  ⟨h.blk.ext s, h.len, fun c x l hx hl => own_step (h.own c x l hx hl) s (fun _ _ hf => hf), h.sep, h.out⟩
/-- One row turned, behind whatever was done with it, and put back. -/
theorem RowsOf.turn {W W' : World} (h : RowsOf enc sz e th w lo B hs L) {c : Nat} {x x' : Value} {l l' : List α} (hx : hs[c]? = some x) (hl : L[c]? = some l) (s : Step (fun k => x.ownBlock = some k) w W) (ho : W.ownsRow lo e sz x' l'.length (l'.flatMap enc))
    (hb : x'.ownBlock = x.ownBlock ∨ ∀ k, x'.ownBlock = some k → w.heap.size ≤ k) (m : Mod B W W') (hB : Blk W' B (hs.set c x') th) : RowsOf enc sz e th W' lo B (hs.set c x') (L.set c l') := by
  have hxs : ∀ c' h', c' ≠ c → hs[c']? = some h' → ∀ k, h'.ownBlock = some k → k < w.heap.size := fun c' h' _ hh k hk => by
    have hlt : c' < L.length := by rw [← h.len]; exact (List.getElem?_eq_some_iff.1 hh).1
    exact ((h.own c' h' _ hh (List.getElem?_eq_getElem hlt)).lt k hk).2
  have hBl : B < w.heap.size := h.blk.lt
  have hcl : c < hs.length := (List.getElem?_eq_some_iff.1 hx).1
  have hout' : x'.ownBlock ≠ some B := fun hk => by
    rcases hb with hb | hb
    · exact h.out c x hx (hb ▸ hk)
    · have := hb B hk; omega
  refine ⟨hB, by simpa using h.len, ?_, ?_, ?_⟩
  · intro c' y l2 hy hl2
    by_cases ec : c' = c
    · subst ec
      rw [List.getElem?_set_self hcl] at hy
      rw [List.getElem?_set_self (by rw [← h.len]; exact hcl)] at hl2
      cases hy; cases hl2
      exact own_step ho m (fun k hk hkB => hout' (by rw [← hkB]; exact hk))
    · rw [List.getElem?_set_ne (Ne.symm ec)] at hy hl2
      refine own_step (own_step (h.own c' y l2 hy hl2) s (fun k hk hk' => h.sep c' c y x k ec hy hx hk hk')) m (fun k hk hkB => h.out c' y hy (by rw [← hkB]; exact hk))
  · intro c1 c2 y1 y2 k hne h1 h2 hk
    by_cases e1 : c1 = c
    · subst e1
      rw [List.getElem?_set_self hcl] at h1
      rw [List.getElem?_set_ne hne] at h2
      cases h1
      rcases hb with hb | hb
      · exact h.sep c1 c2 x y2 k hne hx h2 (hb ▸ hk)
      · intro hk2
        have := hxs c2 y2 (Ne.symm hne) h2 k hk2
        have := hb k hk
        omega
    · rw [List.getElem?_set_ne (Ne.symm e1)] at h1
      by_cases e2 : c2 = c
      · subst e2
        rw [List.getElem?_set_self hcl] at h2
        cases h2
        rcases hb with hb | hb
        · rw [hb]; exact h.sep c1 c2 y1 x k hne h1 hx hk
        · intro hk2
          have := hxs c1 y1 e1 h1 k hk
          have := hb k hk2
          omega
      · rw [List.getElem?_set_ne (Ne.symm e2)] at h2
        exact h.sep c1 c2 y1 y2 k hne h1 h2 hk
  · intro c' y hy
    by_cases ec : c' = c
    · subst ec
      rw [List.getElem?_set_self hcl] at hy
      cases hy
      exact hout'
    · rw [List.getElem?_set_ne (Ne.symm ec)] at hy
      exact h.out c' y hy
/-- As rows that read. -/
def RowR (enc : α → List Value) (ok : α → Prop) (sz : Nat) : World → List Value → List α → Prop := fun w cs l => ∃ v, cs = [v] ∧ Rd (Flat enc ok) sz w v l
theorem rowR_carries {ok : α → Prop} : Carries (RowR enc ok sz) := fun _ _ _ _ s ⟨v, h1, h2⟩ => ⟨v, h1, h2.ext (flat_carries _ _) s⟩
theorem RowsOf.rdA {ok : α → Prop} (hk : ∀ x, (enc x).length = sz) (h0 : 0 < sz) (h : RowsOf enc sz e th w lo B hs L) (hok : ∀ l ∈ L, ∀ x ∈ l, ok x) : RdA (RowR enc ok sz) 1 w (some ⟨B, 0, none⟩) L := by
  intro i l hl
  have hi : i < hs.length := by rw [h.len]; exact (List.getElem?_eq_some_iff.1 hl).1
  have hx : hs[i]? = some hs[i] := List.getElem?_eq_getElem hi
  refine ⟨rfl, [hs[i]], rfl, ⟨_, rfl, rd_of_own hk h0 (h.own i _ l hx hl) (hok l (List.mem_of_getElem? hl))⟩, fun j u hu => ?_⟩
  have hj : j = 0 := by
    have := (List.getElem?_eq_some_iff.1 hu).1
    simp at this; omega
  subst hj
  simp at hu
  subst hu
  simp only [ablk, aoff]
  exact h.blk.cell (by simp)
end
theorem madeCells_one (z : Value) (n : Nat) : (madeCells #[z] n).toList = List.replicate n z := by
  apply List.ext_getElem
  · simp [madeCells]
  · intro i h1 h2
    simp [madeCells, Nat.mod_one]
theorem blk_of_own {w : World} {base e n g c : Nat} {xs : List Value} {sz : Nat} (h : w.ownsRow base e sz (.slice (some ⟨g, 0, none⟩) n c) n xs) (hc : c = n) : Blk w g xs e := by
  obtain ⟨hl, h⟩ := h
  rcases h with ⟨h, _⟩ | ⟨g', c', cur, hv, _, hh, _, _, h3, h4⟩
  · cases h
  · cases hv
    subst hc
    unfold Blk
    rw [hh, ← h4, List.take_of_length_le (by simp [h3])]
/-- A block as a row of the call's own. -/
theorem own_of_blk {w : World} {base e sz b n : Nat} {xs : List Value} (h : Blk w b xs e) (hb : base ≤ b) (hn : xs.length = n * sz) (hm : n ≤ maxLen) : w.ownsRow base e sz (.slice (some ⟨b, 0, none⟩) n n) n xs := by
  unfold Blk at h
  exact ⟨hn, .inr ⟨b, n, xs.toArray, rfl, hb, h, Nat.le_refl _, hm, by simpa using hn, by simp [List.take_of_length_le, hn]⟩⟩
/-- A block read as a slice. -/
theorem rd_of_blk {α : Type} {enc : α → List Value} {ok : α → Prop} {sz : Nat} (hk : ∀ x, (enc x).length = sz) (h0 : 0 < sz) {w : World} {b t : Nat} (l : List α) (h : Blk w b (l.flatMap enc) t) (hok : ∀ x ∈ l, ok x) (hm : l.length ≤ maxLen) : Rd (Flat enc ok) sz w (.slice (some ⟨b, 0, none⟩) l.length l.length) l :=
  rd_of_own (base := 0) hk h0 (own_of_blk h (Nat.zero_le _) (flat_len hk l) hm) hok
theorem ints_blk {w : World} {b t : Nat} (l : List Int) (h : Blk w b (l.flatMap fun x => [.int .i64 x]) t) (hok : ∀ x ∈ l, i64ok x) (hm : l.length ≤ maxLen) : Ints w (.slice (some ⟨b, 0, none⟩) l.length l.length) l :=
  rd_of_blk (enc := fun x : Int => [Value.int .i64 x]) (sz := 1) (fun _ => rfl) Nat.one_pos l h hok hm
end Go.Proofs.Ytfhilbhmkifepaa
