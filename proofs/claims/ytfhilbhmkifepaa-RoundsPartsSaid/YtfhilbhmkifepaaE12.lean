/- Arguments opened: what they read as, and that they read so behind whatever only made memory; no condition. -/
import Derived.Test.YtfhilbhmkifepaaE8
import Derived.WalkKit
import Derived.ProofKit
namespace Go.Proofs.Ytfhilbhmkifepaa
open Go.ChangeShapes Go.WideShapes Go.ChangeAt Go.RowKit
/-- What is trod as a t reads by R, and is trod so behind whatever only made memory. -/
def Opens {α : Type} (P : Program) (R : World → List Value → α → Prop) (t : TypeId) : Prop :=
  ∀ (H : Type) (enc : TypeId × Value → H) (n : Nat) (cs : List Value) (W : World) (x : DataW H × List MemPlace), DataW.trod enc P W 0 (fun _ => true) true n t cs = some x →
    (∃ a, R W cs a) ∧ ∀ W' sp, Ext W W' → (∀ p ∈ x.2, sp p.block = true) → DataW.trod enc P W' 0 sp true n t cs = some x
theorem opens_int {P : Program} {t : TypeId} {k : IntKind} (hu : P.underlying t = some (.int k)) : Opens P (fun _ cs (z : Int) => cs = [.int k z] ∧ (Lit.int k z).wf = true) t := by
  intro H enc n cs W x h
  cases n with
  | zero => simp [DataW.trod] at h
  | succ n =>
    unfold DataW.trod at h
    rw [hu] at h
    split at h <;> simp_all
    rename_i k' n' hk
    intro W' sp _ _
    unfold DataW.trod
    rw [hu]
    simp_all
theorem ext_same {W W' : World} (s : Ext W W') {b o : Nat} {v : Value} (h : W.cell? ⟨b, o, none⟩ = some v) : W.sameAt W' (.cell b o) := by
  show W'.cell? _ = W.cell? _
  rw [s.cell h, h]
theorem ext_cells {W W' : World} (s : Ext W W') {a : Addr} {n : Nat} {cs : List Value} (h : W.cells? 0 a n = some cs) : W'.cells? 0 a n = some cs := by
  unfold World.cells? at h ⊢
  rw [if_pos (Nat.zero_le _)] at h ⊢
  refine mapM_carry h fun i v _ _ hv => ?_
  exact s.cell hv
theorem list_of {β : Type} {Q : Nat → β → Prop} : ∀ (n : Nat), (∀ i, i < n → ∃ a, Q i a) → ∃ l : List β, l.length = n ∧ ∀ i a, l[i]? = some a → Q i a
  | 0, _ => ⟨[], rfl, fun i a h => by simp at h⟩
  | n + 1, h => by
    obtain ⟨l, hl, hq⟩ := list_of n (fun i hi => h i (by omega))
    obtain ⟨a, ha⟩ := h n (by omega)
    refine ⟨l ++ [a], by simp [hl], fun i b hb => ?_⟩
    by_cases hi : i < n
    · rw [List.getElem?_append_left (by omega)] at hb
      exact hq i b hb
    · rw [List.getElem?_append_right (by omega)] at hb
      have : i - l.length = 0 := by
        have := (List.getElem?_eq_some_iff.1 hb).1
        simp at this; omega
      rw [this] at hb
      simp at hb
      subst hb
      rwa [show i = n by omega]
theorem opens_slice {α : Type} {P : Program} {R : World → List Value → α → Prop} {t e sz : Nat} (hu : P.underlying t = some (.slice e)) (he : P.cellsOf e = sz) (h0 : 0 < sz) (hO : Opens P R e) : Opens P (fun W cs (l : List α) => ∃ v, cs = [v] ∧ Rd R sz W v l) t := by
  intro H enc n cs W x h
  subst he
  have h' := h
  rcases DataW.trod_slice hu h with ⟨rfl, rfl⟩ | ⟨a, len, cap, elems, rest, m, rfl, rfl, rfl, hb, hl, hm, hlen, hel, hsp, _⟩
  · refine ⟨⟨[], _, rfl, rd_nil⟩, fun W' sp _ _ => ?_⟩
    cases n with
    | zero => simp [DataW.trod] at h
    | succ n => unfold DataW.trod; rw [hu]; rfl
  · obtain ⟨hrl, hre⟩ := hsp rfl
    have each : ∀ i, i < len → ∃ y c1, elems[i]? = some y ∧ W.cells? 0 (a.add (i * P.cellsOf e)) (P.cellsOf e) = some c1 ∧ DataW.trod enc P W 0 (fun _ => true) true m e c1 = some y := fun i hi => by
      have h1 := hel i hi
      rw [List.getElem?_eq_getElem (by omega)] at h1
      obtain ⟨c1, h2, h3⟩ := Option.bind_eq_some_iff.1 h1
      exact ⟨_, c1, List.getElem?_eq_getElem (by omega), h2, h3⟩
    have spot : 0 < len → a = ⟨a.block, a.off, none⟩ := fun hp => by
      obtain ⟨y, c1, _, h2, _⟩ := each 0 hp
      have h3 := (World.cells?_some h2).2.2 0 h0
      have h4 := (World.cells?_some h2).2.1
      rw [List.getElem?_eq_getElem (by omega)] at h3
      simp only [Nat.zero_mul, Addr.add, if_true] at h3
      unfold World.cell? at h3
      split at h3
      · split at h3
        · cases h3
        · rename_i hs
          cases a
          simp at hs
          simp [hs]
      · cases h3
    obtain ⟨l, hll, hq⟩ := list_of (Q := fun i x => ∃ cs, cs.length = P.cellsOf e ∧ R W cs x ∧ ∀ j u, cs[j]? = some u → W.cell? ⟨a.block, a.off + i * P.cellsOf e + j, none⟩ = some u) len (fun i hi => by
      obtain ⟨y, c1, _, h2, h3⟩ := each i hi
      obtain ⟨⟨x, hx⟩, _⟩ := hO H enc m c1 W y h3
      obtain ⟨_, h4, h5⟩ := World.cells?_some h2
      refine ⟨x, c1, h4, hx, fun j u hu => ?_⟩
      have hj := (List.getElem?_eq_some_iff.1 hu).1
      have h6 := h5 j (by omega)
      rw [hu, spot (by omega), Addr.add_lit, Addr.add_lit] at h6
      exact h6)
    refine ⟨⟨l, _, rfl, some a, cap, by rw [hll], by omega, hm, (fun hn => by cases hn), fun i x hx => ?_⟩, fun W' sp s hs => ?_⟩
    · have hi : i < len := by rw [← hll]; exact (List.getElem?_eq_some_iff.1 hx).1
      exact ⟨congrArg some (spot (by omega)), hq i x hx⟩
    · unfold DataW.trod at h' ⊢
      rw [hu] at h' ⊢
      dsimp only at h' ⊢
      have hc : 0 ≤ a.block ∧ len ≤ cap ∧ cap ≤ maxLen := ⟨Nat.zero_le _, hl, hm⟩
      rw [if_pos hc] at h' ⊢
      obtain ⟨el, he1, h2⟩ := Option.bind_eq_some_iff.1 h'
      obtain ⟨re, hr1, hx⟩ := Option.map_eq_some_iff.1 h2
      rw [← hx] at hs ⊢
      have keep : ∀ (k : Nat) (y : DataW H × List MemPlace), y ∈ el ++ re → (W.cells? 0 (a.add (k * P.cellsOf e)) (P.cellsOf e)).bind (DataW.trod enc P W 0 (fun _ => true) true m e) = some y →
          (W'.cells? 0 (a.add (k * P.cellsOf e)) (P.cellsOf e)).bind (DataW.trod enc P W' 0 sp true m e) = some y := fun k y hy hk => by
        obtain ⟨c1, h2, h3⟩ := Option.bind_eq_some_iff.1 hk
        refine Option.bind_eq_some_iff.2 ⟨c1, ext_cells s h2, (hO H enc m c1 W y h3).2 W' sp s (fun p hp => hs p ?_)⟩
        simp only [List.mem_append, List.mem_flatMap]
        exact .inr ⟨y, by simpa using hy, hp⟩
      refine Option.bind_eq_some_iff.2 ⟨el, mapM_carry he1 (fun i y _ hy hv => keep i y (by simp [hy]) hv), Option.map_eq_some_iff.2 ⟨re, ?_, rfl⟩⟩
      simp only [if_true] at hr1
      cases hsp' : sp a.block with
      | true => simp only [if_true]; exact mapM_carry hr1 (fun i y _ hy hv => keep _ y (by simp [hy]) hv)
      | false =>
        have hrl' : re.length = cap - len := by simpa using mapM_some_length hr1
        have hel' : el.length = len := by simpa using mapM_some_length he1
        have h00 : (el.length + re.length) * P.cellsOf e = 0 := by
          rcases Nat.eq_zero_or_pos ((el.length + re.length) * P.cellsOf e) with hz | hp
          · exact hz
          · have := hs (.cell a.block (a.off + 0)) (by
              simp only [List.mem_append]
              exact .inl (MemPlace.mem_row.2 ⟨0, hp, rfl⟩))
            simp only [MemPlace.block] at this
            rw [hsp'] at this; cases this
        have : re = [] := by
          have := (Nat.mul_eq_zero.1 h00).resolve_right (by omega)
          exact List.length_eq_zero_iff.1 (by omega)
        subst this
        simp
end Go.Proofs.Ytfhilbhmkifepaa
