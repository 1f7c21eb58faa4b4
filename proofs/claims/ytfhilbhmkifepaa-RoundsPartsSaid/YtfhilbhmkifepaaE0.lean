/- A run never takes draws back; no condition. -/
import Derived.Test.YtfhilbhmkifepaaE1
namespace Go.Proofs.Ytfhilbhmkifepaa
open Go
theorem ask_drawn {α : Type} : ∀ (x : Ask α) (w : World), w.drawn ≤ (w.ask x).2.drawn
  | .done a, w => by simp [World.ask]
  | .ask what range k, w => by
    simp only [World.ask]
    split
    · exact ask_drawn _ _
    · have := ask_drawn (k ((Question.extern what range).cut (w.tape w.drawn (Question.extern what range)))) { w with drawn := w.drawn + 1 }
      simp at this ⊢; omega
theorem except_bind {ε α β : Type} {x : Except ε α} {f : α → Except ε β} {r : β} (h : (x >>= f) = .ok r) : ∃ a, x = .ok a ∧ f a = .ok r := by
  cases x with
  | error e => cases h
  | ok a => exact ⟨a, rfl, h⟩
theorem far_drawn {p : Program} {w : World} {a : Addr} {v : Value} {b : Bool} {r : World × List Addr} (h : w.farStore p a v b = .ok r) : r.1.drawn = w.drawn := by
  unfold World.farStore at h
  split at h
  · split at h
    · rename_i hv
      cases h
      unfold World.viewStore at hv
      simp only [bind, Except.bind, pure, Except.pure, throwThe, MonadExceptOf.throw, MonadExcept.throw] at hv
      repeat' (split at hv)
      all_goals first | (cases hv; done) | (cases hv; rfl) | (simp at hv; done) | (simp at hv; rw [← hv]) | skip
    · cases h
  · cases h
theorem run_drawn {α : Type} (p : Program) : ∀ (s : Sem α) (w : World) (v : α) (w' : World), s.run p w = .ok v w' → w.drawn ≤ w'.drawn := by
  intro s
  induction s with
  | pure a => intro w v w' h; simp only [Sem.run] at h; cases h; exact Nat.le_refl _
  | halt x => intro w v w' h; simp [Sem.run] at h
  | load m a k ih =>
    intro w v w' h
    simp only [Sem.run] at h
    split at h
    · exact (ih _ _ _ _ h :)
    · split at h
      · exact (ih _ _ _ _ h :)
      · cases h
  | store m a x k ih =>
    intro w v w' h
    have key : (match w.cell? a with
      | some _ => if w.frozen? a then Result.halt (.unsupported (.unsafePointer "a write to bytes that a string shares")) w else k.run p (w.setCell a x)
      | none => match w.farStore p a x (m == Mode.atomic) with
        | .ok (w, _) => k.run p w
        | .error h => .halt h w) = .ok v w' := by
      cases x <;> first | exact h | (simp [Sem.run] at h; done)
    split at key
    · split at key
      · cases key
      · exact (ih _ _ _ key :)
    · split at key
      · rename_i hf
        have := ih _ _ _ key
        have h2 := far_drawn hf
        simp at h2
        omega
      · cases key
  | new o k ih => intro w v w' h; simp only [Sem.run] at h; exact (ih _ _ _ _ h :)
  | shape o k ih => intro w v w' h; simp only [Sem.run] at h; exact (ih _ _ _ _ h :)
  | frozen o k ih => intro w v w' h; simp only [Sem.run] at h; exact (ih _ _ _ _ h :)
  | program k ih => intro w v w' h; simp only [Sem.run] at h; exact (ih _ _ _ _ h :)
  | mark m k ih => intro w v w' h; simp only [Sem.run] at h; exact (ih _ _ _ h :)
  | freeze a n k ih =>
    intro w v w' h
    simp only [Sem.run] at h
    have := ih _ _ _ h
    unfold World.freeze at this
    split at this <;> exact this
  | getObj r k ih =>
    intro w v w' h
    simp only [Sem.run] at h
    split at h
    · cases h
    · exact (ih _ _ _ _ h :)
    · cases h
  | setObj r o k ih =>
    intro w v w' h
    simp only [Sem.run] at h
    split at h
    · cases h
    · exact (ih _ _ _ h :)
    · cases h
  | choose q k ih =>
    intro w v w' h
    simp only [Sem.run] at h
    split at h
    · exact (ih _ _ _ _ h :)
    · have := ih _ _ _ _ h
      simp at this; omega
  | sys c k ih =>
    intro w v w' h
    simp only [Sem.run] at h
    have h1 := ih _ _ _ _ h
    have h2 := ask_drawn (Kernel.perform c w.os) w
    unfold World.sys at h1
    split at h1
    · exact h1
    · rename_i hq
      rw [hq] at h2
      exact Nat.le_trans h2 h1
end Go.Proofs.Ytfhilbhmkifepaa
