/- Rows grown and made, as steps of a walk; no condition. -/
import Derived.Test.YtfhilbhmkifepaaE8
namespace Go.Proofs.Ytfhilbhmkifepaa
open Go.RowKit
section
variable {P : Program} {n : Nat} {φ : Fr} {ds : List Deferred} {w : World} {ops : Array Oper} {Q : Exit → Act → World → Prop} {rest : List Oper} {d : Option Tmp} {ty : TypeId} {pos : String} {af : Array Edge} {S : World → Prop} {L : List Oper} {l' : List PE} {i : Nat}
/-- What an append leaves. -/
structure Grew (w : World) (base e size m : Nat) (v : Value) (cs : List Value) (A : Option Addr) (c : Nat) (W : World) : Prop where
  own : W.ownsRow base e size (.slice A m c) m cs
  step : Step (fun i => v.ownBlock = some i) w W
  row : (Value.slice A m c).ownBlock = v.ownBlock ∨ (Value.slice A m c).ownBlock = some w.heap.size
  low : ∀ i, v.ownBlock = some i → base ≤ i
theorem Grew.ext {a w W : World} {base e size m : Nat} {v : Value} {cs : List Value} {A : Option Addr} {c : Nat} (g : Grew w base e size m v cs A c W) (h : Ext a w) (hb : a.heap.size ≤ base) : Ext a W :=
  Step.tail h g.step (fun i hi => Nat.le_trans hb (g.low i hi))
theorem ints_own {w : World} {base e n : Nat} {v : Value} {cs : List Value} (l : List Int) (h : w.ownsRow base e 1 v n cs) (hn : n = l.length) (hcs : cs = l.flatMap fun x => [.int .i64 x]) (hok : ∀ x ∈ l, i64ok x) : Ints w v l := by
  subst hn hcs
  exact rd_of_own (enc := fun x : Int => [Value.int .i64 x]) (sz := 1) (fun _ => rfl) Nat.one_pos h hok
theorem S_appR {α : Type} {enc : α → List Value} {ok : α → Prop} {l : List α} {A0 : Option Addr} {t e size bytes : Nat} {z v : Value} {x y : Operand} {base m c' : Nat} {xs : List Value} (hR : RdA (Flat enc ok) size w A0 l) (hA : A0 = none → c' = 0) (hk : ∀ x, (enc x).length = size) (hu : P.underlying t = some (.slice e)) (hl : Lay P e size bytes z) (hzs : z.cells.size = size) (hsz : 0 < size) (hown : w.ownsRow base e size v m xs)
    (hx : ev n φ x = v) (hy : ev n φ y = .slice A0 l.length c') (hcap : l.length ≤ c') (h1 : ∀ x, ∀ u ∈ enc x, u.oneCell' = true) (h63 : m + l.length ≤ maxLen) (hb : (m + l.length) * bytes ≤ 140737488355328) (hbase : base ≤ w.heap.size)
    (h : ∀ A c W, Grew w base e size (m + l.length) v (xs ++ l.flatMap enc) A c W → SeqL P ops Q rest (mk n (putF φ d (.slice A (m + l.length) c)) ds) W) :
    SeqL P ops Q (⟨d, .call { callee := .builtin .append, args := #[x, y], argTypes := #[t, t] }, ty, pos, af, none⟩ :: rest) (mk n φ ds) w := by
  obtain ⟨A, c, W, hr, h2, h3, h4⟩ := X_appendR (P := P) (ρ := ev n φ) (d := d) (ty := ty) (pos := pos) (af := af) (g := none) hR hA hk hu hl hzs hsz hown hx hy hcap h1 h63 hb hbase
  exact S_val hr (h A c W ⟨h2, h3, h4, fun i hi => (hown.lt i hi).1⟩)
theorem E_appR {α : Type} {enc : α → List Value} {ok : α → Prop} {l : List α} {A0 : Option Addr} {t e size bytes : Nat} {z v : Value} {x y : Operand} {base m c' : Nat} {xs : List Value} (ho : L[i]? = some ⟨d, .call { callee := .builtin .append, args := #[x, y], argTypes := #[t, t] }, ty, pos, af, none⟩) (hR : RdA (Flat enc ok) size w A0 l) (hA : A0 = none → c' = 0) (hk : ∀ x, (enc x).length = size) (hu : P.underlying t = some (.slice e)) (hl : Lay P e size bytes z) (hzs : z.cells.size = size) (hsz : 0 < size) (hown : w.ownsRow base e size v m xs)
    (hx : ev n φ x = v) (hy : ev n φ y = .slice A0 l.length c') (hcap : l.length ≤ c') (h1 : ∀ x, ∀ u ∈ enc x, u.oneCell' = true) (h63 : m + l.length ≤ maxLen) (hb : (m + l.length) * bytes ≤ 140737488355328) (hbase : base ≤ w.heap.size)
    (h : ∀ A c W, Grew w base e size (m + l.length) v (xs ++ l.flatMap enc) A c W → S W ∧ wpPlan P L.toArray Q S l' (mk n (putF φ d (.slice A (m + l.length) c)) ds) W) :
    wpPlan P L.toArray Q S (.eff i :: l') (mk n φ ds) w := by
  obtain ⟨A, c, W, hr, h2, h3, h4⟩ := X_appendR (P := P) (ρ := ev n φ) (d := d) (ty := ty) (pos := pos) (af := af) (g := none) hR hA hk hu hl hzs hsz hown hx hy hcap h1 h63 hb hbase
  obtain ⟨h5, h6⟩ := h A c W ⟨h2, h3, h4, fun i hi => (hown.lt i hi).1⟩
  exact E_val ho hr h5 h6
theorem app_cells {b o : Nat} {cells news : List Value} {t : TypeId} (hb : Blk w b cells t) (hn : (cells.drop o).take news.length = news) : ∀ j u, news[j]? = some u → w.cell? ⟨b, o + j, none⟩ = some u := cells_blk hb hn
/-- Behind a row of the call's own: a block just written out. -/
theorem S_app {t e size bytes : Nat} {z v : Value} {x y : Operand} {base m k b : Nat} {xs news : List Value} {bt : TypeId} (hu : P.underlying t = some (.slice e)) (hl : Lay P e size bytes z) (hzs : z.cells.size = size) (hsz : 0 < size) (hown : w.ownsRow base e size v m xs)
    (hx : ev n φ x = v) (hy : ev n φ y = .slice (some ⟨b, 0, none⟩) k k) (hB : Blk w b news bt) (hn : news.length = k * size) (h1 : news.all Value.oneCell' = true) (h63 : m + k ≤ maxLen) (hb : (m + k) * bytes ≤ 140737488355328) (hbase : base ≤ w.heap.size)
    (h : ∀ A c W, Grew w base e size (m + k) v (xs ++ news) A c W → SeqL P ops Q rest (mk n (putF φ d (.slice A (m + k) c)) ds) W) :
    SeqL P ops Q (⟨d, .call { callee := .builtin .append, args := #[x, y], argTypes := #[t, t] }, ty, pos, af, none⟩ :: rest) (mk n φ ds) w := by
  obtain ⟨A, c, W, hr, h2, h3, h4⟩ := X_append (P := P) (ρ := ev n φ) (d := d) (ty := ty) (pos := pos) (af := af) (g := none) hu hl hzs hsz hown hx hy hn (app_cells hB (by simp)) (List.all_eq_true.1 h1) h63 hb hbase
  exact S_val hr (h A c W ⟨h2, h3, h4, fun i hi => (hown.lt i hi).1⟩)
theorem E_app {t e size bytes : Nat} {z v : Value} {x y : Operand} {base m k b : Nat} {xs news : List Value} {bt : TypeId} (ho : L[i]? = some ⟨d, .call { callee := .builtin .append, args := #[x, y], argTypes := #[t, t] }, ty, pos, af, none⟩) (hu : P.underlying t = some (.slice e)) (hl : Lay P e size bytes z) (hzs : z.cells.size = size) (hsz : 0 < size) (hown : w.ownsRow base e size v m xs)
    (hx : ev n φ x = v) (hy : ev n φ y = .slice (some ⟨b, 0, none⟩) k k) (hB : Blk w b news bt) (hn : news.length = k * size) (h1 : news.all Value.oneCell' = true) (h63 : m + k ≤ maxLen) (hb : (m + k) * bytes ≤ 140737488355328) (hbase : base ≤ w.heap.size)
    (h : ∀ A c W, Grew w base e size (m + k) v (xs ++ news) A c W → S W ∧ wpPlan P L.toArray Q S l' (mk n (putF φ d (.slice A (m + k) c)) ds) W) :
    wpPlan P L.toArray Q S (.eff i :: l') (mk n φ ds) w := by
  obtain ⟨A, c, W, hr, h2, h3, h4⟩ := X_append (P := P) (ρ := ev n φ) (d := d) (ty := ty) (pos := pos) (af := af) (g := none) hu hl hzs hsz hown hx hy hn (app_cells hB (by simp)) (List.all_eq_true.1 h1) h63 hb hbase
  obtain ⟨h5, h6⟩ := h A c W ⟨h2, h3, h4, fun i hi => (hown.lt i hi).1⟩
  exact E_val ho hr h5 h6
/-- A row made, of one cell an element. -/
theorem S_make {t e bytes : Nat} {z : Value} {x y : Operand} {kl kc : IntKind} {a j : Int} (hu : P.underlying t = some (.slice e)) (hl : Lay P e 1 bytes z) (hz : z.cells = #[z]) (hx : ev n φ x = .int kl a) (hy : ev n φ y = .int kc j) (hij : a = j) (h0 : 0 ≤ a) (hb : bytes * a.toNat ≤ 281474976710656) (h63 : a.toNat ≤ maxLen)
    (h : ∀ b W, b = w.heap.size → Ext w W → w.heap.size < W.heap.size → Blk W b (List.replicate a.toNat z) e → SeqL P ops Q rest (mk n (putF φ d (.slice (some ⟨b, 0, none⟩) a.toNat a.toNat)) ds) W) :
    SeqL P ops Q (⟨d, .makeSlice t x y, ty, pos, af, none⟩ :: rest) (mk n φ ds) w := by
  obtain ⟨W, hr, ho, hE⟩ := X_make (P := P) (ρ := ev n φ) (d := d) (ty := ty) (pos := pos) (af := af) (g := none) (base := 0) hu hl hx hy hij h0 hb h63 (Nat.zero_le _)
  have hB := blk_of_own ho rfl
  rw [hz, Nat.mul_one, madeCells_one] at hB
  exact S_val hr (h _ W rfl hE hB.lt hB)
theorem E_make {t e bytes : Nat} {z : Value} {x y : Operand} {kl kc : IntKind} {a j : Int} (ho : L[i]? = some ⟨d, .makeSlice t x y, ty, pos, af, none⟩) (hu : P.underlying t = some (.slice e)) (hl : Lay P e 1 bytes z) (hz : z.cells = #[z]) (hx : ev n φ x = .int kl a) (hy : ev n φ y = .int kc j) (hij : a = j) (h0 : 0 ≤ a) (hb : bytes * a.toNat ≤ 281474976710656) (h63 : a.toNat ≤ maxLen)
    (h : ∀ b W, b = w.heap.size → Ext w W → w.heap.size < W.heap.size → Blk W b (List.replicate a.toNat z) e → S W ∧ wpPlan P L.toArray Q S l' (mk n (putF φ d (.slice (some ⟨b, 0, none⟩) a.toNat a.toNat)) ds) W) :
    wpPlan P L.toArray Q S (.eff i :: l') (mk n φ ds) w := by
  obtain ⟨W, hr, ho', hE⟩ := X_make (P := P) (ρ := ev n φ) (d := d) (ty := ty) (pos := pos) (af := af) (g := none) (base := 0) hu hl hx hy hij h0 hb h63 (Nat.zero_le _)
  have hB := blk_of_own ho' rfl
  rw [hz, Nat.mul_one, madeCells_one] at hB
  obtain ⟨h5, h6⟩ := h _ W rfl hE hB.lt hB
  exact E_val ho hr h5 h6
end
section
variable {α : Type} {enc : α → List Value} {sz e th : Nat} {w : World} {lo B : Nat} {hs : List Value} {L : List (List α)}
theorem rows_at (h : RowsOf enc sz e th w lo B hs L) {c : Nat} {l : List α} (hl : L[c]? = some l) : ∃ A cp, hs[c]? = some (.slice A l.length cp) ∧ (A = none → cp = 0) ∧ w.ownsRow lo e sz (.slice A l.length cp) l.length (l.flatMap enc) ∧ w.cell? ⟨B, 0 + c * 1, none⟩ = some (.slice A l.length cp) := by
  have hc : c < hs.length := by rw [h.len]; exact (List.getElem?_eq_some_iff.1 hl).1
  have hx : hs[c]? = some hs[c] := List.getElem?_eq_getElem hc
  have ho := h.own c _ l hx hl
  obtain ⟨A, cp, hA, _, _, h0⟩ := own_shape ho
  rw [hA] at ho hx
  exact ⟨A, cp, hx, h0, ho, h.blk.cell (by simpa using hx)⟩
theorem rows_push {W W' : World} {c c' : Nat} {x : Value} {l : List α} {a : α} {A : Option Addr} {cp : Nat} (h : RowsOf enc sz e th w lo B hs L) (hx : hs[c]? = some x) (hl : L[c]? = some l) (g : Grew w lo e sz (l.length + 1) x (l.flatMap enc ++ enc a) A cp W) (m : Mod B W W') (hc : c' = c) (hB : Blk W' B (hs.set c' (.slice A (l.length + 1) cp)) th) :
    RowsOf enc sz e th W' lo B (hs.set c (.slice A (l.length + 1) cp)) (L.set c (l ++ [a])) := by
  subst hc
  refine h.turn hx hl g.step (by have := g.own; simpa using this) ?_ m hB
  rcases g.row with h1 | h1
  · exact .inl h1
  · exact .inr fun k hk => by rw [h1] at hk; cases hk; exact Nat.le_refl _
theorem repl_get {β : Type} {n c : Nat} {x z : β} (h : (List.replicate n z)[c]? = some x) : x = z := List.eq_of_mem_replicate (List.mem_of_getElem? h)
theorem rows_made {n : Nat} (h : Blk w B (List.replicate n (.slice none 0 0)) th) : RowsOf enc sz e th w lo B (List.replicate n (.slice none 0 0)) (List.replicate n ([] : List α)) := by
  refine ⟨h, by simp, ?_, ?_, ?_⟩
  · intro c x l hx hl
    obtain rfl := repl_get hx
    obtain rfl := repl_get hl
    exact World.ownsRow_nil _ _ _ _
  · intro c c' x y k _ hx _ hk
    obtain rfl := repl_get hx
    cases hk
  · intro c x hx hk
    obtain rfl := repl_get hx
    cases hk
theorem rows_rd {ok : α → Prop} (hk : ∀ x, (enc x).length = sz) (h0 : 0 < sz) (h : RowsOf enc sz e th w lo B hs L) (hok : ∀ l ∈ L, ∀ x ∈ l, ok x) {N : Nat} (hN : N = L.length) (hm : N ≤ maxLen) : Rd (RowR enc ok sz) 1 w (.slice (some ⟨B, 0, none⟩) N N) L := by
  subst hN
  exact ⟨_, _, rfl, Nat.le_refl _, hm, (fun h => by cases h), h.rdA hk h0 hok⟩
theorem rows_blk {W : World} {c m' : Nat} {x : Value} {cs : List Value} {A : Option Addr} {cp : Nat} (h : RowsOf enc sz e th w lo B hs L) (hx : hs[c]? = some x) (g : Grew w lo e sz m' x cs A cp W) : Blk W B hs th := h.blk.step g.step (h.out c x hx)
end
/-- Read in whatever world of the class. -/
theorem ldS {P : Program} {ρ : Operand → Value} {w w' : World} {M : Nat → Prop} {d : Option Tmp} {ty : TypeId} {pos : String} {af : Array Edge} {g : Option (Nat × Bool)} {x : Operand} {b o : Nat} {t : TypeId} {v : Value} (s : Step M w w') (ha : ∀ w, (isAgg t).run P w = .ok false w) (hx : ρ x = .pointer (some ⟨b, o, none⟩))
    (hm : ¬ M b := by first | assumption | (intro hM; omega) | (simp; omega)) (hc : w.cell? ⟨b, o, none⟩ = some v := by
      first
        | ((repeat (first | assumption | (apply Ext.cell; (· assumption)) | (apply Mod.cell; (· assumption); (· first | assumption | omega)))); done)
        | (apply cellB; (· repeat (first | assumption | (apply Blk.ext; (· assumption)) | (apply Blk.mod; (· assumption); (· first | assumption | omega)))); (· rfl))) :
    (execOp ρ ⟨d, .load t x, ty, pos, af, g⟩).run P w' = .ok (.value v) w' := X_load ha hx (Step.cell s hc hm)
theorem X_makeFuncL {P : Program} {ρ : Operand → Value} {w : World} {d : Option Tmp} {ty : TypeId} {pos : String} {af : Array Edge} {g : Option (Nat × Bool)} {fn : Fn} {ca : List Operand} {vs : List Value} (h : ca.map ρ = vs) : (execOp ρ ⟨d, .makeFunc fn #[] ca.toArray, ty, pos, af, g⟩).run P w = .ok (.value (.func fn #[] vs.toArray)) w := by
  rw [X_makeFunc]; simp [h]
theorem S_e {M : Nat → Prop} {a b c : World} (h : Step M a b) (k : Ext b c) : Step M a c := h.trans k.any
theorem S_s {M M' : Nat → Prop} {a b c : World} (h : Step M a b) (k : Step M' b c) (hm : ∀ i, i < a.heap.size → M' i → M i) : Step M a c :=
  ⟨k.os.trans h.os, k.tape.trans h.tape, k.output.trans h.output, Nat.le_trans h.drawn k.drawn, Nat.le_trans h.size k.size, fun i hi hn => (k.block i (Nat.lt_of_lt_of_le hi h.size) (fun h' => hn (hm i hi h'))).trans (h.block i hi hn)⟩
/-- A store behind which nobody reads any more by the plan's class. -/
theorem E_stS {P : Program} {n : Nat} {φ : Fr} {ds : List Deferred} {w : World} {Q : Exit → Act → World → Prop} {d : Option Tmp} {ty : TypeId} {pos : String} {af : Array Edge} {L : List Oper} {S : World → Prop} {l' : List PE} {i : Nat} {t : TypeId} {x y : Operand} {b o : Nat} {l : List Value} {v u : Value} {bt : TypeId} (ho' : L[i]? = some ⟨d, .store t x y, ty, pos, af, none⟩) (hz : ∀ w, (sizeOf t).run P w = .ok 1 w) (hx : ev n φ x = .pointer (some ⟨b, o, none⟩)) (hy : ev n φ y = v)
    (hb : Blk w b l bt) (hu : l[o]? = some u) (h1 : v.oneCell' = true) (h : ∀ W, Mod b w W → W.heap.size = w.heap.size → Blk W b (l.set o v) bt → S W ∧ wpPlan P L.toArray Q S l' (mk n (putF φ d undef) ds) W) : wpPlan P L.toArray Q S (.eff i :: l') (mk n φ ds) w := by
  have hs := blk_setCell hb o v
  obtain ⟨h2, h3⟩ := h _ hs.2 (by simp [World.setCell]) hs.1
  exact E_skip ho' (X_store hz hx hy h1 (hb.cell hu) (hb.unfrozen o)) h2 h3
end Go.Proofs.Ytfhilbhmkifepaa
