/- What the operations of a region come to, one by one, and how worlds follow one another; no condition. -/
import Derived.Test.YtfhilbhmkifepaaE1
namespace Go.Proofs.Ytfhilbhmkifepaa
open Go.RowKit

/-! ### Worlds -/
/-- Of what was there nothing has turned but blocks of M. -/
structure Step (M : Nat → Prop) (w w' : World) : Prop where
  os : w'.os = w.os
  tape : w'.tape = w.tape
  output : w'.output = w.output
  drawn : w.drawn ≤ w'.drawn
  size : w.heap.size ≤ w'.heap.size
  block : ∀ k, k < w.heap.size → ¬ M k → w'.heap[k]? = w.heap[k]?
abbrev Ext := Step (fun _ => False)
abbrev Mod (b : Nat) := Step (fun k => k = b)
theorem Step.refl (M : Nat → Prop) (w : World) : Step M w w := ⟨rfl, rfl, rfl, Nat.le_refl _, Nat.le_refl _, fun _ _ _ => rfl⟩
theorem Step.trans {M : Nat → Prop} {a b c : World} (h : Step M a b) (k : Step M b c) : Step M a c :=
  ⟨k.os.trans h.os, k.tape.trans h.tape, k.output.trans h.output, Nat.le_trans h.drawn k.drawn, Nat.le_trans h.size k.size, fun i hi hm => (k.block i (Nat.lt_of_lt_of_le hi h.size) hm).trans (h.block i hi hm)⟩
theorem Step.mono {M M' : Nat → Prop} {a b : World} (h : Step M a b) (hm : ∀ k, k < a.heap.size → M k → M' k) : Step M' a b :=
  ⟨h.os, h.tape, h.output, h.drawn, h.size, fun i hi hn => h.block i hi (fun h' => hn (hm i hi h'))⟩
theorem Ext.any {M : Nat → Prop} {a b : World} (h : Ext a b) : Step M a b := h.mono (fun _ _ hf => hf.elim)
theorem Ext.below {w w' : World} (h : Ext w w') : Below w.heap.size w w' := ⟨h.os, h.tape, h.output, h.size, fun k hk => h.block k hk (fun hf => hf)⟩
/-- Steps that turn only what came behind w leave w as it was. -/
theorem Step.tail {M : Nat → Prop} {a b c : World} (h : Ext a b) (k : Step M b c) (hm : ∀ i, M i → a.heap.size ≤ i) : Ext a c :=
  ⟨k.os.trans h.os, k.tape.trans h.tape, k.output.trans h.output, Nat.le_trans h.drawn k.drawn, Nat.le_trans h.size k.size, fun i hi hn => (k.block i (Nat.lt_of_lt_of_le hi h.size) (fun hmi => by have := hm i hmi; omega)).trans (h.block i hi hn)⟩
theorem Step.cell {M : Nat → Prop} {w w' : World} (h : Step M w w') {a : Addr} {v : Value} (hc : w.cell? a = some v) (hm : ¬ M a.block) : w'.cell? a = some v :=
  (World.cell?_of_block (w := w) (h.block a.block (World.block_lt_of_cell? w a hc) hm)).trans hc
theorem Ext.cell {w w' : World} (h : Ext w w') {a : Addr} {v : Value} (hc : w.cell? a = some v) : w'.cell? a = some v := Step.cell h hc (fun hf => hf)
theorem ext_drew (w : World) : Ext w { w with drawn := w.drawn + 1 } := ⟨rfl, rfl, rfl, Nat.le_succ _, Nat.le_refl _, fun _ _ _ => rfl⟩
theorem ext_alloc (w : World) (o : Obj) : Ext w (w.alloc o) := ⟨rfl, rfl, rfl, Nat.le_refl _, by simp, fun k hk _ => Below.heap_alloc w o k hk⟩
theorem ext_grown {w w' : World} (h : w.grownBy w' none) (hd : w.drawn ≤ w'.drawn) : Ext w w' := ⟨h.os, h.tape, h.output, hd, h.size, fun k hk _ => h.block k hk (by simp)⟩

/-- A block of cells, whole, none of them frozen. -/
def Blk (w : World) (b : Nat) (l : List Value) (t : TypeId) : Prop := w.heap[b]? = some (.cells l.toArray t)
theorem Blk.lt {w : World} {b : Nat} {l : List Value} {t : TypeId} (h : Blk w b l t) : b < w.heap.size := (Array.getElem?_eq_some_iff.1 h).1
theorem Blk.step {M : Nat → Prop} {w w' : World} (s : Step M w w') {b : Nat} {l : List Value} {t : TypeId} (hm : ¬ M b) (h : Blk w b l t) : Blk w' b l t := (s.block b h.lt hm).trans h
theorem Blk.ext {w w' : World} (s : Ext w w') {b : Nat} {l : List Value} {t : TypeId} (h : Blk w b l t) : Blk w' b l t := h.step s (fun hf => hf)
theorem Blk.cell {w : World} {b : Nat} {l : List Value} {t : TypeId} (h : Blk w b l t) {o : Nat} {v : Value} (hv : l[o]? = some v) : w.cell? ⟨b, o, none⟩ = some v := by
  unfold Blk at h
  simp [World.cell?, h, hv]
theorem Blk.unfrozen {w : World} {b : Nat} {l : List Value} {t : TypeId} (h : Blk w b l t) (o : Nat) : w.frozen? ⟨b, o, none⟩ = false := by
  unfold Blk at h
  simp [World.frozen?, h]
theorem Blk.fn {w : World} {b : Nat} {l l' : List Value} {t t' : TypeId} (h : Blk w b l t) (h' : Blk w b l' t') : l = l' := by
  unfold Blk at h h'
  rw [h] at h'
  injection h' with h'
  injection h' with h1 h2
  simpa using congrArg Array.toList h1
theorem blk_alloc (w : World) (l : List Value) (t : TypeId) : Blk (w.alloc (.cells l.toArray t)) w.heap.size l t := by
  unfold Blk World.alloc
  simp
theorem blk_setCell {w : World} {b : Nat} {l : List Value} {t : TypeId} (h : Blk w b l t) (o : Nat) (v : Value) : Blk (w.setCell ⟨b, o, none⟩ v) b (l.set o v) t ∧ Mod b w (w.setCell ⟨b, o, none⟩ v) := by
  refine ⟨?_, rfl, rfl, rfl, Nat.le_refl _, by simp [World.setCell], fun k _ hk => Below.heap_setCell _ _ _ _ hk⟩
  have hlt := h.lt
  unfold Blk at h ⊢
  have hg : w.heap[b]'hlt = Obj.cells l.toArray t := by
    rw [Array.getElem?_eq_getElem hlt] at h; exact Option.some.inj h
  simp [World.setCell, hlt, Array.getElem_modify, hg]

attribute [irreducible] Blk

/-! ### Operations -/
section
variable {P : Program} {ρ : Operand → Value} {w : World} {d : Option Tmp} {ty : TypeId} {pos : String} {af : Array Edge} {g : Option (Nat × Bool)}

theorem X_move {x : Operand} {v : Value} (h : ρ x = v) : (execOp ρ ⟨d, .move x, ty, pos, af, g⟩).run P w = .ok (.value v) w := by simp [execOp, h]
theorem X_assign {x : Operand} {v : Value} (h : ρ x = v) : (execOp ρ ⟨d, .assign x, ty, pos, af, g⟩).run P w = .ok (.value v) w := by simp [execOp, h]
theorem X_pick {c x y : Operand} {b : Bool} (hc : ρ c = .bool b) : (execOp ρ ⟨d, .pick c x y, ty, pos, af, g⟩).run P w = .ok (.value (bif b then ρ x else ρ y)) w := by
  cases b <;> simp [execOp, asBool, hc]
theorem X_pick_t {c x y : Operand} {b : Bool} {v : Value} (hc : ρ c = .bool b) (hb : b = true) (h : ρ x = v) : (execOp ρ ⟨d, .pick c x y, ty, pos, af, g⟩).run P w = .ok (.value v) w := by
  rw [X_pick hc, hb]; simp [h]
theorem X_pick_f {c x y : Operand} {b : Bool} {v : Value} (hc : ρ c = .bool b) (hb : b = false) (h : ρ y = v) : (execOp ρ ⟨d, .pick c x y, ty, pos, af, g⟩).run P w = .ok (.value v) w := by
  rw [X_pick hc, hb]; simp [h]
theorem X_add {x y : Operand} {k : IntKind} {a b c : Int} {t u : TypeId} (hx : ρ x = .int k a) (hy : ρ y = .int k b) (hw : k.wrap (a + b) = c) : (execOp ρ ⟨d, .binOp .add t x y u, ty, pos, af, g⟩).run P w = .ok (.value (.int k c)) w := by
  simp [execOp, hx, hy, eqGuard_add, binOp_add, Op.intArith, hw]
theorem X_sub {x y : Operand} {k : IntKind} {a b c : Int} {t u : TypeId} (hx : ρ x = .int k a) (hy : ρ y = .int k b) (hw : k.wrap (a - b) = c) : (execOp ρ ⟨d, .binOp .sub t x y u, ty, pos, af, g⟩).run P w = .ok (.value (.int k c)) w := by
  simp [execOp, hx, hy, eqGuard_sub, binOp_sub, Op.intArith, hw]
theorem X_mul {x y : Operand} {k : IntKind} {a b c : Int} {t u : TypeId} (hx : ρ x = .int k a) (hy : ρ y = .int k b) (hw : k.wrap (a * b) = c) : (execOp ρ ⟨d, .binOp .mul t x y u, ty, pos, af, g⟩).run P w = .ok (.value (.int k c)) w := by
  simp [execOp, hx, hy, eqGuard_mul, binOp_mul, Op.intArith, hw]
theorem X_quo {x y : Operand} {k : IntKind} {a b c : Int} {t u : TypeId} (hx : ρ x = .int k a) (hy : ρ y = .int k b) (h0 : b ≠ 0) (hw : k.wrap (a.tdiv b) = c) : (execOp ρ ⟨d, .binOp .quo t x y u, ty, pos, af, g⟩).run P w = .ok (.value (.int k c)) w := by
  simp [execOp, hx, hy, eqGuard_quo, binOp_quo, Op.intDiv, h0, hw]
theorem X_rem {x y : Operand} {k : IntKind} {a b c : Int} {t u : TypeId} (hx : ρ x = .int k a) (hy : ρ y = .int k b) (h0 : b ≠ 0) (hw : a.tmod b = c) : (execOp ρ ⟨d, .binOp .rem t x y u, ty, pos, af, g⟩).run P w = .ok (.value (.int k c)) w := by
  simp [execOp, hx, hy, eqGuard_rem, binOp_rem, Op.intDiv, h0, hw]
theorem X_and {x y : Operand} {k : IntKind} {a b c : Int} {t u : TypeId} (hx : ρ x = .int k a) (hy : ρ y = .int k b) (hw : bits .and k a b = c) : (execOp ρ ⟨d, .binOp .and t x y u, ty, pos, af, g⟩).run P w = .ok (.value (.int k c)) w := by
  simp [execOp, hx, hy, eqGuard_and, binOp_and, intBits_and, hw]
theorem X_or {x y : Operand} {k : IntKind} {a b c : Int} {t u : TypeId} (hx : ρ x = .int k a) (hy : ρ y = .int k b) (hw : bits .or k a b = c) : (execOp ρ ⟨d, .binOp .or t x y u, ty, pos, af, g⟩).run P w = .ok (.value (.int k c)) w := by
  simp [execOp, hx, hy, eqGuard_or, binOp_or, intBits_or, hw]
theorem X_xor {x y : Operand} {k : IntKind} {a b c : Int} {t u : TypeId} (hx : ρ x = .int k a) (hy : ρ y = .int k b) (hw : bits .xor k a b = c) : (execOp ρ ⟨d, .binOp .xor t x y u, ty, pos, af, g⟩).run P w = .ok (.value (.int k c)) w := by
  simp [execOp, hx, hy, eqGuard_xor, binOp_xor, intBits_xor, hw]
theorem X_andNot {x y : Operand} {k : IntKind} {a b c : Int} {t u : TypeId} (hx : ρ x = .int k a) (hy : ρ y = .int k b) (hw : bits .andNot k a b = c) : (execOp ρ ⟨d, .binOp .andNot t x y u, ty, pos, af, g⟩).run P w = .ok (.value (.int k c)) w := by
  simp [execOp, hx, hy, eqGuard_andNot, binOp_andNot, intBits_andNot, hw]
theorem X_shl {x y : Operand} {k j : IntKind} {a b c : Int} {t u : TypeId} (hx : ρ x = .int k a) (hy : ρ y = .int j b) (h0 : 0 ≤ b) (hw : k.wrap (a * 2 ^ min b.toNat k.bits) = c) : (execOp ρ ⟨d, .binOp .shl t x y u, ty, pos, af, g⟩).run P w = .ok (.value (.int k c)) w := by
  have : ¬ b < 0 := by omega
  simp [execOp, hx, hy, eqGuard_shl, binOp_shl, Op.shift, this, hw]
theorem X_shr {x y : Operand} {k j : IntKind} {a b c : Int} {t u : TypeId} (hx : ρ x = .int k a) (hy : ρ y = .int j b) (h0 : 0 ≤ b) (hw : a.fdiv (2 ^ min b.toNat k.bits) = c) : (execOp ρ ⟨d, .binOp .shr t x y u, ty, pos, af, g⟩).run P w = .ok (.value (.int k c)) w := by
  have : ¬ b < 0 := by omega
  simp [execOp, hx, hy, eqGuard_shr, binOp_shr, Op.shift, this, hw]
theorem X_eql {x y : Operand} {k : IntKind} {a b : Int} {t u : TypeId} (hx : ρ x = .int k a) (hy : ρ y = .int k b) : (execOp ρ ⟨d, .binOp .eql t x y u, ty, pos, af, g⟩).run P w = .ok (.value (.bool (decide (a = b)))) w := by
  simp [execOp, hx, hy, eqGuard_at_int, binOp_eql]; rfl
theorem X_neq {x y : Operand} {k : IntKind} {a b : Int} {t u : TypeId} (hx : ρ x = .int k a) (hy : ρ y = .int k b) : (execOp ρ ⟨d, .binOp .neq t x y u, ty, pos, af, g⟩).run P w = .ok (.value (.bool (decide (a ≠ b)))) w := by
  simp [execOp, hx, hy, eqGuard_at_int, binOp_neq]
  by_cases h : a = b <;> simp [h]
theorem X_lss {x y : Operand} {k : IntKind} {a b : Int} {t u : TypeId} (hx : ρ x = .int k a) (hy : ρ y = .int k b) : (execOp ρ ⟨d, .binOp .lss t x y u, ty, pos, af, g⟩).run P w = .ok (.value (.bool (decide (a < b)))) w := by
  simp [execOp, hx, hy, eqGuard_lss, binOp_lss]
theorem X_leq {x y : Operand} {k : IntKind} {a b : Int} {t u : TypeId} (hx : ρ x = .int k a) (hy : ρ y = .int k b) : (execOp ρ ⟨d, .binOp .leq t x y u, ty, pos, af, g⟩).run P w = .ok (.value (.bool (decide (a ≤ b)))) w := by
  simp [execOp, hx, hy, eqGuard_leq, binOp_leq]
theorem X_gtr {x y : Operand} {k : IntKind} {a b : Int} {t u : TypeId} (hx : ρ x = .int k a) (hy : ρ y = .int k b) : (execOp ρ ⟨d, .binOp .gtr t x y u, ty, pos, af, g⟩).run P w = .ok (.value (.bool (decide (b < a)))) w := by
  simp [execOp, hx, hy, eqGuard_gtr, binOp_gtr]
theorem X_geq {x y : Operand} {k : IntKind} {a b : Int} {t u : TypeId} (hx : ρ x = .int k a) (hy : ρ y = .int k b) : (execOp ρ ⟨d, .binOp .geq t x y u, ty, pos, af, g⟩).run P w = .ok (.value (.bool (decide (b ≤ a)))) w := by
  simp [execOp, hx, hy, eqGuard_geq, binOp_geq]
theorem X_not {x : Operand} {b : Bool} {t : TypeId} (hx : ρ x = .bool b) : (execOp ρ ⟨d, .unOp .not t x, ty, pos, af, g⟩).run P w = .ok (.value (.bool !b)) w := by
  simp [execOp, hx, Op.unary]
theorem X_neg {x : Operand} {k : IntKind} {a c : Int} {t : TypeId} (hx : ρ x = .int k a) (hw : k.wrap (0 - a) = c) : (execOp ρ ⟨d, .unOp .neg t x, ty, pos, af, g⟩).run P w = .ok (.value (.int k c)) w := by
  have hw' : k.wrap (-a) = c := by simpa using hw
  simp [execOp, hx, Op.unary, Op.intArith, hw']
theorem X_conv {x : Operand} {j k : IntKind} {a c : Int} {s t : TypeId} {ds : TypeDesc} (hs : P.underlying s = some ds) (ht : P.underlying t = some (.int k)) (hx : ρ x = .int j a) (hw : k.wrap a = c) : (execOp ρ ⟨d, .convert s t x, ty, pos, af, g⟩).run P w = .ok (.value (.int k c)) w := by
  simp [execOp, hx, convert, run_underlying hs, run_underlying ht, Conv.intToInt, hw]
theorem X_extract {x : Operand} {vs : Array Value} {i : Nat} {v : Value} (hx : ρ x = .tuple vs) (hi : vs[i]? = some v) : (execOp ρ ⟨d, .extract x i, ty, pos, af, g⟩).run P w = .ok (.value v) w := by
  simp [execOp, hx, Instr.extract, hi]
theorem X_nilCheck {x : Operand} {a : Addr} (hx : ρ x = .pointer (some a)) : (execOp ρ ⟨d, .nilCheck x, ty, pos, af, g⟩).run P w = .ok (.value (.pointer (some a))) w := by
  simp [execOp, hx]
theorem X_fieldAddr {x : Operand} {b o sz i : Nat} {s ft : TypeId} {fs : Array Field} (off : Nat) (hu : P.underlying s = some (.struct fs)) (hf : (fs[i]?).map (fun f => (f.offset, f.type)) = some (off, ft)) (hz : ∀ w, (sizeOf ft).run P w = .ok (sz + 1) w) (hx : ρ x = .pointer (some ⟨b, o, none⟩)) :
    (execOp ρ ⟨d, .fieldAddr s x i, ty, pos, af, g⟩).run P w = .ok (.value (.pointer (some ⟨b, o + off, none⟩))) w := by
  obtain ⟨f, hf1, hf2⟩ := Option.map_eq_some_iff.1 hf
  simp only [Prod.mk.injEq] at hf2
  obtain ⟨rfl, rfl⟩ := hf2
  simp [execOp, hx, Instr.fieldAt, run_underlying hu, hf1, Instr.sureAddr, fieldPlace, hz, Addr.add_lit]
theorem X_field {x : Operand} {i : Nat} {s : TypeId} {cs : Array Value} {v : Value} {fs : Array Field} {f : Field} (hu : P.underlying s = some (.struct fs)) (hf : fs[i]? = some f) (ha : ∀ w, (isAgg f.type).run P w = .ok false w) (hx : ρ x = .agg cs) (hv : cs[f.offset]? = some v) :
    (execOp ρ ⟨d, .field s x i, ty, pos, af, g⟩).run P w = .ok (.value v) w := by
  simp [execOp, hx, Instr.field, run_underlying hu, hf, asAgg, part, ha, hv]
/-- An element's address: of a slice. -/
theorem X_indexS {x y : Operand} {b o n c sz : Nat} {k : IntKind} {i : Int} {t e : TypeId} (hu : P.underlying t = some (.slice e)) (hz : ∀ w, (sizeOf e).run P w = .ok sz w) (hx : ρ x = .slice (some ⟨b, o, none⟩) n c) (hy : ρ y = .int k i) (h0 : 0 ≤ i) (h1 : i < n) :
    (execOp ρ ⟨d, .indexAddr t x y, ty, pos, af, g⟩).run P w = .ok (.value (.pointer (some ⟨b, o + i.toNat * sz, none⟩))) w := by
  simp [execOp, hx, hy, Instr.indexAt, run_underlying hu, asIntOf, h0, h1, hz, Addr.add_lit]
/-- An element's address: of an array that lies somewhere. -/
theorem X_indexA {x y : Operand} {b o n sz : Nat} {k : IntKind} {i : Int} {t e : TypeId} (hu : P.underlying t = some (.array n e)) (hz : ∀ w, (sizeOf e).run P w = .ok sz w) (hx : ρ x = .pointer (some ⟨b, o, none⟩)) (hy : ρ y = .int k i) (h0 : 0 ≤ i) (h1 : i < n) :
    (execOp ρ ⟨d, .indexAddr t x y, ty, pos, af, g⟩).run P w = .ok (.value (.pointer (some ⟨b, o + i.toNat * sz, none⟩))) w := by
  simp [execOp, hx, hy, Instr.indexAt, run_underlying hu, asIntOf, Instr.sureAddr, h0, h1, hz, Addr.add_lit]
theorem X_load {x : Operand} {a : Addr} {t : TypeId} {v : Value} (ha : ∀ w, (isAgg t).run P w = .ok false w) (hx : ρ x = .pointer (some a)) (hc : w.cell? a = some v) : (execOp ρ ⟨d, .load t x, ty, pos, af, g⟩).run P w = .ok (.value v) w := by
  simp [execOp, hx, Instr.loadAt, Instr.sureAddr, loadVar, ha, hc]
theorem run_loadCellsFrom {b o : Nat} : ∀ (vs : List Value) (i : Nat) (acc : Array Value), (∀ j v, vs[j]? = some v → w.cell? ⟨b, o + (i + j), none⟩ = some v) → (loadCellsFrom ⟨b, o, none⟩ i vs.length acc).run P w = .ok (acc ++ vs.toArray) w
  | [], i, acc, _ => by simp [loadCellsFrom]
  | v :: vs, i, acc, h => by
    have h0 : w.cell? ⟨b, o + i, none⟩ = some v := h 0 v rfl
    have hr := run_loadCellsFrom vs (i + 1) (acc.push v) (fun j u hu => by have := h (j + 1) u (by simpa using hu); rw [show i + 1 + j = i + (j + 1) by omega]; exact this)
    simp only [List.length_cons, loadCellsFrom, Addr.add_lit]
    simp [h0, hr]
/-- A struct or an array is read whole. -/
theorem X_loadAgg {x : Operand} {b o : Nat} {t : TypeId} {vs : List Value} (ha : ∀ w, (isAgg t).run P w = .ok true w) (hz : ∀ w, (sizeOf t).run P w = .ok vs.length w) (hx : ρ x = .pointer (some ⟨b, o, none⟩)) (hc : ∀ j v, vs[j]? = some v → w.cell? ⟨b, o + j, none⟩ = some v) :
    (execOp ρ ⟨d, .load t x, ty, pos, af, g⟩).run P w = .ok (.value (.agg vs.toArray)) w := by
  have := run_loadCellsFrom (P := P) (w := w) (b := b) (o := o) vs 0 #[] (by simpa using hc)
  simp [execOp, hx, Instr.loadAt, Instr.sureAddr, loadVar, ha, hz, loadCells, this]
theorem X_makeFunc {fn : Fn} {fi ca : Array Operand} : (execOp ρ ⟨d, .makeFunc fn fi ca, ty, pos, af, g⟩).run P w = .ok (.value (.func fn (fi.map ρ) (ca.map ρ))) w := by
  simp [execOp, Instr.makeFunc]
theorem X_len {x : Operand} {a : Option Addr} {n c : Nat} {t e : TypeId} (hu : P.underlying t = some (.slice e)) (hx : ρ x = .slice a n c) : (execOp ρ ⟨d, .call { callee := .builtin .len, args := #[x], argTypes := #[t] }, ty, pos, af, g⟩).run P w = .ok (.value (.int .i64 n)) w := by
  simp [execOp, resolve, invoke, builtin, hx, Builtin.len_, run_underlying hu, goInt]
theorem X_max {x y : Operand} {k : IntKind} {a b : Int} {t u : TypeId} (hx : ρ x = .int k a) (hy : ρ y = .int k b) : (execOp ρ ⟨d, .call { callee := .builtin .max, args := #[x, y], argTypes := #[t, u] }, ty, pos, af, g⟩).run P w = .ok (.value (.int k (max a b))) w := by
  have : (if b > a then b else a) = max a b := by omega
  simp [execOp, resolve, invoke, builtin, hx, hy, Builtin.max_, Builtin.max2, this]
theorem X_min {x y : Operand} {k : IntKind} {a b : Int} {t u : TypeId} (hx : ρ x = .int k a) (hy : ρ y = .int k b) : (execOp ρ ⟨d, .call { callee := .builtin .min, args := #[x, y], argTypes := #[t, u] }, ty, pos, af, g⟩).run P w = .ok (.value (.int k (min a b))) w := by
  have : (if b < a then b else a) = min a b := by omega
  simp [execOp, resolve, invoke, builtin, hx, hy, Builtin.min_, Builtin.min2, this]
/-- A call of a named function of the program. -/
theorem X_call {f : FuncId} {xs : List Operand} {ts : Array TypeId} {args : List Value} (he : ∀ args w, (callFunc f args).run P w = .ok (.enter f args) w) (hx : xs.map ρ = args) (hf : ρ (.func f) = .func (.func f) #[] #[]) :
    (execOp ρ ⟨d, .call { callee := .value (.func f), args := xs.toArray, argTypes := ts }, ty, pos, af, g⟩).run P w = .ok (.enter f args.toArray) w := by
  simp [execOp, resolve, hf, Deferred.ofValue, invoke, hx, he]
/-- A call of a function value that stands for one of the program's own, with what it holds behind its arguments. -/
theorem X_callv {f : FuncId} {z : Operand} {cap : List Value} {xs : List Operand} {ts : Array TypeId} {args : List Value} (he : ∀ args w, (callFunc f args).run P w = .ok (.enter f args) w) (hz : ρ z = .func (.func f) #[] cap.toArray) (hx : xs.map ρ ++ cap = args) :
    (execOp ρ ⟨d, .call { callee := .value z, args := xs.toArray, argTypes := ts }, ty, pos, af, g⟩).run P w = .ok (.enter f args.toArray) w := by
  subst hx
  simp [execOp, resolve, hz, Deferred.ofValue, invoke, he]
theorem X_alloc {t : TypeId} {z : Value} (hz : ∀ w, (zeroValue t).run P w = .ok z w) : (execOp ρ ⟨d, .alloc t, ty, pos, af, g⟩).run P w = .ok (.value (.pointer (some ⟨w.heap.size, 0, none⟩))) (w.alloc (.cells z.cells t)) := by
  simp [execOp, Instr.alloc, hz, newVar, newRow]
theorem X_box {t : TypeId} {x : Operand} {v : Value} (hx : ρ x = v) : (execOp ρ ⟨d, .box t x, ty, pos, af, g⟩).run P w = .ok (.value (.pointer (some ⟨w.heap.size, 0, none⟩))) (w.alloc (.cells v.cells t)) := by
  simp [execOp, Instr.box, hx, newVar, newRow]
theorem X_store {t : TypeId} {x y : Operand} {b o : Nat} {v u : Value} (hz : ∀ w, (sizeOf t).run P w = .ok 1 w) (hx : ρ x = .pointer (some ⟨b, o, none⟩)) (hy : ρ y = v) (h1 : v.oneCell' = true) (hc : w.cell? ⟨b, o, none⟩ = some u) (hf : w.frozen? ⟨b, o, none⟩ = false) :
    (execOp ρ ⟨d, .store t x y, ty, pos, af, g⟩).run P w = .ok .skip (w.setCell ⟨b, o, none⟩ v) := by
  have hcs : v.cells = #[v] := by cases v <;> first | rfl | (simp [Value.oneCell'] at h1)
  simp [execOp, hx, hy, Instr.storeAt, Instr.sureAddr, storeVar, hcs, hz, storeCells, run_store P _ _ _ _ h1, hc, hf, Addr.add_lit]
end
end Go.Proofs.Ytfhilbhmkifepaa
