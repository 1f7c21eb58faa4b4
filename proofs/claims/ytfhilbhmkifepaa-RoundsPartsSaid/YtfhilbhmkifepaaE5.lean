/- Structs and slices written out, elements of arrays by value, slicing; no condition. -/
import Derived.Test.YtfhilbhmkifepaaE4
namespace Go.Proofs.Ytfhilbhmkifepaa
open Go.RowKit

theorem foldl_patch : ∀ (vs : List Value) (j off : Nat) (cs : List Value), off + j + vs.length ≤ cs.length →
    (vs.zipIdx j).foldl (fun (cs : Array Value) (p : Value × Nat) => cs.setIfInBounds (off + p.2) p.1) cs.toArray = (patch cs (off + j) vs).toArray
  | [], j, off, cs, _ => by simp [patch]
  | v :: vs, j, off, cs, h => by
    simp only [List.length_cons] at h
    simp only [List.zipIdx_cons, List.foldl_cons, List.setIfInBounds_toArray]
    rw [foldl_patch vs (j + 1) off (cs.set (off + j) v) (by simp; omega), show off + (j + 1) = off + j + 1 by omega, patch_cons _ _ _ _ (by omega)]

def fillL (pl : Nat → Option (Nat × Nat)) (cs : List Value) : List (Nat × Value) → Option (List Value)
  | [] => some cs
  | (i, v) :: rest => match pl i with
    | some (off, size) => if v.cells.toList.length = size ∧ off + size ≤ cs.length then fillL pl (patch cs off v.cells.toList) rest else none
    | none => none
theorem fill_of_fillL (pl : Nat → Option (Nat × Nat)) : ∀ (parts : List (Nat × Value)) (cs out : List Value), fillL pl cs parts = some out → Instr.fill pl cs.toArray parts = some out.toArray
  | [], cs, out, h => by simp only [fillL, Option.some.injEq] at h; simp [Instr.fill, h]
  | (i, v) :: rest, cs, out, h => by
    simp only [fillL] at h
    split at h
    · rename_i off size hp
      split at h
      · rename_i hc
        have hs : v.cells.size = size := by rw [← hc.1]; simp
        simp only [Instr.fill, hp]
        have hb : (decide (v.cells.size ≠ size) || decide (off + v.cells.size > cs.toArray.size)) = false := by simp [hs]; omega
        rw [if_neg (by rw [hb]; simp)]
        have e : v.cells.zipIdx.foldl (fun cs (p : Value × Nat) => cs.setIfInBounds (off + p.2) p.1) cs.toArray = (patch cs off v.cells.toList).toArray := by
          rw [← Array.foldl_toList, Array.toList_zipIdx]
          exact foldl_patch _ 0 off cs (by rw [hc.1]; omega)
        have := fill_of_fillL pl rest _ _ h
        rw [← e] at this
        exact this
      · cases h
    · cases h

def setL (zs : List Value) : List Nat → List Value → List Value
  | o :: os, v :: vs => setL (zs.set o v) os vs
  | _, _ => zs
theorem cells_one {v : Value} (h : v.oneCell' = true) : v.cells.toList = [v] := by cases v <;> first | rfl | (simp [Value.oneCell'] at h)
theorem patch_one (l : List Value) (o : Nat) (v : Value) (h : o < l.length) : patch l o [v] = l.set o v := by
  rw [← patch_cons _ _ _ _ h, patch_nil]
theorem fillL_one {ρ : Operand → Value} (pl : Nat → Option (Nat × Nat)) : ∀ (l : List (Nat × Operand)) (offs : List Nat) (vs zs : List Value), l.map (fun p => ρ p.2) = vs → l.map (fun p => pl p.1) = offs.map (fun o => some (o, 1)) →
    offs.all (Nat.blt · zs.length) = true → vs.all Value.oneCell' = true → fillL pl zs (l.map fun p => (p.1, ρ p.2)) = some (setL zs offs vs)
  | [], offs, vs, zs, hv, hp, _, _ => by
    subst hv
    have : offs = [] := by
      have := congrArg List.length hp
      simpa using this.symm
    subst this
    simp [fillL, setL]
  | p :: l, [], vs, zs, hv, hp, _, _ => by simp at hp
  | p :: l, o :: os, [], zs, hv, hp, _, _ => by simp at hv
  | p :: l, o :: os, v :: vs, zs, hv, hp, ho, h1 => by
    simp only [List.map_cons, List.cons.injEq, List.all_cons, Bool.and_eq_true] at hv hp ho h1
    have hlt : o < zs.length := by
      have := ho.1
      rwa [Nat.blt_eq] at this
    simp only [List.map_cons, fillL, hp.1, hv.1, cells_one h1.1, setL]
    rw [if_pos ⟨rfl, hlt⟩, patch_one _ _ _ hlt]
    exact fillL_one pl l os vs _ hv.2 hp.2 (by simpa using ho.2) h1.2

section
variable {P : Program} {ρ : Operand → Value} {w : World} {d : Option Tmp} {ty : TypeId} {pos : String} {af : Array Edge} {g : Option (Nat × Bool)}

/-- A struct written out. -/
theorem X_build {t : TypeId} {zs cs : List Value} {fs : Array Field} {pl : List (Nat × Nat)} {l : List (Nat × Operand)} (hz : ∀ w, (zeroValue t).run P w = .ok (.agg zs.toArray) w) (hu : P.underlying t = some (.struct fs))
    (hp : ∀ w, (fs.mapM fun f => do pure (f.offset, ← sizeOf f.type) : Sem (Array (Nat × Nat))).run P w = .ok pl.toArray w) (hf : fillL (pl[·]?) zs (l.map fun p => (p.1, ρ p.2)) = some cs) :
    (execOp ρ ⟨d, .build t l.toArray, ty, pos, af, g⟩).run P w = .ok (.value (.agg cs.toArray)) w := by
  have h1 := fill_of_fillL _ _ _ _ hf
  have h2 : Instr.fill (fun i => pl.toArray[i]?) zs.toArray (List.map (fun p => (p.1, ρ p.2)) l) = some cs.toArray := by simpa using h1
  simp only [execOp, Instr.build, List.map_toArray, Sem.run_bind, hz, Result.andThen, run_underlying hu, hp, Value.cells, h2, Sem.run_pure]
/-- A struct written out, its parts of one cell each. -/
theorem X_build1 {t : TypeId} {zs : List Value} {fs : Array Field} {pl : List (Nat × Nat)} {l : List (Nat × Operand)} (offs : List Nat) (vs : List Value) (cs : List Value) (hz : ∀ w, (zeroValue t).run P w = .ok (.agg zs.toArray) w) (hu : P.underlying t = some (.struct fs))
    (hp : ∀ w, (fs.mapM fun f => do pure (f.offset, ← sizeOf f.type) : Sem (Array (Nat × Nat))).run P w = .ok pl.toArray w) (hvs : l.map (fun p => ρ p.2) = vs) (hcs : setL zs offs vs = cs) (hpl : l.map (fun p => pl[p.1]?) = offs.map (fun o => some (o, 1)))
    (hb : (offs.all (Nat.blt · zs.length) && vs.all Value.oneCell') = true) :
    (execOp ρ ⟨d, .build t l.toArray, ty, pos, af, g⟩).run P w = .ok (.value (.agg cs.toArray)) w := by
  refine X_build hz hu hp ?_
  rw [← hcs]
  simp only [Bool.and_eq_true] at hb
  exact fillL_one _ l offs vs zs hvs hpl hb.1 hb.2
/-- An array written out. -/
theorem X_buildA {t e : TypeId} {n sz : Nat} {zs cs : List Value} {l : List (Nat × Operand)} (hz : ∀ w, (zeroValue t).run P w = .ok (.agg zs.toArray) w) (hu : P.underlying t = some (.array n e)) (hs : ∀ w, (sizeOf e).run P w = .ok sz w)
    (hf : fillL (fun i => some (i * sz, sz)) zs (l.map fun p => (p.1, ρ p.2)) = some cs) :
    (execOp ρ ⟨d, .build t l.toArray, ty, pos, af, g⟩).run P w = .ok (.value (.agg cs.toArray)) w := by
  have h1 := fill_of_fillL _ _ _ _ hf
  simp only [execOp, Instr.build, List.map_toArray]
  simp [hz, run_underlying hu, hs, h1, Value.cells]
/-- An element of an array, by value. -/
theorem X_indexVA {x y : Operand} {n sz : Nat} {k : IntKind} {i : Int} {cs : Array Value} {t e : TypeId} {r : Array Value} (hu : P.underlying t = some (.array n e)) (ha : ∀ w, (isAgg e).run P w = .ok true w) (hz : ∀ w, (sizeOf e).run P w = .ok sz w) (hx : ρ x = .agg cs) (hy : ρ y = .int k i) (h0 : 0 ≤ i) (h1 : i < n) (hr : cs.extract (i.toNat * sz) (i.toNat * sz + sz) = r) :
    (execOp ρ ⟨d, .index t x y, ty, pos, af, g⟩).run P w = .ok (.value (.agg r)) w := by
  simp [execOp, hx, hy, Instr.index, run_underlying hu, asIntOf, h0, h1, hz, part, ha, hr]
theorem X_indexV1 {x y : Operand} {n : Nat} {k : IntKind} {i : Int} {cs : Array Value} {t e : TypeId} {v : Value} (hu : P.underlying t = some (.array n e)) (ha : ∀ w, (isAgg e).run P w = .ok false w) (hz : ∀ w, (sizeOf e).run P w = .ok 1 w) (hx : ρ x = .agg cs) (hy : ρ y = .int k i) (h0 : 0 ≤ i) (h1 : i < n) (hv : cs[i.toNat]? = some v) :
    (execOp ρ ⟨d, .index t x y, ty, pos, af, g⟩).run P w = .ok (.value v) w := by
  simp [execOp, hx, hy, Instr.index, run_underlying hu, asIntOf, h0, h1, hz, part, ha, hv]
/-- A slice written out: a row of the call's own. -/
theorem X_buildSlice {t e : TypeId} {n sz : Nat} {z : Value} {rs cs : List Value} {l : List (Nat × Operand)} (hu : P.underlying t = some (.slice e)) (hs : ∀ w, (sizeOf e).run P w = .ok sz w) (hz : ∀ w, (zeroValue e).run P w = .ok z w) (hn : n * sz ≤ 2 ^ 24)
    (hr : ((Array.range (n * sz)).map ((if n * sz = 0 then #[] else z.cells)[· % (if n * sz = 0 then (#[] : Array Value) else z.cells).size]!)) = rs.toArray) (hf : fillL (fun i => some (i * sz, sz)) rs (l.map fun p => (p.1, ρ p.2)) = some cs) :
    (execOp ρ ⟨d, .buildSlice t n l.toArray, ty, pos, af, g⟩).run P w = .ok (.value (.slice (some ⟨w.heap.size, 0, none⟩) n n)) (w.alloc (.cells cs.toArray e)) := by
  have h1 := fill_of_fillL _ _ _ _ hf
  have hn' : ¬ n * sz > 2 ^ 24 := by omega
  simp only [execOp, Instr.buildSlice, List.map_toArray]
  simp only [Sem.run_bind, run_underlying hu, hs, Result.andThen]
  by_cases h0 : n * sz = 0
  · simp only [h0, if_true] at hr
    have e1 : rs = [] := by
      have := congrArg Array.size hr
      simpa using this.symm
    subst e1
    simp only [h0, Nat.not_lt_zero, gt_iff_lt, if_false, if_true, Sem.run_pure, Sem.run_bind, Result.andThen, hr, h1, newRow, run_newObj]
    rfl
  · simp only [h0, if_false] at hr
    simp [h0, hn', hz, hr, h1, newRow]

theorem cells_blk {b o : Nat} {l vs : List Value} {bt : TypeId} (hb : Blk w b l bt) (hv : (l.drop o).take vs.length = vs) : ∀ j v, vs[j]? = some v → w.cell? ⟨b, o + j, none⟩ = some v := fun j v h => by
  have hj : j < vs.length := (List.getElem?_eq_some_iff.1 h).1
  refine hb.cell ?_
  rw [← hv, List.getElem?_take_of_lt hj, List.getElem?_drop] at h
  exact h
/-- A struct or an array read whole out of a block. -/
theorem lda {x : Operand} {b o : Nat} {t : TypeId} {l : List Value} {bt : TypeId} (vs : List Value) (ha : ∀ w, (isAgg t).run P w = .ok true w) (hz : ∀ w, (sizeOf t).run P w = .ok vs.length w) (hx : ρ x = .pointer (some ⟨b, o, none⟩))
    (hb : Blk w b l bt := by (repeat (first | assumption | (apply Blk.ext; (· assumption)) | (apply Blk.mod; (· assumption); (· first | assumption | omega))))) (hv : (l.drop o).take vs.length = vs := by rfl) :
    (execOp ρ ⟨d, .load t x, ty, pos, af, g⟩).run P w = .ok (.value (.agg vs.toArray)) w := X_loadAgg ha hz hx (cells_blk hb hv)
theorem ldax {w' : World} {x : Operand} {b o : Nat} {t : TypeId} {l : List Value} {bt : TypeId} (s : Ext w w') (vs : List Value) (ha : ∀ w, (isAgg t).run P w = .ok true w) (hz : ∀ w, (sizeOf t).run P w = .ok vs.length w) (hx : ρ x = .pointer (some ⟨b, o, none⟩))
    (hb : Blk w b l bt := by (repeat (first | assumption | (apply Blk.ext; (· assumption)) | (apply Blk.mod; (· assumption); (· first | assumption | omega))))) (hv : (l.drop o).take vs.length = vs := by rfl) :
    (execOp ρ ⟨d, .load t x, ty, pos, af, g⟩).run P w' = .ok (.value (.agg vs.toArray)) w' := X_loadAgg ha hz hx (cells_blk (hb.ext s) hv)
/-- Read in whatever world of the class in which one block was written: cells of other blocks. -/
theorem ldm {B : Nat} {w' : World} {x : Operand} {b o : Nat} {t : TypeId} {v : Value} (s : Mod B w w') (ha : ∀ w, (isAgg t).run P w = .ok false w) (hx : ρ x = .pointer (some ⟨b, o, none⟩))
    (hne : b ≠ B := by first | assumption | omega) (hc : w.cell? ⟨b, o, none⟩ = some v := by
      first
        | ((repeat (first | assumption | (apply Ext.cell; (· assumption)) | (apply Mod.cell; (· assumption); (· first | assumption | omega)))); done)
        | (apply cellB; (· repeat (first | assumption | (apply Blk.ext; (· assumption)) | (apply Blk.mod; (· assumption); (· first | assumption | omega)))); (· rfl))) :
    (execOp ρ ⟨d, .load t x, ty, pos, af, g⟩).run P w' = .ok (.value v) w' := X_load ha hx (Mod.cell s hne hc)
theorem ldam {B : Nat} {w' : World} {x : Operand} {b o : Nat} {t : TypeId} {l : List Value} {bt : TypeId} (s : Mod B w w') (vs : List Value) (ha : ∀ w, (isAgg t).run P w = .ok true w) (hz : ∀ w, (sizeOf t).run P w = .ok vs.length w) (hx : ρ x = .pointer (some ⟨b, o, none⟩))
    (hne : b ≠ B := by first | assumption | omega) (hb : Blk w b l bt := by (repeat (first | assumption | (apply Blk.ext; (· assumption)) | (apply Blk.mod; (· assumption); (· first | assumption | omega))))) (hv : (l.drop o).take vs.length = vs := by rfl) :
    (execOp ρ ⟨d, .load t x, ty, pos, af, g⟩).run P w' = .ok (.value (.agg vs.toArray)) w' := X_loadAgg ha hz hx (cells_blk (hb.mod s hne) hv)
end
section
variable {P : Program} {f : FuncId} {R : Ending → World → Prop} {k : List Item} {n : Nat} {φ : Fr} {ds : List Deferred} {w : World} {ops : Array Oper} {Q : Exit → Act → World → Prop} {rest : List Oper} {d : Option Tmp} {ty : TypeId} {pos : String} {af : Array Edge}
/-- A whole variable stored. -/
theorem sta0 {t : TypeId} {x y : Operand} {b : Nat} {l vs : List Value} {bt : TypeId} (hx : ev n φ x = .pointer (some ⟨b, 0, none⟩)) (hy : ev n φ y = .agg vs.toArray) (hz : ∀ w, (sizeOf t).run P w = .ok vs.length w)
    (h : ∀ W, Mod b w W → W.heap.size = w.heap.size → Blk W b vs bt → SeqL P ops Q rest (mk n (putF φ d undef) ds) W)
    (hb : Blk w b l bt := by (repeat (first | assumption | (apply Blk.ext; (· assumption)) | (apply Blk.mod; (· assumption); (· first | assumption | omega)))))
    (hl : l.length = vs.length := by rfl) (h1 : vs.all Value.oneCell' = true := by rfl) : SeqL P ops Q (⟨d, .store t x y, ty, pos, af, none⟩ :: rest) (mk n φ ds) w :=
  S_storeAgg hz hx hy (List.all_eq_true.1 h1) hb (by omega) (fun W a b c => h W a b (by rwa [patch_all _ _ hl] at c))
/-- Stores by a plan, into the one block that the class lets be written. -/
theorem E_sta0 {L : List Oper} {w0 : World} {l' : List PE} {i : Nat} {t : TypeId} {x y : Operand} {b : Nat} {l vs : List Value} {bt : TypeId} (ho' : L[i]? = some ⟨d, .store t x y, ty, pos, af, none⟩) (hx : ev n φ x = .pointer (some ⟨b, 0, none⟩)) (hy : ev n φ y = .agg vs.toArray) (hz : ∀ w, (sizeOf t).run P w = .ok vs.length w)
    (hS : Mod b w0 w) (h : ∀ W, Mod b w0 W → W.heap.size = w.heap.size → Blk W b vs bt → wpPlan P L.toArray Q (Mod b w0) l' (mk n (putF φ d undef) ds) W)
    (hb : Blk w b l bt := by (repeat (first | assumption | (apply Blk.ext; (· assumption)) | (apply Blk.mod; (· assumption); (· first | assumption | omega)))))
    (hl : l.length = vs.length := by rfl) (h1 : vs.all Value.oneCell' = true := by rfl) : wpPlan P L.toArray Q (Mod b w0) (.eff i :: l') (mk n φ ds) w := by
  obtain ⟨W, hr, hm, hs, hB⟩ := X_storeAgg (P := P) (ρ := ev n φ) (d := d) (ty := ty) (pos := pos) (af := af) (g := none) hz hx hy (List.all_eq_true.1 h1) hb (by omega)
  exact E_skip ho' hr (hS.trans hm) (h W (hS.trans hm) hs (by rwa [patch_all _ _ hl] at hB))
theorem E_st {L : List Oper} {w0 : World} {l' : List PE} {i : Nat} {t : TypeId} {x y : Operand} {b o : Nat} {l : List Value} {v u : Value} {bt : TypeId} (ho' : L[i]? = some ⟨d, .store t x y, ty, pos, af, none⟩) (hz : ∀ w, (sizeOf t).run P w = .ok 1 w) (hx : ev n φ x = .pointer (some ⟨b, o, none⟩)) (hy : ev n φ y = v)
    (hS : Mod b w0 w) (h : ∀ W, Mod b w0 W → W.heap.size = w.heap.size → Blk W b (l.set o v) bt → wpPlan P L.toArray Q (Mod b w0) l' (mk n (putF φ d undef) ds) W)
    (hb : Blk w b l bt := by (repeat (first | assumption | (apply Blk.ext; (· assumption)) | (apply Blk.mod; (· assumption); (· first | assumption | omega)))))
    (hu : l[o]? = some u := by rfl) (h1 : v.oneCell' = true := by rfl) : wpPlan P L.toArray Q (Mod b w0) (.eff i :: l') (mk n φ ds) w := by
  have hs := blk_setCell hb o v
  exact E_skip ho' (X_store hz hx hy h1 (hb.cell hu) (hb.unfrozen o)) (hS.trans hs.2) (h _ (hS.trans hs.2) (by simp [World.setCell]) hs.1)
end
end Go.Proofs.Ytfhilbhmkifepaa
