/- The frame of the walks: a run of a function from a list of items on, its frame told as a function of slots; no condition. -/
import Derived.Test.YtfhilbhmkifepaaProg
import Derived.WalkKit
import Derived.Deep.Quiet
import Derived.OrdersHeld
namespace Go.Proofs.Ytfhilbhmkifepaa
open Go.RowKit

abbrev Fr := Nat → Value
def mk (n : Nat) (φ : Fr) (ds : List Deferred) : Act := { tmps := Array.ofFn (n := n) fun i => φ i.val, defers := ds }
def upd (φ : Fr) (d : Nat) (v : Value) : Fr := fun t => bif Nat.beq t d then v else φ t
def putF (φ : Fr) (d : Option Nat) (v : Value) : Fr := match d with | some d => upd φ d v | none => φ
def ev (n : Nat) (φ : Fr) : Operand → Value
  | .tmp t => bif Nat.blt t n then φ t else undef
  | .const v => v
  | .global g => .pointer (some ⟨g, 0, none⟩)
  | .func f => .func (.func f) #[] #[]
def ini (l : List Value) : Fr := fun t => l.getD t undef

theorem mk_getD (n : Nat) (φ : Fr) (ds : List Deferred) (t : Nat) : (mk n φ ds).tmps.getD t undef = ev n φ (.tmp t) := by
  simp only [mk, ev]
  by_cases h : t < n
  · have : Nat.blt t n = true := by rw [Nat.blt_eq]; exact h
    simp [h, this, Array.getD]
  · have : Nat.blt t n = false := by
      cases hb : Nat.blt t n
      · rfl
      · rw [Nat.blt_eq] at hb; exact absurd hb h
    simp [h, this, Array.getD]
theorem mk_get? (n : Nat) (φ : Fr) (ds : List Deferred) (t : Nat) (h : t < n) : (mk n φ ds).tmps[t]? = some (φ t) := by
  simp [mk, h]
theorem mk_eval (n : Nat) (φ : Fr) (ds : List Deferred) : (mk n φ ds).eval = ev n φ := by
  funext x
  cases x with
  | tmp t => exact mk_getD n φ ds t
  | _ => rfl
theorem mk_ext {n : Nat} {φ ψ : Fr} (ds : List Deferred) (h : ∀ t, t < n → φ t = ψ t) : mk n φ ds = mk n ψ ds := by
  unfold mk
  congr 1
  apply Array.ext
  · simp
  · intro i h1 h2
    simp at h1
    simp [h i h1]
theorem upd_same (φ : Fr) (d : Nat) (v : Value) : upd φ d v d = v := by simp [upd]
theorem upd_ne (φ : Fr) (d t : Nat) (v : Value) (h : t ≠ d) : upd φ d v t = φ t := by
  unfold upd
  cases hb : Nat.beq t d
  · rfl
  · exact absurd (Nat.eq_of_beq_eq_true hb) h
theorem mk_put (n : Nat) (φ : Fr) (ds : List Deferred) (d : Option Nat) (v : Value) : (mk n φ ds).put d v = mk n (putF φ d v) ds := by
  cases d with
  | none => rfl
  | some d =>
    simp only [Act.put, putF, mk]
    congr 1
    apply Array.ext
    · simp
    · intro i h1 h2
      by_cases e : d = i
      · subst e; simp [upd_same]
      · rw [Array.getElem_ofFn, upd_ne _ _ _ _ (fun h => e h.symm)]
        rw [Array.getElem_setIfInBounds_ne (by simpa using h1) e, Array.getElem_ofFn]

/-- From this list of items on the function comes to an end of which R holds. -/
def Run (P : Program) (f : FuncId) (R : Ending → World → Prop) (k : List Item) (a : Act) (w : World) : Prop :=
  ∀ (b : Frame), b.fn = f → b.kind = .normal → ∀ cs, ∃ e w' fr, R e w' ∧ Comes P (lone (b.at a k) cs w) (lone fr cs w') e ∧ fr.fn = f ∧ fr.leaving P w' e

section
variable {P : Program} {f : FuncId} {R : Ending → World → Prop} {k : List Item} {a : Act} {w : World}

theorem Run.mono {R' : Ending → World → Prop} (h : Run P f R k a w) (hr : ∀ e w', R e w' → R' e w') : Run P f R' k a w :=
  fun b hb hk cs => let ⟨e, w', fr, r, rest⟩ := h b hb hk cs; ⟨e, w', fr, hr _ _ r, rest⟩

theorem calls_of_run {fn : Func} {c : Code} {args : Array Value} (hf : P.funcs[f]? = some fn) (hb : fn.body = some c) {n : Nat} (hn : fn.ntmps = n) (hs : args.size ≤ n)
    (h : Run P f R [.code c] (mk n (ini args.toList) []) w) : Calls P f args w R := by
  intro cs
  let b : Frame := { (default : Frame) with fn := f, kind := .normal }
  have hinit : (args ++ Array.replicate (fn.ntmps - args.size) undef : Array Value) = (mk n (ini args.toList) []).tmps := by
    apply Array.ext
    · simp [mk]; omega
    · intro i h1 h2
      simp [mk] at h2
      simp only [mk, Array.getElem_ofFn, ini]
      by_cases e : i < args.size
      · simp [Array.getElem_append_left, e]
      · simp [Array.getElem_append_right, Nat.le_of_not_lt e, e]
  have henter : Frame.enter P f args .normal = b.at (mk n (ini args.toList) []) [.code c] := by
    simp [Frame.enter, Frame.at, hf, hb, b, hinit]; rfl
  obtain ⟨e, w', fr, hR, hc, hfn, hl⟩ := h b rfl rfl cs
  rw [← henter] at hc
  exact ⟨e, w', fr, hR, hc, hfn, hl⟩

/-- The beginning, its arguments as a list. -/
theorem run_of {fn : Func} {c : Code} {l : List Value} (n : Nat) (hf : P.funcs[f]? = some fn) (hb : fn.body = some c) (hn : fn.ntmps = n) (hs : Nat.ble l.length n = true) (h : Run P f R [.code c] (mk n (ini l) []) w) : Calls P f l.toArray w R :=
  calls_of_run hf hb hn (by simpa using Nat.le_of_ble_eq_true hs) (by simpa using h)

theorem Run.step {m' : List Item} {a' : Act} (hs : ∀ (b : Frame) (cs : List Frame), step P (lone (b.at a k) cs w) = .next (lone (b.at a' m') cs w)) (h : Run P f R m' a' w) : Run P f R k a w := by
  intro b hb hk cs
  obtain ⟨e, w', fr, hR, hc, rest⟩ := h b hb hk cs
  exact ⟨e, w', fr, hR, .of_steps (.one (hs b cs)) hc, rest⟩

theorem run_seq {x y : Code} (h : Run P f R (.code x :: .code y :: k) a w) : Run P f R (.code (.seq x y) :: k) a w := Run.step (fun _ _ => step_seq) h
theorem run_skip (h : Run P f R k a w) : Run P f R (.code .skip :: k) a w := Run.step (fun _ _ => step_skip) h
theorem run_inBlock {id : Nat} (h : Run P f R k a w) : Run P f R (.inBlock id :: k) a w := Run.step (fun _ _ => step_inBlock) h
theorem run_inScope {c : Code} (h : Run P f R k a w) : Run P f R (.inScope c :: k) a w :=
  Run.step (fun _ _ => step_lone_go (by simp [stepG, stepG.exec, Frame.at])) h
theorem run_label {l : Nat} (h : Run P f R k a w) : Run P f R (.code (.label l) :: k) a w := Run.step (fun _ _ => step_label) h
theorem run_scope {c : Code} (h : Run P f R (.code c :: .inScope c :: k) a w) : Run P f R (.code (.scope c) :: k) a w :=
  Run.step (fun _ _ => step_lone_go (by simp [stepG, stepG.exec, Frame.at])) h
theorem run_block {id : Nat} {c : Code} (h : Run P f R (.code c :: .inBlock id :: k) a w) : Run P f R (.code (.block id c) :: k) a w := Run.step (fun _ _ => step_block) h
theorem run_loop {c : Code} (h : Run P f R (.code c :: .inLoop c :: k) a w) : Run P f R (.code (.loop c) :: k) a w := Run.step (fun _ _ => step_loop) h
theorem run_inLoop {c : Code} (h : Run P f R (.code c :: .inLoop c :: k) a w) : Run P f R (.inLoop c :: k) a w := Run.step (fun _ _ => step_inLoop) h
theorem run_exit {id : Nat} {k' : List Item} (he : exitTo id k = some k') (h : Run P f R k' a w) : Run P f R (.code (.exit id) :: k) a w := Run.step (fun _ _ => step_exit he) h
theorem run_goto {l : Nat} {k' : List Item} (he : gotoIn l k = some k') (h : Run P f R k' a w) : Run P f R (.code (.goto l) :: k) a w := Run.step (fun _ _ => step_goto he) h
end

section
variable {P : Program} {f : FuncId} {R : Ending → World → Prop} {k : List Item} {n : Nat} {φ : Fr} {ds : List Deferred} {w : World}

theorem run_cond {c : Operand} {x y : Code} {t : Bool} (h : ev n φ c = .bool t) (hr : Run P f R (.code (if t then x else y) :: k) (mk n φ ds) w) : Run P f R (.code (.cond c x y) :: k) (mk n φ ds) w :=
  Run.step (fun _ _ => step_cond (by rw [mk_eval]; exact h)) hr
theorem run_yes {c : Operand} {x y : Code} {t : Bool} (h : ev n φ c = .bool t) (ht : t = true) (hr : Run P f R (.code x :: k) (mk n φ ds) w) : Run P f R (.code (.cond c x y) :: k) (mk n φ ds) w := by
  subst ht; exact run_cond h hr
theorem run_no {c : Operand} {x y : Code} {t : Bool} (h : ev n φ c = .bool t) (ht : t = false) (hr : Run P f R (.code y :: k) (mk n φ ds) w) : Run P f R (.code (.cond c x y) :: k) (mk n φ ds) w := by
  subst ht; exact run_cond h hr
theorem run_if {c : Operand} {x y : Code} {t : Bool} (h : ev n φ c = .bool t) (h1 : t = true → Run P f R (.code x :: k) (mk n φ ds) w) (h2 : t = false → Run P f R (.code y :: k) (mk n φ ds) w) :
    Run P f R (.code (.cond c x y) :: k) (mk n φ ds) w := by
  cases t
  · exact run_no h rfl (h2 rfl)
  · exact run_yes h rfl (h1 rfl)

/-- Its end: what the results are is asked of the frame. -/
theorem run_ret {fn : Func} {v : Value} (hf : P.funcs[f]? = some fn) (hres : (results fn (mk n φ []).tmps).run P w = .ok v w) (hR : R (.returned v) w) : Run P f R (.code .ret :: k) (mk n φ []) w := by
  intro b hb hk cs
  refine ⟨.returned v, w, { b.at (mk n φ []) (.code .ret :: k) with mode := .returning }, hR, .one step_ret, hb, rfl, rfl, hk, fn, ?_, hres⟩
  show P.funcs[b.fn]? = _
  rw [hb]; exact hf
theorem run_end {fn : Func} {v : Value} (hf : P.funcs[f]? = some fn) (hres : (results fn (mk n φ []).tmps).run P w = .ok v w) (hR : R (.returned v) w) : Run P f R [] (mk n φ []) w := by
  intro b hb hk cs
  refine ⟨.returned v, w, { b.at (mk n φ []) [] with mode := .returning }, hR, .one step_end, hb, rfl, rfl, hk, fn, ?_, hres⟩
  show P.funcs[b.fn]? = _
  rw [hb]; exact hf

theorem res1 {fn : Func} {t : Tmp} {v : Value} (h : fn.results = #[.tmp t]) (hv : ev n φ (.tmp t) = v) : (results fn (mk n φ ds).tmps).run P w = .ok v w := by
  simp [results, h]; rw [← hv, ← mk_getD n φ ds t]; simp
theorem res2 {fn : Func} {t u : Tmp} {v x : Value} (h : fn.results = #[.tmp t, .tmp u]) (hv : ev n φ (.tmp t) = v) (hx : ev n φ (.tmp u) = x) : (results fn (mk n φ ds).tmps).run P w = .ok (.tuple #[v, x]) w := by
  rw [results_tmp2 h, mk_getD, mk_getD, hv, hx]
theorem res3 {fn : Func} {t u s : Tmp} {v x y : Value} (h : fn.results = #[.tmp t, .tmp u, .tmp s]) (hv : ev n φ (.tmp t) = v) (hx : ev n φ (.tmp u) = x) (hy : ev n φ (.tmp s) = y) : (results fn (mk n φ ds).tmps).run P w = .ok (.tuple #[v, x, y]) w := by
  rw [results_tmp3 h, mk_getD, mk_getD, mk_getD, hv, hx, hy]
theorem res0 {fn : Func} (h : fn.results = #[]) : (results fn (mk n φ ds).tmps).run P w = .ok (.tuple #[]) w := results_none h _ _ _

/-- What is asked behind a region. -/
def QK (P : Program) (f : FuncId) (R : Ending → World → Prop) (k : List Item) : Exit → Act → World → Prop
  | .normal, a, w => Run P f R k a w
  | .panic ch, a, w => ∀ (b : Frame), b.fn = f → b.kind = .normal → ∀ cs todo, ∃ e w' fr, R e w' ∧ Comes P (lone { b.at a todo with mode := .panicking ch } cs w) (lone fr cs w') e ∧ fr.fn = f ∧ fr.leaving P w' e
  | .outgrown, _, w => R .outgrown w
  | _, _, _ => False

/-- The same where no panic is let come. -/
def QN (P : Program) (f : FuncId) (R : Ending → World → Prop) (k : List Item) : Exit → Act → World → Prop
  | .normal, a, w => Run P f R k a w
  | .outgrown, _, w => R .outgrown w
  | _, _, _ => False
theorem qn_imp (e : Exit) (a : Act) (w : World) (h : QN P f R k e a w) : QK P f R k e a w := by
  cases e <;> first | exact h | exact h.elim

theorem run_region {a : Act} {id : Nat} {ops : Array Oper} {draw : Bool} (h : (Code.region id ops draw).wp P (QK P f R k) a w) : Run P f R (.code (.region id ops draw) :: k) a w := by
  intro b hb hk cs
  obtain ⟨e, a', w', q, arr⟩ := h b k cs
  cases e with
  | normal =>
    obtain ⟨e2, w2, fr, hR, hc, rest⟩ := q b hb hk cs
    exact ⟨e2, w2, fr, hR, .of_steps arr hc, rest⟩
  | panic ch =>
    obtain ⟨todo, hs⟩ := arr
    obtain ⟨e2, w2, fr, hR, hc, rest⟩ := q b hb hk cs todo
    exact ⟨e2, w2, fr, hR, .of_steps hs hc, rest⟩
  | outgrown =>
    refine ⟨.outgrown, w', b, q, arr.resolve_left (by simp [hk]), hb, trivial⟩
  | exit id => exact q.elim
  | goto l => exact q.elim
  | ret => exact q.elim

/-- The operations of a region, one behind the other. (A name of our own, so that nobody looks into it.) -/
def SeqL (P : Program) (ops : Array Oper) (Q : Exit → Act → World → Prop) (l : List Oper) (a : Act) (w : World) : Prop := wpList P ops Q l a w
/-- A region in the order of the text. -/
theorem run_ops {id : Nat} {l : List Oper} (h : SeqL P l.toArray (QK P f R k) l (mk n φ ds) w) : Run P f R (.code (.region id l.toArray false) :: k) (mk n φ ds) w :=
  run_region (wp_region_lit h)

section ops
variable {ops : Array Oper} {Q : Exit → Act → World → Prop} {rest : List Oper} {w' : World} {d : Option Tmp} {op : Op} {ty : TypeId} {pos : String} {af : Array Edge} {g : Option (Nat × Bool)} {v : Value}

theorem S_nil (h : Run P f R k (mk n φ ds) w) : SeqL P ops (QK P f R k) [] (mk n φ ds) w := h

theorem S_val (hx : (execOp (ev n φ) ⟨d, op, ty, pos, af, none⟩).run P w = .ok (.value v) w') (h : SeqL P ops Q rest (mk n (putF φ d v) ds) w') : SeqL P ops Q (⟨d, op, ty, pos, af, none⟩ :: rest) (mk n φ ds) w := by
  refine wpList_plain rfl fun K hK => ?_
  unfold Oper.wp
  rw [mk_eval, hx, Oper.upon_value, mk_put]
  exact hK _ _ h
theorem S_skip (hx : (execOp (ev n φ) ⟨d, op, ty, pos, af, none⟩).run P w = .ok .skip w') (h : SeqL P ops Q rest (mk n (putF φ d undef) ds) w') : SeqL P ops Q (⟨d, op, ty, pos, af, none⟩ :: rest) (mk n φ ds) w := by
  refine wpList_plain rfl fun K hK => ?_
  unfold Oper.wp
  rw [mk_eval, hx, Oper.upon_skip, mk_put]
  exact hK _ _ h
theorem S_call {cf : FuncId} {args : Array Value} {C : Ending → World → Prop} (hx : (execOp (ev n φ) ⟨d, op, ty, pos, af, none⟩).run P w = .ok (.enter cf args) w') (hc : Calls P cf args w' C)
    (h : ∀ e w'', C e w'' → ∃ v, e = .returned v ∧ SeqL P ops Q rest (mk n (putF φ d v) ds) w'') : SeqL P ops Q (⟨d, op, ty, pos, af, none⟩ :: rest) (mk n φ ds) w := by
  refine wpList_plain rfl fun K hK => ?_
  unfold Oper.wp
  rw [mk_eval, hx, Oper.upon_enter]
  refine hc.mono fun e w'' he => ?_
  obtain ⟨v, rfl, h'⟩ := h e w'' he
  simp only [mk_put]
  exact hK _ _ h'

theorem wanted_of {dg gi : Nat} {want b : Bool} (ho : (ops[gi]?).bind (·.dst) = some dg) (hd : Nat.blt dg n = true) (hv : φ dg = .bool b) :
    Region.wanted ⟨d, op, ty, pos, af, some (gi, want)⟩ (yielded ops (mk n φ ds).tmps) = (b == want) := by
  have h : (mk n φ ds).tmps[dg]? = some (.bool b) := by rw [mk_get? n φ ds dg (by rw [Nat.blt_eq] at hd; exact hd), hv]
  simp only [Region.wanted, yielded, ho, Option.bind_some, h]
  cases b <;> cases want <;> rfl
theorem lat {L : List Oper} {i : Nat} {o : Oper} (h : L[i]? = some o) : L.toArray[i]? = some o := by simpa using h
theorem lget {L : List Oper} {gi : Nat} {x : Option Tmp} (h : (L[gi]?).bind (·.dst) = x) : (L.toArray[gi]?).bind (·.dst) = x := by simpa using h
theorem S_guard_yes {L : List Oper} {dg gi : Nat} {want b : Bool} (ho' : (L[gi]?).bind (·.dst) = some dg) (hd : Nat.blt dg n = true) (hv : φ dg = .bool b) (hb : b = want)
    (h : SeqL P L.toArray Q (⟨d, op, ty, pos, af, none⟩ :: rest) (mk n φ ds) w) : SeqL P L.toArray Q (⟨d, op, ty, pos, af, some (gi, want)⟩ :: rest) (mk n φ ds) w := by
  have ho := lget ho'
  unfold SeqL wpList at h ⊢
  rw [if_pos (by simp [Region.wanted])] at h
  rw [if_pos (by rw [wanted_of ho hd hv, hb]; simp)]
  exact h
theorem S_guard_no {L : List Oper} {dg gi : Nat} {want b : Bool} (ho' : (L[gi]?).bind (·.dst) = some dg) (hd : Nat.blt dg n = true) (hv : φ dg = .bool b) (hb : b = !want)
    (h : SeqL P L.toArray Q rest (mk n (putF φ d undef) ds) w) : SeqL P L.toArray Q (⟨d, op, ty, pos, af, some (gi, want)⟩ :: rest) (mk n φ ds) w := by
  have ho := lget ho'
  unfold SeqL wpList
  rw [if_neg (by rw [wanted_of ho hd hv, hb]; cases want <;> simp), mk_put]
  exact h
theorem S_guard {L : List Oper} {dg gi : Nat} {want b : Bool} (ho : (L[gi]?).bind (·.dst) = some dg) (hd : Nat.blt dg n = true) (hv : φ dg = .bool b)
    (h1 : b = want → SeqL P L.toArray Q (⟨d, op, ty, pos, af, none⟩ :: rest) (mk n φ ds) w)
    (h2 : b = !want → SeqL P L.toArray Q rest (mk n (putF φ d undef) ds) w) : SeqL P L.toArray Q (⟨d, op, ty, pos, af, some (gi, want)⟩ :: rest) (mk n φ ds) w := by
  by_cases hb : b = want
  · exact S_guard_yes ho hd hv hb (h1 hb)
  · have hb' : b = !want := by cases b <;> cases want <;> simp_all
    exact S_guard_no ho hd hv hb' (h2 hb')
end ops

/-! ### A region that draws: its operations by a plan. held i: it yields one value in every world of the class S, and is taken first; eff i: it alone may come up; pair i j: these two may come up, and i yields one value whether j was carried out ahead of it or not. -/
inductive PE where
  | held (i : Nat)
  | eff (i : Nat)
  | pair (i j : Nat)
def wpPlan (P : Program) (ops : Array Oper) (Q : Exit → Act → World → Prop) (S : World → Prop) : List PE → Act → World → Prop
  | [], a, w => Q .normal a w
  | .held i :: l, a, w => ∃ o v, ops[i]? = some o ∧ YieldsIf P ops S o v a ∧ S w ∧ wpPlan P ops Q S l (a.put o.dst v) w
  | .eff i :: l, a, w => wpOp P ops Q i (fun a' w' => S w' ∧ wpPlan P ops Q S l a' w') a w
  | .pair i j :: l, a, w => ∃ o v T, ops[i]? = some o ∧ YieldsIf P ops T o v a ∧ T w ∧ S w ∧ wpOp P ops Q j (fun a' w' => T w' ∧ S w' ∧ wpPlan P ops Q S l a' w') (a.put o.dst v) w
def planN : List PE → Nat
  | [] => 0
  | .pair _ _ :: l => planN l + 1 + 1
  | _ :: l => planN l + 1
def planB (ops : Array Oper) : List PE → Array Bool → Bool
  | [], listed => (Region.ready .any ops listed).isEmpty
  | .held i :: l, listed => Region.free .any ops listed i && (Region.ready .any ops listed).contains i && planB ops l (listed.setIfInBounds i true)
  | .eff i :: l, listed => decide (Region.ready .any ops listed = [i]) && planB ops l (listed.setIfInBounds i true)
  | .pair i j :: l, listed => (decide (Region.ready .any ops listed = [i, j]) || decide (Region.ready .any ops listed = [j, i])) && decide (Region.ready .any ops (listed.setIfInBounds i true) = [j]) && decide (Region.ready .any ops (listed.setIfInBounds j true) = [i]) &&
      decide (i ≠ j) && (match ops[i]?, ops[j]? with | some oi, some oj => oi.apart ops oj | _, _ => false) && planB ops l ((listed.setIfInBounds i true).setIfInBounds j true)
theorem wpAnyH_of_plan {ops : Array Oper} {Q : Exit → Act → World → Prop} {S : World → Prop} (hQ : ∀ c d v a w, Q (.panic c) (Act.put a d v) w → Q (.panic c) a w) (hs : Region.noSelect ops = true) :
    ∀ (l : List PE) (listed : Array Bool) (a : Act) (w : World), planB ops l listed = true → wpPlan P ops Q S l a w → wpAnyH P .any ops Q S (planN l) listed a w
  | [], listed, a, w, hB, h => wpAnyH_done (by simpa [planB] using hB) h 0
  | .held i :: l, listed, a, w, hB, h => by
    obtain ⟨o, v, ho, hy, hS, h⟩ := h
    simp only [planB, Bool.and_eq_true] at hB
    exact wpAnyH_take ho hs hB.1.1 hB.1.2 (fun c a w => hQ c _ _ a w) hy hS (wpAnyH_of_plan hQ hs l _ _ _ hB.2 h)
  | .eff i :: l, listed, a, w, hB, h => by
    simp only [planB, Bool.and_eq_true, decide_eq_true_eq] at hB
    refine wpAnyH_all hB.1 (by simp) fun j hj => ?_
    obtain rfl : j = i := by simpa using hj
    exact wpOp_mono (fun a' w' h' => ⟨h'.1, wpAnyH_of_plan hQ hs l _ _ _ hB.2 h'.2⟩) h
  | .pair i j :: l, listed, a, w, hB, h => by
    obtain ⟨o, v, T, ho, hy, hT, hS, h⟩ := h
    simp only [planB, Bool.and_eq_true, Bool.or_eq_true, decide_eq_true_eq] at hB
    obtain ⟨⟨⟨⟨⟨hr, hri⟩, hrj⟩, hne⟩, hap⟩, hl⟩ := hB
    obtain ⟨oj, hoj⟩ : ∃ oj, ops[j]? = some oj := by
      cases h' : ops[j]? with
      | none => rw [ho, h'] at hap; cases hap
      | some oj => exact ⟨oj, rfl⟩
    rw [ho, hoj] at hap
    have hsel := Region.noSelect_spec hs
    have hi1 : wpOp P ops Q i (fun a' w' => S w' ∧ wpAnyH P .any ops Q S (planN l + 1) (listed.setIfInBounds i true) a' w') a w := by
      refine hy.wpOp ho hT ⟨hS, wpAnyH_all hri (by simp) fun x hx => ?_⟩
      obtain rfl : x = j := by simpa using hx
      exact wpOp_mono (fun a' w' h' => ⟨h'.2.1, wpAnyH_of_plan hQ hs l _ _ _ hl h'.2.2⟩) h
    have hj1 : wpOp P ops Q j (fun a' w' => S w' ∧ wpAnyH P .any ops Q S (planN l + 1) (listed.setIfInBounds j true) a' w') a w := by
      have h2 := wpOp_putIf hoj hap (fun cs b => hsel i o cs b ho) (fun cs b => hsel j oj cs b hoj) (fun c a w => hQ c _ _ a w) hy h
      refine wpOp_mono (fun a' w' h' => ?_) h2
      obtain ⟨hy', hT', hS', h3⟩ := h'
      refine ⟨hS', wpAnyH_all hrj (by simp) fun x hx => ?_⟩
      obtain rfl : x = i := by simpa using hx
      refine hy'.wpOp ho hT' ⟨hS', ?_⟩
      rw [Array.setIfInBounds_comm _ _ (Ne.symm hne)]
      exact wpAnyH_of_plan hQ hs l _ _ _ hl h3
    rcases hr with hr | hr
    · refine wpAnyH_all hr (by simp) fun x hx => ?_
      simp only [List.mem_cons, List.not_mem_nil, or_false] at hx
      rcases hx with rfl | rfl
      · exact hi1
      · exact hj1
    · refine wpAnyH_all hr (by simp) fun x hx => ?_
      simp only [List.mem_cons, List.not_mem_nil, or_false] at hx
      rcases hx with rfl | rfl
      · exact hj1
      · exact hi1

/-- Behind a region, for a function that does not catch panics: a panic's frame does not count. -/
theorem run_plan {id : Nat} {l : List Oper} (pl : List PE) (S : World → Prop) (hm : P.follows .mixedOrders = true) (hB : (Region.noSelect l.toArray && planB l.toArray pl (Array.replicate l.toArray.size false) && planN pl == l.toArray.size) = true)
    (h : wpPlan P l.toArray (QN P f R k) S pl (mk n φ ds) { w with drawn := w.drawn + 1 }) : Run P f R (.code (.region id l.toArray true) :: k) (mk n φ ds) w := by
  simp only [Bool.and_eq_true, beq_iff_eq] at hB
  refine run_region (wp_mono (wp_region_held (S := S) hm ?_) qn_imp)
  have := wpAnyH_of_plan (P := P) (Q := QN P f R k) (S := S) (fun _ _ _ _ _ h => h) hB.1.1 pl _ _ _ hB.1.2 h
  rwa [hB.2] at this
end
theorem wpPlan_nil {P : Program} {ops : Array Oper} {Q : Exit → Act → World → Prop} {S : World → Prop} {a : Act} {w : World} : wpPlan P ops Q S [] a w = Q .normal a w := rfl
theorem wpPlan_held {P : Program} {ops : Array Oper} {Q : Exit → Act → World → Prop} {S : World → Prop} {i : Nat} {l : List PE} {a : Act} {w : World} : wpPlan P ops Q S (.held i :: l) a w = ∃ o v, ops[i]? = some o ∧ YieldsIf P ops S o v a ∧ S w ∧ wpPlan P ops Q S l (a.put o.dst v) w := rfl
theorem wpPlan_eff {P : Program} {ops : Array Oper} {Q : Exit → Act → World → Prop} {S : World → Prop} {i : Nat} {l : List PE} {a : Act} {w : World} : wpPlan P ops Q S (.eff i :: l) a w = wpOp P ops Q i (fun a' w' => S w' ∧ wpPlan P ops Q S l a' w') a w := rfl
theorem wpPlan_pair {P : Program} {ops : Array Oper} {Q : Exit → Act → World → Prop} {S : World → Prop} {i j : Nat} {l : List PE} {a : Act} {w : World} : wpPlan P ops Q S (.pair i j :: l) a w = ∃ o v T, ops[i]? = some o ∧ YieldsIf P ops T o v a ∧ T w ∧ S w ∧ wpOp P ops Q j (fun a' w' => T w' ∧ S w' ∧ wpPlan P ops Q S l a' w') (a.put o.dst v) w := rfl
theorem SeqL.out {P : Program} {ops : Array Oper} {Q : Exit → Act → World → Prop} {l : List Oper} {a : Act} {w : World} (h : SeqL P ops Q l a w) : wpList P ops Q l a w := h
attribute [irreducible] Run SeqL wpPlan
end Go.Proofs.Ytfhilbhmkifepaa
