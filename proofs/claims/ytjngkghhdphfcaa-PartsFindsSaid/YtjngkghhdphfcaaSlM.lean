/- The machine's steps in a frame that may be a round of a range over a function. -/
import Derived.WalkKit
import Derived.WalkSpells
import Derived.KernelRfl
import Derived.OrdersHeld
import Derived.RangeFuncRecord
namespace Go.Sl
open Go.RowKit
set_option linter.unusedVariables false
set_option linter.unusedSimpArgs false
def atR (b : Frame) (rd : Option Nat) (a : Act) (todo : List Item) : Frame := { b.at a todo with roundOf := rd }
theorem atR_none (b : Frame) (a : Act) (todo : List Item) : atR b none a todo = b.at a todo := rfl
theorem eval_atR (b : Frame) (rd : Option Nat) (a : Act) (todo : List Item) : (atR b rd a todo).eval = a.eval := by funext x; cases x <;> rfl
theorem finish_atR (b : Frame) (rd : Option Nat) (a : Act) (ops : Array Oper) (i : Nat) (rest : List Nat) (k : List Item) (v : Value) :
    (atR b rd a (.inRegion ops (i :: rest) :: k)).finish v = atR b rd (a.put ((ops[i]?).bind (·.dst)) v) (.inRegion ops rest :: k) := by
  cases h : (ops[i]?).bind (·.dst) <;> simp [Frame.finish, atR, Frame.at, Act.put, h]
section moves
variable {P : Program} {b : Frame} {rd : Option Nat} {a : Act} {k : List Item} {cs : List Frame} {w : World}
theorem stepR_skip : step P (lone (atR b rd a (.code .skip :: k)) cs w) = .next (lone (atR b rd a k) cs w) := step_lone_go (by simp [stepG, stepG.exec, atR, Frame.at])
theorem stepR_inBlock {id : Nat} : step P (lone (atR b rd a (.inBlock id :: k)) cs w) = .next (lone (atR b rd a k) cs w) := step_lone_go (by simp [stepG, stepG.exec, atR, Frame.at])
theorem stepR_seq {x y : Code} : step P (lone (atR b rd a (.code (.seq x y) :: k)) cs w) = .next (lone (atR b rd a (.code x :: .code y :: k)) cs w) := step_lone_go (by simp [stepG, stepG.exec, atR, Frame.at])
theorem stepR_cond {c : Operand} {x y : Code} {t : Bool} (h : a.eval c = .bool t) : step P (lone (atR b rd a (.code (.cond c x y) :: k)) cs w) = .next (lone (atR b rd a (.code (if t then x else y) :: k)) cs w) :=
  step_lone_go (by
    have := congrFun (eval_atR b rd a (.code (.cond c x y) :: k)) c
    simp only [atR, Frame.at] at this
    simp [stepG, stepG.exec, atR, Frame.at, this, h])
theorem stepR_block {id : Nat} {c : Code} : step P (lone (atR b rd a (.code (.block id c) :: k)) cs w) = .next (lone (atR b rd a (.code c :: .inBlock id :: k)) cs w) := step_lone_go (by simp [stepG, stepG.exec, atR, Frame.at])
theorem stepR_loop {c : Code} : step P (lone (atR b rd a (.code (.loop c) :: k)) cs w) = .next (lone (atR b rd a (.code c :: .inLoop c :: k)) cs w) := step_lone_go (by simp [stepG, stepG.exec, atR, Frame.at])
theorem stepR_inLoop {c : Code} : step P (lone (atR b rd a (.inLoop c :: k)) cs w) = .next (lone (atR b rd a (.code c :: .inLoop c :: k)) cs w) := step_lone_go (by simp [stepG, stepG.exec, atR, Frame.at])
theorem stepR_exit {id : Nat} {k' : List Item} (h : exitTo id k = some k') : step P (lone (atR b rd a (.code (.exit id) :: k)) cs w) = .next (lone (atR b rd a k') cs w) := step_lone_go (by simp [stepG, stepG.exec, atR, Frame.at, h])
theorem stepR_region {id : Nat} {ops : Array Oper} : step P (lone (atR b rd a (.code (.region id ops false) :: k)) cs w) = .next (lone (atR b rd a (.inRegion ops (List.range ops.size) :: k)) cs w) := step_lone_go (by simp [stepG, stepG.exec, atR, Frame.at])
theorem stepR_region_draw {id : Nat} {ops : Array Oper} : step P (lone (atR b rd a (.code (.region id ops true) :: k)) cs w) =
      .next (lone (atR b rd a (.inRegion ops (Region.schedule (P.follows .mixedOrders) ops (w.tape w.drawn (.order b.fn id))) :: k)) cs { w with drawn := w.drawn + 1 }) :=
  step_lone_go (by simp [stepG, stepG.exec, atR, Frame.at, choose, Sem.run, Question.forced, Question.cut])
theorem stepR_region_end {ops : Array Oper} : step P (lone (atR b rd a (.inRegion ops [] :: k)) cs w) = .next (lone (atR b rd a k) cs w) := step_lone_go (by simp [stepG, stepG.exec, atR, Frame.at])
variable {ops : Array Oper}
theorem stepR_op_skip {i : Nat} {rest : List Nat} (h : ((ops[i]?).map (Region.wanted · (yielded ops a.tmps))).getD false = false) :
    step P (lone (atR b rd a (.inRegion ops (i :: rest) :: k)) cs w) = .next (lone (atR b rd (a.put ((ops[i]?).bind (·.dst)) undef) (.inRegion ops rest :: k)) cs w) := by
  rw [← finish_atR]
  exact step_lone_go (by
    have h' := h
    simp only [atR, Frame.at] at *
    simp [stepG, stepG.exec, h'])
/-- A round asks for no deferred call. -/
def noDefer (rd : Option Nat) (ops : Array Oper) : Bool := match rd with
  | none => true
  | some _ => ops.toList.all fun o => match o.op with
    | .defer _ => false
    | _ => true
theorem stepGR_op {i : Nat} {rest : List Nat} {o : Oper} (ho : ops[i]? = some o) (hn : noDefer rd ops = true) (hw : Region.wanted o (yielded ops a.tmps) = true) :
    stepG P true { frame := atR b rd a (.inRegion ops (i :: rest) :: k), callers := cs, status := .running, dying := none } w =
      stepG.apply P true (atR b rd a (.inRegion ops (i :: rest) :: k)) cs none (execOp a.eval o) w := by
  have he := eval_atR b rd a (.inRegion ops (i :: rest) :: k)
  cases rd with
  | none =>
    have := stepG_op (P := P) (b := b) (k := k) (cs := cs) (w := w) (rest := rest) ho hw
    exact this
  | some l =>
    have hd : (match o.op with | .defer _ => false | _ => true) = true := by
      have hm : o ∈ ops.toList := by
        rw [Array.mem_toList_iff]; exact Array.mem_of_getElem? ho
      simp only [noDefer, List.all_eq_true] at hn
      exact hn o hm
    simp only [atR, Frame.at] at he
    cases hop : o.op <;> simp [hop] at hd <;> simp [stepG, stepG.exec, stepG.oper, Frame.oper?, atR, Frame.at, ho, hw, he, hop]
/-- One operation, carried out. -/
theorem opR {i : Nat} {rest : List Nat} {K : Act → World → Prop} {R : Act → World → Prop} (hn : noDefer rd ops = true) (h : wpOp P ops (fun e a w => e = .normal ∧ R a w) i K a w) :
    ∃ a' w', K a' w' ∧ Steps P (lone (atR b rd a (.inRegion ops (i :: rest) :: k)) cs w) (lone (atR b rd a' (.inRegion ops rest :: k)) cs w') := by
  simp only [wpOp] at h
  cases ho : ops[i]? with
  | none =>
    simp only [ho] at h
    refine ⟨a, w, h, ?_⟩
    have hs := stepR_op_skip (P := P) (b := b) (rd := rd) (a := a) (k := k) (cs := cs) (w := w) (ops := ops) (i := i) (rest := rest) (by simp [ho])
    simp only [ho, Option.bind_none, Act.put] at hs
    exact .one hs
  | some o =>
    simp only [ho] at h
    by_cases hw : Region.wanted o (yielded ops a.tmps) = true
    · simp only [hw, if_true] at h
      rcases h with h | ⟨_, a₀, w₀, hq, _⟩
      case inr => cases hq
      simp only [Oper.wp, Oper.upon] at h
      have hg := stepGR_op (P := P) (b := b) (k := k) (cs := cs) (w := w) (rest := rest) ho hn hw
      have hfin : ∀ v, (atR b rd a (.inRegion ops (i :: rest) :: k)).finish v = atR b rd (a.put o.dst v) (.inRegion ops rest :: k) := by
        intro v; rw [finish_atR, ho]; rfl
      split at h
      · rename_i v w' hr
        refine ⟨_, _, h, .one (step_lone_go ?_)⟩
        rw [hg, ← hfin]; simp [stepG.apply, hr]
      · rename_i w' hr
        refine ⟨_, _, h, .one (step_lone_go ?_)⟩
        rw [hg, ← hfin]; simp [stepG.apply, hr]
      · rename_i d w' hr
        refine ⟨_, _, h, .one (step_lone_go ?_)⟩
        have : ({ atR b rd a (.inRegion ops (i :: rest) :: k) with defers := d :: a.defers } : Frame).finish undef =
            atR b rd ({ a with defers := d :: a.defers }.put o.dst undef) (.inRegion ops rest :: k) := by
          have := finish_atR b rd { a with defers := d :: a.defers } ops i rest k undef
          rw [ho] at this; exact this
        rw [hg]; simp only [stepG.apply, Sem.runT_eq, hr, GStep.bare_after]
        exact congrArg (fun fr => GStep.go { frame := fr, callers := cs, status := .running, dying := none } w') this
      · rename_i f args w' hr
        obtain ⟨e, w'', fr, hR, hsteps, _, hleave⟩ := h (atR b rd a (.inRegion ops (i :: rest) :: k) :: cs)
        have henter : step P (lone (atR b rd a (.inRegion ops (i :: rest) :: k)) cs w) =
            .next (lone (Frame.enter P f args .normal) (atR b rd a (.inRegion ops (i :: rest) :: k) :: cs) w') :=
          step_lone_go (by rw [hg]; simp [stepG.apply, hr, atR, Frame.at])
        cases e with
        | returned v =>
          refine ⟨_, _, hR, .head henter (hsteps.trans (.one ?_))⟩
          rw [← hfin]; exact step_leave_returned hleave
        | panicked chain => cases hR.1
        | outgrown => obtain ⟨a₀, w₀, hq, _⟩ := hR; cases hq
      · rename_i row args w' hr
        obtain ⟨v, w'', hR, hsteps⟩ := h (atR b rd a (.inRegion ops (i :: rest) :: k)) cs
        have henter : step P (lone (atR b rd a (.inRegion ops (i :: rest) :: k)) cs w) =
            .next (lone (Frame.ofRow P row args .normal) (atR b rd a (.inRegion ops (i :: rest) :: k) :: cs) w') :=
          step_lone_go (by rw [hg]; simp [stepG.apply, hr, atR, Frame.at])
        refine ⟨_, _, hR, .head henter ?_⟩
        rw [← hfin]; exact hsteps
      · rename_i v w' hr
        cases h.1
      · exact h.elim
    · simp only [hw, if_false, Bool.false_eq_true] at h
      refine ⟨_, _, h, .one ?_⟩
      have hs := stepR_op_skip (P := P) (b := b) (rd := rd) (a := a) (k := k) (cs := cs) (w := w) (ops := ops) (i := i) (rest := rest) (by simp [ho]; simpa using hw)
      simpa [ho] using hs
/-- Operations, one behind the other. -/
theorem opsR {R : Act → World → Prop} (hn : noDefer rd ops = true) : ∀ (l : List Nat) (a : Act) (w : World), wpOps P ops (fun e a w => e = .normal ∧ R a w) l a w →
    ∃ a' w', R a' w' ∧ Steps P (lone (atR b rd a (.inRegion ops l :: k)) cs w) (lone (atR b rd a' k) cs w')
  | [], a, w, h => ⟨a, w, h.2, .one stepR_region_end⟩
  | i :: l, a, w, h => by
    rw [wpOps_cons] at h
    obtain ⟨a1, w1, h1, s1⟩ := opR (b := b) (k := k) (cs := cs) (rest := l) hn h
    obtain ⟨a2, w2, h2, s2⟩ := opsR hn l a1 w1 h1
    exact ⟨a2, w2, h2, s1.trans s2⟩
/-! ### A range over a function -/
theorem stepR_beginRound {l : Nat} {r : Loop} (h : w.heap[l]? = some (.loop r)) (hr : r.state = .ready) :
    step P (lone (atR b (some l) a (.beginRound :: k)) cs w) = .next (lone (atR b (some l) a k) cs (w.putObj l (.loop { r with state := .busy }))) :=
  step_lone_go (by
    have := run_beginRound (P := P) h hr
    simp [stepG, stepG.exec, stepG.apply, atR, Frame.at, this, Frame.finish])
theorem stepR_roundEnd {l : Nat} {r : Loop} {c : Frame} (hk : b.kind = .normal) (h : w.heap[l]? = some (.loop r)) :
    step P (lone (atR b (some l) a []) (c :: cs) w) = .next (lone (c.finish (.bool true)) cs (w.putObj l (.loop { r with state := .ready, pending := none }))) :=
  step_lone_go (by
    have := run_endRound (P := P) none h
    simp [stepG, stepG.exec, atR, Frame.at, this, doReturn, hk])
theorem stepR_rangeFunc {t : Tmp} {ps : Array Tmp} {assign body : Code} {gf : Nat} {lb : Array Value} (hg : a.tmps.getD t undef = .func (.func gf) #[] lb) (he : ∀ args w, (callFunc gf args).run P w = .ok (.enter gf args) w) :
    step P (lone (atR b none a (.code (.rangeFunc (.tmp t) ps assign body) :: k)) cs w) =
      .next (lone (Frame.enter P gf (#[.func (.yield (w.heap.size + 1)) #[] #[]] ++ lb) .normal) (atR b none { a with defers := { target := .collected w.heap.size, args := #[] } :: a.defers } (.inRangeFunc (w.heap.size + 1) :: k) :: cs)
        ((w.alloc (.deferred (some []))).alloc (.loop { state := .ready, pending := none, fn := b.fn, tmps := a.tmps, params := ps, assign, body, defers := w.heap.size }))) :=
  step_lone_go (by
    have h1 := run_enterLoop_outer (P := P) (w := w) b.fn a.tmps ps assign body
    rw [Array.getD_eq_getD_getElem?] at hg
    have e1 : (#[] : Array Value).push (.func (.yield (w.heap.size + 1)) #[] #[]) ++ lb = #[.func (.yield (w.heap.size + 1)) #[] #[]] ++ lb := rfl
    simp [stepG, stepG.exec, atR, Frame.at, h1, stepG.apply, resolve, Deferred.ofValue, invoke, he, Frame.eval, hg, e1])
theorem stepR_endRangeFunc {l : Nat} {r : Loop} (h : w.heap[l]? = some (.loop r)) (hs : r.state ≠ .busy) (hp : r.pending = none) :
    step P (lone (atR b none a (.endRangeFunc l :: k)) cs w) = .next (lone (atR b none a k) cs (w.putObj l (.loop { r with state := .exhausted }))) :=
  step_lone_go (by
    have := run_endLoop (P := P) h hs
    simp [stepG, stepG.exec, atR, Frame.at, this, hp])
theorem round_atR (l : Nat) (f : FuncId) (tm : Array Value) (assign body : Code) : Frame.round l f tm assign body .normal = atR { (default : Frame) with fn := f, kind := .normal } (some l) { tmps := tm, defers := [] } [.code assign, .beginRound, .code body] := rfl
theorem stepR_yield {i : Nat} {rest : List Nat} {o : Oper} {l : Nat} {f : FuncId} {tm : Array Value} {assign body : Code} (ho : ops[i]? = some o) (hn : noDefer rd ops = true) (hw : Region.wanted o (yielded ops a.tmps) = true) (hr : (execOp a.eval o).run P w = .ok (.round l f tm assign body) w) :
    step P (lone (atR b rd a (.inRegion ops (i :: rest) :: k)) cs w) = .next (lone (Frame.round l f tm assign body .normal) (atR b rd a (.inRegion ops (i :: rest) :: k) :: cs) w) :=
  step_lone_go (by rw [stepGR_op ho hn hw]; simp [stepG.apply, hr, atR, Frame.at])
theorem step_collected {fr : Frame} {bk : Nat} {ds : List Deferred} (hm : fr.mode = .returning) (hd : fr.defers = { target := .collected bk, args := #[] } :: ds) (h : w.heap[bk]? = some (.deferred (some []))) :
    step P (lone fr cs w) = .next (lone { fr with defers := ds } cs (w.putObj bk (.deferred none))) :=
  step_lone_go (by
    have := run_takeDeferred (P := P) h
    simp [stepG, hm, unwind, hd, this])
end moves
end Go.Sl
