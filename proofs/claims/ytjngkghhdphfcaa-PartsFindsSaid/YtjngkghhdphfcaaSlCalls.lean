/- A part of the proof: words and contracts that the row is built on. -/
import Derived.Test.YtjngkghhdphfcaaSlOps
namespace Go.Sl
open Go.RowKit
set_option linter.unusedVariables false
set_option linter.unusedSimpArgs false

def evs (L : List (Nat × Value)) : List Operand → Option (List Value)
  | [] => some []
  | x :: r => match ev L x, evs L r with
    | some v, some vs => some (v :: vs)
    | _, _ => none
theorem evs_inv {L : List (Nat × Value)} {N : FN} {a : Act} (ha : Fr N L a) : ∀ {xs : List Operand} {vs : List Value}, evs L xs = some vs → xs.map a.eval = vs
  | [], vs, h => by simp [evs] at h; subst h; rfl
  | x :: r, vs, h => by
    simp only [evs] at h
    split at h
    · rename_i v us hv hus
      simp only [Option.some.injEq] at h
      subst h
      simp [ha.ev hv, evs_inv ha hus]
    · cases h
/-- A function with a text. -/
def entB (P : Program) (f : Nat) : Bool := match P.funcs[f]? with
  | some fn => !(fn.name == "runtime.NumGoroutine") && fn.body.isSome
  | none => false
theorem run_callFunc {P : Program} {f : Nat} (h : entB P f = true) (args : Array Value) (w : World) : (callFunc f args).run P w = .ok (.enter f args) w := by
  unfold entB at h
  split at h
  · rename_i fn hf
    simp only [Bool.and_eq_true, Bool.not_eq_true'] at h
    have hb : fn.body.isNone = false := by cases hc : fn.body <;> simp [hc] at h ⊢
    unfold callFunc
    rw [Sem.run_bind]
    simp only [program, Sem.run, Result.andThen_ok, hf, h.1, hb, Bool.false_eq_true, if_false]
    rfl
  · cases h

/-- A contract: with these chunks handed in, what the call answers, what is known of it, the chunks that are handed back. -/
def Ct (P : Program) (f : Nat) (args : List Value) (Hin : List Chunk) (w : World) {X : Type} (val : X → Value) (Q : X → Prop) (Hn : X → List Chunk) : Prop :=
  Hp (fun _ => True) w Hin → Calls P f args.toArray w fun e w' => ∃ x, e = .returned (val x) ∧ Q x ∧ Upd w w' (bl Hin) (Hn x)

section
variable {c : Cx} {ops : Array Oper} {i : Nat} {K : Act → World → Prop} {T : List Item} {L : List (Nat × Value)} {H : List Chunk}
/-- The root of the calls. -/
theorem sr_enter {d : Nat} {op : Op} {ty : TypeId} {pos : String} {aft : Array Edge} {g : Option (Nat × Bool)} (ho : ops[i]? = some ⟨some d, op, ty, pos, aft, g⟩) (hw : wants ops L g = some true) (hN : Nat.blt d c.N = true) {f : Nat} {vs : List Value} (ks : List Nat) {Hin : List Chunk} (hk : pickH H ks = some Hin)
    (hr : ∀ a w, Fr c.F L a → Heap c.w0 c.G H w → (execOp a.eval ⟨some d, op, ty, pos, aft, g⟩).run c.P w = .ok (.enter f vs.toArray) w) {X : Type} {val : X → Value} {Q : X → Prop} {Hn : X → List Chunk} (hc : ∀ w, Heap c.w0 c.G H w → Ct c.P f vs Hin w val Q Hn)
    (h : ∀ x, Q x → Rk c K ((d, val x) :: L) (Hn x ++ dropH H ks)) : Rk c (wpOp c.P ops (QN c T) i K) L H := fun a w ha hh => by
  simp only [wpOp, ho]
  rw [ha.wants (o := ⟨some d, op, ty, pos, aft, g⟩) hw]
  simp only [if_true]
  refine .inl ?_
  unfold Oper.wp
  rw [hr a w ha hh]
  refine (hc w hh ((hh.hp.pickH hk).weaken fun _ _ _ => trivial)).mono ?_
  rintro e w' ⟨x, rfl, hq, hg⟩
  exact h x hq _ _ (ha.put hN _) (hh.call ks hk hg)
section
variable {d : Nat} {xs : Array Operand} {ats : Array TypeId} {ty : TypeId} {pos : String} {aft : Array Edge} {g : Option (Nat × Bool)} {f : Nat} {vs : List Value}
theorem run_call {a : Act} {w : World} (ha : Fr c.F L a) (hx : evs L xs.toList = some vs) (hf : entB c.P f = true) : (execOp a.eval ⟨some d, .call ⟨.value (.func f), xs, ats⟩, ty, pos, aft, g⟩).run c.P w = .ok (.enter f vs.toArray) w := by
  have hxs : xs.map a.eval = vs.toArray := by rw [← evs_inv ha hx, ← List.map_toArray]
  simp only [execOp, resolve, Act.eval, Deferred.ofValue, hxs]
  rw [Sem.run_bind, Sem.run_pure]
  simp only [Result.andThen_ok, invoke]
  have : ((#[] ++ vs.toArray : Array Value) ++ #[]) = vs.toArray := by simp
  rw [this]
  exact run_callFunc hf _ _
theorem run_callV {a : Act} {w : World} {y : Operand} {cs : Array Value} (ha : Fr c.F L a) (hy : ev L y = some (.func (.func f) #[] cs)) (hx : evs L xs.toList = some vs) (hf : entB c.P f = true) : (execOp a.eval ⟨some d, .call ⟨.value y, xs, ats⟩, ty, pos, aft, g⟩).run c.P w = .ok (.enter f (vs ++ cs.toList).toArray) w := by
  have hxs : xs.map a.eval = vs.toArray := by rw [← evs_inv ha hx, ← List.map_toArray]
  simp only [execOp, resolve, ha.ev hy, Deferred.ofValue, hxs]
  rw [Sem.run_bind, Sem.run_pure]
  simp only [Result.andThen_ok, invoke]
  have : ((#[] ++ vs.toArray : Array Value) ++ cs) = (vs ++ cs.toList).toArray := by simp
  rw [this]
  exact run_callFunc hf _ _
theorem run_invoke {a : Act} {w : World} {y : Operand} {m : String} {t : TypeId} {u r : Value} (ha : Fr c.F L a) (hy : ev L y = some (.iface t u)) (hx : evs L xs.toList = some vs) (hm : ∀ w, (method (c.P.types.size + Made.depth) t u m).run c.P w = .ok (f, r) w) (hf : entB c.P f = true) :
    (execOp a.eval ⟨some d, .call ⟨.invoke y m, xs, ats⟩, ty, pos, aft, g⟩).run c.P w = .ok (.enter f (r :: vs).toArray) w := by
  have hxs : xs.map a.eval = vs.toArray := by rw [← evs_inv ha hx, ← List.map_toArray]
  simp only [execOp, resolve, ha.ev hy, hxs]
  rw [Sem.run_bind, Sem.run_pure]
  simp only [Result.andThen_ok, invoke]
  have e1 : (#[Value.iface t u] ++ vs.toArray)[0]? = some (.iface t u) := by simp
  rw [e1]
  have e2 : (#[Value.iface t u] ++ vs.toArray).extract 1 (#[Value.iface t u] ++ vs.toArray).size = vs.toArray := by simp
  simp only [e2, callMethod]
  rw [Sem.run_bind]
  simp only [program, Sem.run, Result.andThen_ok]
  rw [Sem.run_bind, hm w]
  simp only [Result.andThen_ok]
  have : (#[r] ++ vs.toArray) = (r :: vs).toArray := by simp
  rw [this]
  exact run_callFunc hf _ _
theorem sr_callM (ks : List Nat) {Hin : List Chunk} (ho : ops[i]? = some ⟨some d, .call ⟨.value (.func f), xs, ats⟩, ty, pos, aft, g⟩) (hw : wants ops L g = some true) (hN : Nat.blt d c.N = true)
    (hx : evs L xs.toList = some vs) (hf : entB c.P f = true) (hk : pickH H ks = some Hin) {X : Type} {val : X → Value} {Q : X → Prop} {Hn : X → List Chunk} (hc : ∀ w, Heap c.w0 c.G H w → Ct c.P f vs Hin w val Q Hn) (h : ∀ x, Q x → Rk c K ((d, val x) :: L) (Hn x ++ dropH H ks)) : Rk c (wpOp c.P ops (QN c T) i K) L H :=
  sr_enter ho hw hN ks hk (fun a w ha hh => run_call ha hx hf) hc h
theorem sr_call (ho : ops[i]? = some ⟨some d, .call ⟨.value (.func f), xs, ats⟩, ty, pos, aft, g⟩) (hw : wants ops L g = some true) (hN : Nat.blt d c.N = true)
    (hx : evs L xs.toList = some vs) (hf : entB c.P f = true) {X : Type} {val : X → Value} {Q : X → Prop} {Hn : X → List Chunk} (hc : ∀ w, Heap c.w0 c.G H w → Ct c.P f vs [] w val Q Hn) (h : ∀ x, Q x → Rk c K ((d, val x) :: L) (Hn x ++ H)) : Rk c (wpOp c.P ops (QN c T) i K) L H := sr_callM [] ho hw hN hx hf rfl hc h
/-- A closure's call: its captured values come behind the arguments. -/
theorem sr_callVM {y : Operand} {cs : Array Value} (ks : List Nat) {Hin : List Chunk} (ho : ops[i]? = some ⟨some d, .call ⟨.value y, xs, ats⟩, ty, pos, aft, g⟩) (hw : wants ops L g = some true) (hN : Nat.blt d c.N = true)
    (hy : ev L y = some (.func (.func f) #[] cs)) (hx : evs L xs.toList = some vs) (hf : entB c.P f = true) (hk : pickH H ks = some Hin) {X : Type} {val : X → Value} {Q : X → Prop} {Hn : X → List Chunk} (hc : ∀ w, Heap c.w0 c.G H w → Ct c.P f (vs ++ cs.toList) Hin w val Q Hn) (h : ∀ x, Q x → Rk c K ((d, val x) :: L) (Hn x ++ dropH H ks)) : Rk c (wpOp c.P ops (QN c T) i K) L H :=
  sr_enter ho hw hN ks hk (fun a w ha hh => run_callV ha hy hx hf) hc h
theorem sr_callV {y : Operand} {cs : Array Value} (ho : ops[i]? = some ⟨some d, .call ⟨.value y, xs, ats⟩, ty, pos, aft, g⟩) (hw : wants ops L g = some true) (hN : Nat.blt d c.N = true)
    (hy : ev L y = some (.func (.func f) #[] cs)) (hx : evs L xs.toList = some vs) (hf : entB c.P f = true) {X : Type} {val : X → Value} {Q : X → Prop} {Hn : X → List Chunk} (hc : ∀ w, Heap c.w0 c.G H w → Ct c.P f (vs ++ cs.toList) [] w val Q Hn) (h : ∀ x, Q x → Rk c K ((d, val x) :: L) (Hn x ++ H)) : Rk c (wpOp c.P ops (QN c T) i K) L H := sr_callVM [] ho hw hN hy hx hf rfl hc h
theorem sr_invokeM {y : Operand} {m : String} {t : TypeId} {u r : Value} (ks : List Nat) {Hin : List Chunk} (ho : ops[i]? = some ⟨some d, .call ⟨.invoke y m, xs, ats⟩, ty, pos, aft, g⟩) (hw : wants ops L g = some true) (hN : Nat.blt d c.N = true)
    (hy : ev L y = some (.iface t u)) (hx : evs L xs.toList = some vs) (hm : ∀ w, (method (c.P.types.size + Made.depth) t u m).run c.P w = .ok (f, r) w) (hf : entB c.P f = true) (hk : pickH H ks = some Hin) {X : Type} {val : X → Value} {Q : X → Prop} {Hn : X → List Chunk} (hc : ∀ w, Heap c.w0 c.G H w → Ct c.P f (r :: vs) Hin w val Q Hn) (h : ∀ x, Q x → Rk c K ((d, val x) :: L) (Hn x ++ dropH H ks)) : Rk c (wpOp c.P ops (QN c T) i K) L H :=
  sr_enter ho hw hN ks hk (fun a w ha hh => run_invoke ha hy hx hm hf) hc h
theorem sr_invoke {y : Operand} {m : String} {t : TypeId} {u r : Value} (ho : ops[i]? = some ⟨some d, .call ⟨.invoke y m, xs, ats⟩, ty, pos, aft, g⟩) (hw : wants ops L g = some true) (hN : Nat.blt d c.N = true)
    (hy : ev L y = some (.iface t u)) (hx : evs L xs.toList = some vs) (hm : ∀ w, (method (c.P.types.size + Made.depth) t u m).run c.P w = .ok (f, r) w) (hf : entB c.P f = true) {X : Type} {val : X → Value} {Q : X → Prop} {Hn : X → List Chunk} (hc : ∀ w, Heap c.w0 c.G H w → Ct c.P f (r :: vs) [] w val Q Hn) (h : ∀ x, Q x → Rk c K ((d, val x) :: L) (Hn x ++ H)) : Rk c (wpOp c.P ops (QN c T) i K) L H := sr_invokeM [] ho hw hN hy hx hm hf rfl hc h
end

/-! ### Contracts: opening and closing -/
theorem Ct.of_st {P : Program} {f : FuncId} {fn : Func} {code : Code} {args : List Value} {Hin : List Chunk} {w : World} {X : Type} {val : X → Value} {Q : X → Prop} {Hn : X → List Chunk} {L : List (Nat × Value)}
    (hf : P.funcs[f]? = some fn) (hb : fn.body = some code) (hn : Nat.ble args.length fn.ntmps = true) (hL : SubL L (args.zipIdx.map fun (v, i) => (i, v)))
    (h : St ⟨P, f, fn.ntmps, fun e w' => ∃ x, e = .returned (val x) ∧ Q x ∧ Upd w w' (bl Hin) (Hn x), w, bl Hin, [], none⟩ [.code code] L Hin) : Ct P f args Hin w val Q Hn := fun hp =>
  calls_of_st hf hb (by simpa [Nat.ble_eq] using hn) (by simpa using hL) _ _ (Heap.startM hp) h

section
variable {fn : Func} {X : Type} {val : X → Value} {Q : X → Prop} {Hn : X → List Chunk} {P : Program} {f N : Nat} {w0 : World} {G : List Nat}
theorem st_retC {t : Tmp} {v : Value} (x : X) (ks : List Nat) (hf : P.funcs[f]? = some fn) (hr : fn.results = #[.tmp t]) (hv : lk L t = some v) (he : v = val x) (hq : Q x) (hk : pickH H ks = some (Hn x)) :
    St ⟨P, f, N, fun e w' => ∃ x, e = .returned (val x) ∧ Q x ∧ Upd w0 w' G (Hn x), w0, G, [], none⟩ (.code .ret :: T) L H :=
  st_ret rfl rfl hf hr hv fun w hw => ⟨x, by rw [he], hq, hw.gives ks hk⟩
theorem st_retC2 {t u : Tmp} {v v' : Value} (x : X) (ks : List Nat) (hf : P.funcs[f]? = some fn) (hr : fn.results = #[.tmp t, .tmp u]) (hv : lk L t = some v) (hu : lk L u = some v') (he : val x = .tuple #[v, v']) (hq : Q x) (hk : pickH H ks = some (Hn x)) :
    St ⟨P, f, N, fun e w' => ∃ x, e = .returned (val x) ∧ Q x ∧ Upd w0 w' G (Hn x), w0, G, [], none⟩ (.code .ret :: T) L H :=
  st_ret2 rfl rfl hf hr hv hu fun w hw => ⟨x, by rw [he], hq, hw.gives ks hk⟩
theorem st_retC0 (x : X) (ks : List Nat) (hf : P.funcs[f]? = some fn) (hr : fn.results = #[]) (he : val x = .tuple #[]) (hq : Q x) (hk : pickH H ks = some (Hn x)) :
    St ⟨P, f, N, fun e w' => ∃ x, e = .returned (val x) ∧ Q x ∧ Upd w0 w' G (Hn x), w0, G, [], none⟩ (.code .ret :: T) L H :=
  st_ret0 rfl rfl hf hr fun w hw => ⟨x, by rw [he], hq, hw.gives ks hk⟩
theorem st_endC0 (x : X) (ks : List Nat) (hf : P.funcs[f]? = some fn) (hr : fn.results = #[]) (he : val x = .tuple #[]) (hq : Q x) (hk : pickH H ks = some (Hn x)) :
    St ⟨P, f, N, fun e w' => ∃ x, e = .returned (val x) ∧ Q x ∧ Upd w0 w' G (Hn x), w0, G, [], none⟩ [] L H :=
  st_end0 rfl rfl hf hr fun w hw => ⟨x, by rw [he], hq, hw.gives ks hk⟩
end
/-- A contract serves where it says more. -/
theorem Ct.mono {P : Program} {f : Nat} {args : List Value} {Hin : List Chunk} {w : World} {X Y : Type} {val : X → Value} {Q : X → Prop} {Hn : X → List Chunk} {val' : Y → Value} {Q' : Y → Prop} {Hn' : Y → List Chunk} (h : Ct P f args Hin w val Q Hn)
    (k : ∀ x w', Q x → Upd w w' (bl Hin) (Hn x) → ∃ y, val x = val' y ∧ Q' y ∧ Upd w w' (bl Hin) (Hn' y)) : Ct P f args Hin w val' Q' Hn' := fun hp =>
  Calls.mono (h hp) fun e w' ⟨x, he, hq, hg⟩ => let ⟨y, hy, hq', hg'⟩ := k x w' hq hg; ⟨y, by rw [he, hy], hq', hg'⟩

/-! ### Numbers -/
theorem wrap_i64 {a : Int} (h0 : -9223372036854775808 ≤ a) (h1 : a ≤ 9223372036854775807) : IntKind.i64.wrap a = a := IntWalk.i64_in a (by omega)
section
variable {P : Program}
theorem b_bin {op : BinOp} {t : TypeId} {x y : Operand} {k k' : IntKind} {a b : Int} {v : Value} {w : World} (h : (binOp op t (.int k a) (.int k' b)).run P w = .ok v w) : (do eqGuard op t x y (.int k a) (.int k' b); binOp op t (.int k a) (.int k' b) : Sem Value).run P w = .ok v w := by
  rw [eqGuard_at_int]; exact h
variable {t : TypeId} {x y : Operand} {a b : Int}
theorem b_addI (h0 : -9223372036854775808 ≤ a + b) (h1 : a + b ≤ 9223372036854775807) : ∀ w, (do eqGuard .add t x y (.int .i64 a) (.int .i64 b); binOp .add t (.int .i64 a) (.int .i64 b) : Sem Value).run P w = .ok (.int .i64 (a + b)) w := fun w => b_bin (by
  rw [binOp_add]; simp only [Op.intArith, Sem.run_pure, wrap_i64 h0 h1])
theorem b_subI (h0 : -9223372036854775808 ≤ a - b) (h1 : a - b ≤ 9223372036854775807) : ∀ w, (do eqGuard .sub t x y (.int .i64 a) (.int .i64 b); binOp .sub t (.int .i64 a) (.int .i64 b) : Sem Value).run P w = .ok (.int .i64 (a - b)) w := fun w => b_bin (by
  rw [binOp_sub]; simp only [Op.intArith, Sem.run_pure, wrap_i64 h0 h1])
theorem b_mulI (h0 : -9223372036854775808 ≤ a * b) (h1 : a * b ≤ 9223372036854775807) : ∀ w, (do eqGuard .mul t x y (.int .i64 a) (.int .i64 b); binOp .mul t (.int .i64 a) (.int .i64 b) : Sem Value).run P w = .ok (.int .i64 (a * b)) w := fun w => b_bin (by
  rw [binOp_mul]; simp only [Op.intArith, Sem.run_pure, wrap_i64 h0 h1])
theorem b_lss {k : IntKind} : ∀ w, (do eqGuard .lss t x y (.int k a) (.int k b); binOp .lss t (.int k a) (.int k b) : Sem Value).run P w = .ok (.bool (decide (a < b))) w := fun w => b_bin (by rw [binOp_lss]; rfl)
theorem b_leq {k : IntKind} : ∀ w, (do eqGuard .leq t x y (.int k a) (.int k b); binOp .leq t (.int k a) (.int k b) : Sem Value).run P w = .ok (.bool (decide (a ≤ b))) w := fun w => b_bin (by rw [binOp_leq]; rfl)
theorem b_gtr {k : IntKind} : ∀ w, (do eqGuard .gtr t x y (.int k a) (.int k b); binOp .gtr t (.int k a) (.int k b) : Sem Value).run P w = .ok (.bool (decide (b < a))) w := fun w => b_bin (by rw [binOp_gtr]; rfl)
theorem b_geq {k : IntKind} : ∀ w, (do eqGuard .geq t x y (.int k a) (.int k b); binOp .geq t (.int k a) (.int k b) : Sem Value).run P w = .ok (.bool (decide (b ≤ a))) w := fun w => b_bin (by rw [binOp_geq]; rfl)
theorem b_eql {k : IntKind} : ∀ w, (do eqGuard .eql t x y (.int k a) (.int k b); binOp .eql t (.int k a) (.int k b) : Sem Value).run P w = .ok (.bool (decide (a = b))) w := fun w => b_bin (by rw [binOp_eql]; rfl)
theorem b_neq {k : IntKind} : ∀ w, (do eqGuard .neq t x y (.int k a) (.int k b); binOp .neq t (.int k a) (.int k b) : Sem Value).run P w = .ok (.bool (!decide (a = b))) w := fun w => b_bin (by rw [binOp_neq]; rfl)
theorem u_not {b : Bool} : ∀ w, (Op.unary .not (.bool b)).run P w = .ok (.bool (!b)) w := fun w => rfl
end
end
end Go.Sl

namespace Go.Sl
open Go.RowKit
set_option linter.unusedVariables false
section
variable {c : Cx} {ops : Array Oper} {i : Nat} {K : Act → World → Prop} {T : List Item} {L : List (Nat × Value)} {H : List Chunk}
/-- Distinct slots. -/
theorem subL_of_lk : ∀ {l L : List (Nat × Value)}, (∀ p ∈ l, lk L p.1 = some p.2) → SubL l L
  | [], _, _ => trivial
  | (k, v) :: r, L, h => ⟨h (k, v) (.head _), subL_of_lk fun p hp => h p (.tail _ hp)⟩
/-- To fewer slots and chunks. -/
theorem st_to {L' : List (Nat × Value)} {H' : List Chunk} (ks : List Nat) (s : SubL L' L) (hk : pickH H ks = some H') (h : St c T L' H') : St c T L H := fun a w ha hw => h a w (ha.sub s) ⟨hw.kept, hw.hp.pickH hk⟩
theorem st_go {L' : List (Nat × Value)} {H' : List Chunk} (ks : List Nat) (h : St c T L' H') (s : SubL L' L) (hk : pickH H ks = some H') : St c T L H := st_to ks s hk h
theorem sr_case {t : Nat} {b : Bool} (ht : lk L t = some (.bool b)) (h1 : b = true → Rk c K ((t, .bool true) :: L) H) (h2 : b = false → Rk c K ((t, .bool false) :: L) H) : Rk c K L H := by
  have key : ∀ {b : Bool}, lk L t = some (.bool b) → Rk c K ((t, .bool b) :: L) H → Rk c K L H := fun {b} hb h a w ha hw => h a w ⟨ha.size, ha.defers, fun u v hu => by
    simp only [lk] at hu
    cases hc : Nat.beq t u with
    | true => rw [hc] at hu; obtain rfl := beq_eq_of hc; simp only [cond_true, Option.some.injEq] at hu; subst hu; exact ha.at_ t _ hb
    | false => rw [hc] at hu; exact ha.at_ u v hu⟩ hw
  cases b with
  | true => exact key ht (h1 rfl)
  | false => exact key ht (h2 rfl)
theorem sr_caseD {t : Nat} {p : Prop} [Decidable p] (ht : lk L t = some (.bool (decide p))) (h1 : p → Rk c K ((t, .bool true) :: L) H) (h2 : ¬ p → Rk c K ((t, .bool false) :: L) H) : Rk c K L H :=
  sr_case ht (fun e => h1 (of_decide_eq_true e)) (fun e => h2 (of_decide_eq_false e))
/-- Ways that meet again. -/
theorem st_join {x : Code} {σ : Type} (Lf : σ → List (Nat × Value)) (Hf : σ → List Chunk) (I : σ → Prop) (rest : ∀ s, I s → St c T (Lf s) (Hf s)) (first : (∀ s, I s → St c T (Lf s) (Hf s)) → St c (.code x :: T) L H) : St c (.code x :: T) L H := first rest
/-- A loop, entered with some of the chunks. -/
theorem st_loopK {σ : Type} {x : Code} (ks : List Nat) (Lf : σ → List (Nat × Value)) (Hf : σ → List Chunk) (I : σ → Prop) (μ : σ → Nat) (s0 : σ) (h0 : I s0) (hL : SubL (Lf s0) L) (hH : pickH H ks = some (Hf s0))
    (round : ∀ s, I s → (∀ s', I s' → μ s' < μ s → St c (.inLoop x :: T) (Lf s') (Hf s')) → St c (.code x :: .inLoop x :: T) (Lf s) (Hf s)) : St c (.code (.loop x) :: T) L H :=
  st_to ks hL hH (by
    have key : ∀ n s, μ s = n → I s → St c (.code x :: .inLoop x :: T) (Lf s) (Hf s) := by
      intro n
      induction n using Nat.strongRecOn with
      | _ n ih => exact fun s hn hs => round s hs fun s' hs' hlt => st_inLoop (ih _ (hn ▸ hlt) s' rfl hs')
    exact st_loop0 (key _ s0 rfl h0))
theorem st_loop1 {α : Type} {x : Code} (ks : List Nat) (Lf : α → List (Nat × Value)) (Hf : α → List Chunk) (I : α → Prop) (μ : α → Nat) (a0 : α) (h0 : I a0) (hL : SubL (Lf a0) L) (hH : pickH H ks = some (Hf a0))
    (round : ∀ a, I a → (∀ a', I a' → μ a' < μ a → St c (.inLoop x :: T) (Lf a') (Hf a')) → St c (.code x :: .inLoop x :: T) (Lf a) (Hf a)) : St c (.code (.loop x) :: T) L H :=
  st_loopK (σ := α) ks (fun s => Lf s) (fun s => Hf s) (fun s => I s) (fun s => μ s) a0 h0 hL hH fun s hs hk => round s hs fun a' h1 h2 => hk a' h1 h2
theorem st_join1 {α : Type} {x : Code} (Lf : α → List (Nat × Value)) (Hf : α → List Chunk) (I : α → Prop) (rest : ∀ a, I a → St c T (Lf a) (Hf a)) (first : (∀ a, I a → St c T (Lf a) (Hf a)) → St c (.code x :: T) L H) : St c (.code x :: T) L H := first rest
theorem st_loop2 {α β : Type} {x : Code} (ks : List Nat) (Lf : α → β → List (Nat × Value)) (Hf : α → β → List Chunk) (I : α → β → Prop) (μ : α → β → Nat) (a0 : α) (b0 : β) (h0 : I a0 b0) (hL : SubL (Lf a0 b0) L) (hH : pickH H ks = some (Hf a0 b0))
    (round : ∀ a b, I a b → (∀ a' b', I a' b' → μ a' b' < μ a b → St c (.inLoop x :: T) (Lf a' b') (Hf a' b')) → St c (.code x :: .inLoop x :: T) (Lf a b) (Hf a b)) : St c (.code (.loop x) :: T) L H :=
  st_loopK (σ := α × β) ks (fun s => Lf s.1 s.2) (fun s => Hf s.1 s.2) (fun s => I s.1 s.2) (fun s => μ s.1 s.2) (a0, b0) h0 hL hH fun s hs hk => round s.1 s.2 hs fun a' b' h1 h2 => hk (a', b') h1 h2
theorem st_join2 {α β : Type} {x : Code} (Lf : α → β → List (Nat × Value)) (Hf : α → β → List Chunk) (I : α → β → Prop) (rest : ∀ a b, I a b → St c T (Lf a b) (Hf a b)) (first : (∀ a b, I a b → St c T (Lf a b) (Hf a b)) → St c (.code x :: T) L H) : St c (.code x :: T) L H := first rest
theorem st_loop3 {α β γ : Type} {x : Code} (ks : List Nat) (Lf : α → β → γ → List (Nat × Value)) (Hf : α → β → γ → List Chunk) (I : α → β → γ → Prop) (μ : α → β → γ → Nat) (a0 : α) (b0 : β) (d0 : γ) (h0 : I a0 b0 d0) (hL : SubL (Lf a0 b0 d0) L) (hH : pickH H ks = some (Hf a0 b0 d0))
    (round : ∀ a b d, I a b d → (∀ a' b' d', I a' b' d' → μ a' b' d' < μ a b d → St c (.inLoop x :: T) (Lf a' b' d') (Hf a' b' d')) → St c (.code x :: .inLoop x :: T) (Lf a b d) (Hf a b d)) : St c (.code (.loop x) :: T) L H :=
  st_loopK (σ := α × β × γ) ks (fun s => Lf s.1 s.2.1 s.2.2) (fun s => Hf s.1 s.2.1 s.2.2) (fun s => I s.1 s.2.1 s.2.2) (fun s => μ s.1 s.2.1 s.2.2) (a0, b0, d0) h0 hL hH fun s hs hk => round s.1 s.2.1 s.2.2 hs fun a' b' d' h1 h2 => hk (a', b', d') h1 h2
theorem st_join3 {α β γ : Type} {x : Code} (Lf : α → β → γ → List (Nat × Value)) (Hf : α → β → γ → List Chunk) (I : α → β → γ → Prop) (rest : ∀ a b d, I a b d → St c T (Lf a b d) (Hf a b d)) (first : (∀ a b d, I a b d → St c T (Lf a b d) (Hf a b d)) → St c (.code x :: T) L H) : St c (.code x :: T) L H := first rest
theorem st_loop4 {α β γ δ : Type} {x : Code} (ks : List Nat) (Lf : α → β → γ → δ → List (Nat × Value)) (Hf : α → β → γ → δ → List Chunk) (I : α → β → γ → δ → Prop) (μ : α → β → γ → δ → Nat) (a0 : α) (b0 : β) (d0 : γ) (e0 : δ) (h0 : I a0 b0 d0 e0) (hL : SubL (Lf a0 b0 d0 e0) L) (hH : pickH H ks = some (Hf a0 b0 d0 e0))
    (round : ∀ a b d e, I a b d e → (∀ a' b' d' e', I a' b' d' e' → μ a' b' d' e' < μ a b d e → St c (.inLoop x :: T) (Lf a' b' d' e') (Hf a' b' d' e')) → St c (.code x :: .inLoop x :: T) (Lf a b d e) (Hf a b d e)) : St c (.code (.loop x) :: T) L H :=
  st_loopK (σ := α × β × γ × δ) ks (fun s => Lf s.1 s.2.1 s.2.2.1 s.2.2.2) (fun s => Hf s.1 s.2.1 s.2.2.1 s.2.2.2) (fun s => I s.1 s.2.1 s.2.2.1 s.2.2.2) (fun s => μ s.1 s.2.1 s.2.2.1 s.2.2.2) (a0, b0, d0, e0) h0 hL hH fun s hs hk => round s.1 s.2.1 s.2.2.1 s.2.2.2 hs fun a' b' d' e' h1 h2 => hk (a', b', d', e') h1 h2
theorem st_join4 {α β γ δ : Type} {x : Code} (Lf : α → β → γ → δ → List (Nat × Value)) (Hf : α → β → γ → δ → List Chunk) (I : α → β → γ → δ → Prop) (rest : ∀ a b d e, I a b d e → St c T (Lf a b d e) (Hf a b d e)) (first : (∀ a b d e, I a b d e → St c T (Lf a b d e) (Hf a b d e)) → St c (.code x :: T) L H) : St c (.code x :: T) L H := first rest
theorem st_loop5 {α β γ δ ε : Type} {x : Code} (ks : List Nat) (Lf : α → β → γ → δ → ε → List (Nat × Value)) (Hf : α → β → γ → δ → ε → List Chunk) (I : α → β → γ → δ → ε → Prop) (μ : α → β → γ → δ → ε → Nat) (a0 : α) (b0 : β) (d0 : γ) (e0 : δ) (f0 : ε) (h0 : I a0 b0 d0 e0 f0) (hL : SubL (Lf a0 b0 d0 e0 f0) L) (hH : pickH H ks = some (Hf a0 b0 d0 e0 f0))
    (round : ∀ a b d e f, I a b d e f → (∀ a' b' d' e' f', I a' b' d' e' f' → μ a' b' d' e' f' < μ a b d e f → St c (.inLoop x :: T) (Lf a' b' d' e' f') (Hf a' b' d' e' f')) → St c (.code x :: .inLoop x :: T) (Lf a b d e f) (Hf a b d e f)) : St c (.code (.loop x) :: T) L H :=
  st_loopK (σ := α × β × γ × δ × ε) ks (fun s => Lf s.1 s.2.1 s.2.2.1 s.2.2.2.1 s.2.2.2.2) (fun s => Hf s.1 s.2.1 s.2.2.1 s.2.2.2.1 s.2.2.2.2) (fun s => I s.1 s.2.1 s.2.2.1 s.2.2.2.1 s.2.2.2.2) (fun s => μ s.1 s.2.1 s.2.2.1 s.2.2.2.1 s.2.2.2.2) (a0, b0, d0, e0, f0) h0 hL hH fun s hs hk => round s.1 s.2.1 s.2.2.1 s.2.2.2.1 s.2.2.2.2 hs fun a' b' d' e' f' h1 h2 => hk (a', b', d', e', f') h1 h2
theorem st_join5 {α β γ δ ε : Type} {x : Code} (Lf : α → β → γ → δ → ε → List (Nat × Value)) (Hf : α → β → γ → δ → ε → List Chunk) (I : α → β → γ → δ → ε → Prop) (rest : ∀ a b d e f, I a b d e f → St c T (Lf a b d e f) (Hf a b d e f)) (first : (∀ a b d e f, I a b d e f → St c T (Lf a b d e f) (Hf a b d e f)) → St c (.code x :: T) L H) : St c (.code x :: T) L H := first rest
theorem st_loop6 {α β γ δ ε ζ : Type} {x : Code} (ks : List Nat) (Lf : α → β → γ → δ → ε → ζ → List (Nat × Value)) (Hf : α → β → γ → δ → ε → ζ → List Chunk) (I : α → β → γ → δ → ε → ζ → Prop) (μ : α → β → γ → δ → ε → ζ → Nat) (a0 : α) (b0 : β) (d0 : γ) (e0 : δ) (f0 : ε) (g0 : ζ) (h0 : I a0 b0 d0 e0 f0 g0) (hL : SubL (Lf a0 b0 d0 e0 f0 g0) L) (hH : pickH H ks = some (Hf a0 b0 d0 e0 f0 g0))
    (round : ∀ a b d e f g, I a b d e f g → (∀ a' b' d' e' f' g', I a' b' d' e' f' g' → μ a' b' d' e' f' g' < μ a b d e f g → St c (.inLoop x :: T) (Lf a' b' d' e' f' g') (Hf a' b' d' e' f' g')) → St c (.code x :: .inLoop x :: T) (Lf a b d e f g) (Hf a b d e f g)) : St c (.code (.loop x) :: T) L H :=
  st_loopK (σ := α × β × γ × δ × ε × ζ) ks (fun s => Lf s.1 s.2.1 s.2.2.1 s.2.2.2.1 s.2.2.2.2.1 s.2.2.2.2.2) (fun s => Hf s.1 s.2.1 s.2.2.1 s.2.2.2.1 s.2.2.2.2.1 s.2.2.2.2.2) (fun s => I s.1 s.2.1 s.2.2.1 s.2.2.2.1 s.2.2.2.2.1 s.2.2.2.2.2) (fun s => μ s.1 s.2.1 s.2.2.1 s.2.2.2.1 s.2.2.2.2.1 s.2.2.2.2.2) (a0, b0, d0, e0, f0, g0) h0 hL hH fun s hs hk => round s.1 s.2.1 s.2.2.1 s.2.2.2.1 s.2.2.2.2.1 s.2.2.2.2.2 hs fun a' b' d' e' f' g' h1 h2 => hk (a', b', d', e', f', g') h1 h2
theorem st_join6 {α β γ δ ε ζ : Type} {x : Code} (Lf : α → β → γ → δ → ε → ζ → List (Nat × Value)) (Hf : α → β → γ → δ → ε → ζ → List Chunk) (I : α → β → γ → δ → ε → ζ → Prop) (rest : ∀ a b d e f g, I a b d e f g → St c T (Lf a b d e f g) (Hf a b d e f g)) (first : (∀ a b d e f g, I a b d e f g → St c T (Lf a b d e f g) (Hf a b d e f g)) → St c (.code x :: T) L H) : St c (.code x :: T) L H := first rest
theorem st_join0 {x : Code} (L' : List (Nat × Value)) (H' : List Chunk) (rest : St c T L' H') (first : St c T L' H' → St c (.code x :: T) L H) : St c (.code x :: T) L H := first rest
end

/-! ### A loop, from behind its first round -/
section
variable {c : Cx} {T : List Item} {L : List (Nat × Value)} {H : List Chunk}
theorem st_inLoopK {σ : Type} {x : Code} (ks : List Nat) (Lf : σ → List (Nat × Value)) (Hf : σ → List Chunk) (I : σ → Prop) (μ : σ → Nat) (s0 : σ) (h0 : I s0) (hL : SubL (Lf s0) L) (hH : pickH H ks = some (Hf s0))
    (round : ∀ s, I s → (∀ s', I s' → μ s' < μ s → St c (.inLoop x :: T) (Lf s') (Hf s')) → St c (.code x :: .inLoop x :: T) (Lf s) (Hf s)) : St c (.inLoop x :: T) L H :=
  st_to ks hL hH (by
    have key : ∀ n s, μ s = n → I s → St c (.code x :: .inLoop x :: T) (Lf s) (Hf s) := by
      intro n
      induction n using Nat.strongRecOn with
      | _ n ih => exact fun s hn hs => round s hs fun s' hs' hlt => st_inLoop (ih _ (hn ▸ hlt) s' rfl hs')
    exact st_inLoop (key _ s0 rfl h0))
theorem st_inLoop1 {α : Type} {x : Code} (ks : List Nat) (Lf : α → List (Nat × Value)) (Hf : α → List Chunk) (I : α → Prop) (μ : α → Nat) (a0 : α) (h0 : I a0) (hL : SubL (Lf a0) L) (hH : pickH H ks = some (Hf a0))
    (round : ∀ a, I a → (∀ a', I a' → μ a' < μ a → St c (.inLoop x :: T) (Lf a') (Hf a')) → St c (.code x :: .inLoop x :: T) (Lf a) (Hf a)) : St c (.inLoop x :: T) L H :=
  st_inLoopK (σ := α) ks (fun s => Lf s) (fun s => Hf s) (fun s => I s) (fun s => μ s) a0 h0 hL hH fun s hs hk => round s hs fun a' h1 h2 => hk a' h1 h2
theorem st_inLoop2 {α β : Type} {x : Code} (ks : List Nat) (Lf : α → β → List (Nat × Value)) (Hf : α → β → List Chunk) (I : α → β → Prop) (μ : α → β → Nat) (a0 : α) (b0 : β) (h0 : I a0 b0) (hL : SubL (Lf a0 b0) L) (hH : pickH H ks = some (Hf a0 b0))
    (round : ∀ a b, I a b → (∀ a' b', I a' b' → μ a' b' < μ a b → St c (.inLoop x :: T) (Lf a' b') (Hf a' b')) → St c (.code x :: .inLoop x :: T) (Lf a b) (Hf a b)) : St c (.inLoop x :: T) L H :=
  st_inLoopK (σ := α × β) ks (fun s => Lf s.1 s.2) (fun s => Hf s.1 s.2) (fun s => I s.1 s.2) (fun s => μ s.1 s.2) (a0, b0) h0 hL hH fun s hs hk => round s.1 s.2 hs fun a' b' h1 h2 => hk (a', b') h1 h2
theorem st_inLoop3 {α β γ : Type} {x : Code} (ks : List Nat) (Lf : α → β → γ → List (Nat × Value)) (Hf : α → β → γ → List Chunk) (I : α → β → γ → Prop) (μ : α → β → γ → Nat) (a0 : α) (b0 : β) (d0 : γ) (h0 : I a0 b0 d0) (hL : SubL (Lf a0 b0 d0) L) (hH : pickH H ks = some (Hf a0 b0 d0))
    (round : ∀ a b d, I a b d → (∀ a' b' d', I a' b' d' → μ a' b' d' < μ a b d → St c (.inLoop x :: T) (Lf a' b' d') (Hf a' b' d')) → St c (.code x :: .inLoop x :: T) (Lf a b d) (Hf a b d)) : St c (.inLoop x :: T) L H :=
  st_inLoopK (σ := α × β × γ) ks (fun s => Lf s.1 s.2.1 s.2.2) (fun s => Hf s.1 s.2.1 s.2.2) (fun s => I s.1 s.2.1 s.2.2) (fun s => μ s.1 s.2.1 s.2.2) (a0, b0, d0) h0 hL hH fun s hs hk => round s.1 s.2.1 s.2.2 hs fun a' b' d' h1 h2 => hk (a', b', d') h1 h2
theorem st_inLoop4 {α β γ δ : Type} {x : Code} (ks : List Nat) (Lf : α → β → γ → δ → List (Nat × Value)) (Hf : α → β → γ → δ → List Chunk) (I : α → β → γ → δ → Prop) (μ : α → β → γ → δ → Nat) (a0 : α) (b0 : β) (d0 : γ) (e0 : δ) (h0 : I a0 b0 d0 e0) (hL : SubL (Lf a0 b0 d0 e0) L) (hH : pickH H ks = some (Hf a0 b0 d0 e0))
    (round : ∀ a b d e, I a b d e → (∀ a' b' d' e', I a' b' d' e' → μ a' b' d' e' < μ a b d e → St c (.inLoop x :: T) (Lf a' b' d' e') (Hf a' b' d' e')) → St c (.code x :: .inLoop x :: T) (Lf a b d e) (Hf a b d e)) : St c (.inLoop x :: T) L H :=
  st_inLoopK (σ := α × β × γ × δ) ks (fun s => Lf s.1 s.2.1 s.2.2.1 s.2.2.2) (fun s => Hf s.1 s.2.1 s.2.2.1 s.2.2.2) (fun s => I s.1 s.2.1 s.2.2.1 s.2.2.2) (fun s => μ s.1 s.2.1 s.2.2.1 s.2.2.2) (a0, b0, d0, e0) h0 hL hH fun s hs hk => round s.1 s.2.1 s.2.2.1 s.2.2.2 hs fun a' b' d' e' h1 h2 => hk (a', b', d', e') h1 h2
theorem st_inLoop5 {α β γ δ ε : Type} {x : Code} (ks : List Nat) (Lf : α → β → γ → δ → ε → List (Nat × Value)) (Hf : α → β → γ → δ → ε → List Chunk) (I : α → β → γ → δ → ε → Prop) (μ : α → β → γ → δ → ε → Nat) (a0 : α) (b0 : β) (d0 : γ) (e0 : δ) (f0 : ε) (h0 : I a0 b0 d0 e0 f0) (hL : SubL (Lf a0 b0 d0 e0 f0) L) (hH : pickH H ks = some (Hf a0 b0 d0 e0 f0))
    (round : ∀ a b d e f, I a b d e f → (∀ a' b' d' e' f', I a' b' d' e' f' → μ a' b' d' e' f' < μ a b d e f → St c (.inLoop x :: T) (Lf a' b' d' e' f') (Hf a' b' d' e' f')) → St c (.code x :: .inLoop x :: T) (Lf a b d e f) (Hf a b d e f)) : St c (.inLoop x :: T) L H :=
  st_inLoopK (σ := α × β × γ × δ × ε) ks (fun s => Lf s.1 s.2.1 s.2.2.1 s.2.2.2.1 s.2.2.2.2) (fun s => Hf s.1 s.2.1 s.2.2.1 s.2.2.2.1 s.2.2.2.2) (fun s => I s.1 s.2.1 s.2.2.1 s.2.2.2.1 s.2.2.2.2) (fun s => μ s.1 s.2.1 s.2.2.1 s.2.2.2.1 s.2.2.2.2) (a0, b0, d0, e0, f0) h0 hL hH fun s hs hk => round s.1 s.2.1 s.2.2.1 s.2.2.2.1 s.2.2.2.2 hs fun a' b' d' e' f' h1 h2 => hk (a', b', d', e', f') h1 h2
theorem st_inLoop6 {α β γ δ ε ζ : Type} {x : Code} (ks : List Nat) (Lf : α → β → γ → δ → ε → ζ → List (Nat × Value)) (Hf : α → β → γ → δ → ε → ζ → List Chunk) (I : α → β → γ → δ → ε → ζ → Prop) (μ : α → β → γ → δ → ε → ζ → Nat) (a0 : α) (b0 : β) (d0 : γ) (e0 : δ) (f0 : ε) (g0 : ζ) (h0 : I a0 b0 d0 e0 f0 g0) (hL : SubL (Lf a0 b0 d0 e0 f0 g0) L) (hH : pickH H ks = some (Hf a0 b0 d0 e0 f0 g0))
    (round : ∀ a b d e f g, I a b d e f g → (∀ a' b' d' e' f' g', I a' b' d' e' f' g' → μ a' b' d' e' f' g' < μ a b d e f g → St c (.inLoop x :: T) (Lf a' b' d' e' f' g') (Hf a' b' d' e' f' g')) → St c (.code x :: .inLoop x :: T) (Lf a b d e f g) (Hf a b d e f g)) : St c (.inLoop x :: T) L H :=
  st_inLoopK (σ := α × β × γ × δ × ε × ζ) ks (fun s => Lf s.1 s.2.1 s.2.2.1 s.2.2.2.1 s.2.2.2.2.1 s.2.2.2.2.2) (fun s => Hf s.1 s.2.1 s.2.2.1 s.2.2.2.1 s.2.2.2.2.1 s.2.2.2.2.2) (fun s => I s.1 s.2.1 s.2.2.1 s.2.2.2.1 s.2.2.2.2.1 s.2.2.2.2.2) (fun s => μ s.1 s.2.1 s.2.2.1 s.2.2.2.1 s.2.2.2.2.1 s.2.2.2.2.2) (a0, b0, d0, e0, f0, g0) h0 hL hH fun s hs hk => round s.1 s.2.1 s.2.2.1 s.2.2.2.1 s.2.2.2.2.1 s.2.2.2.2.2 hs fun a' b' d' e' f' g' h1 h2 => hk (a', b', d', e', f', g') h1 h2
end
end Go.Sl
