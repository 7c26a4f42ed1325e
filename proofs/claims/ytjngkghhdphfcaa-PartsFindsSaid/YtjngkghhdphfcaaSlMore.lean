/- A part of the proof: words and contracts that the row is built on. -/
import Derived.Test.YtjngkghhdphfcaaSlCalls
namespace Go.Sl
open Go.RowKit
set_option linter.unusedVariables false
set_option linter.unusedSimpArgs false
section
variable {c : Cx} {ops : Array Oper} {i : Nat} {K : Act → World → Prop} {T : List Item} {L : List (Nat × Value)} {H : List Chunk}
variable {d : Nat} {ty : TypeId} {pos : String} {aft : Array Edge} {g : Option (Nat × Bool)}
theorem rdV_one {P : Program} {t : TypeId} {cs : List Value} {off : Nat} {v : Value} (h : aggB P t = some false) (hv : cs[off]? = some v) : rdV P t cs off = some v := by
  unfold rdV; rw [h]; cases szOf P t <;> exact hv
theorem rdV_agg {P : Program} {t : TypeId} {cs : List Value} {off n : Nat} {vs : List Value} (h : aggB P t = some true) (hs : szOf P t = some n) (hle : off + n ≤ cs.length) (hv : (cs.drop off).take n = vs) : rdV P t cs off = some (.agg vs.toArray) := by
  unfold rdV; rw [h, hs]; simp only; rw [if_pos hle, hv]
theorem sr_load1 {t : TypeId} {x : Operand} {b off k : Nat} {et : TypeId} {cs : List Value} {v : Value} (ho : ops[i]? = some ⟨some d, .load t x, ty, pos, aft, g⟩) (hw : wants ops L g = some true) (hN : Nat.blt d c.N = true) (hx : ev L x = some (.pointer (some ⟨b, off, none⟩)))
    (hc : H[k]? = some (cellsC b et cs)) (ha : aggB c.P t = some false) (hv : cs[off]? = some v) (h : Rk c K ((d, v) :: L) H) : Rk c (wpOp c.P ops (QN c T) i K) L H := sr_load ho hw hN hx hc (rdV_one ha hv) h
theorem sr_loadN {t : TypeId} {x : Operand} {b off k n : Nat} {et : TypeId} {cs : List Value} (vs : List Value) (ho : ops[i]? = some ⟨some d, .load t x, ty, pos, aft, g⟩) (hw : wants ops L g = some true) (hN : Nat.blt d c.N = true) (hx : ev L x = some (.pointer (some ⟨b, off, none⟩)))
    (hc : H[k]? = some (cellsC b et cs)) (ha : aggB c.P t = some true) (hs : szOf c.P t = some n) (hle : Nat.ble (off + n) cs.length = true) (hv : (cs.drop off).take n = vs) (h : Rk c K ((d, .agg vs.toArray) :: L) H) : Rk c (wpOp c.P ops (QN c T) i K) L H :=
  sr_load ho hw hN hx hc (rdV_agg ha hs (by simpa [Nat.ble_eq] using hle) hv) h
/-- A nil row, as a chunk. -/
theorem heap_nilrow {w0 w : World} {G : List Nat} (t : TypeId) (z : Nat) (h : Heap w0 G H w) : Heap w0 G (rowC none 0 0 t z [] :: H) w :=
  ⟨h.kept, ⟨⟨⟨by simp, Nat.le_refl _, by simp, fun _ => ⟨rfl, rfl⟩⟩, fun g e => by cases e⟩, fun g e => by cases e⟩, h.hp⟩
theorem sr_nilrow (t : TypeId) (z : Nat) (h : Rk c K L (rowC none 0 0 t z [] :: H)) : Rk c K L H := fun a w ha hh => h a w ha (heap_nilrow t z hh)
theorem st_nilrow (t : TypeId) (z : Nat) (h : St c T L (rowC none 0 0 t z [] :: H)) : St c T L H := fun a w ha hh => h a w ha (heap_nilrow t z hh)
/-- A nil row's value is a slice without elements. -/
theorem sr_max {k : IntKind} {t t' : TypeId} {x y : Operand} {a b : Int} (ho : ops[i]? = some ⟨some d, .call ⟨.builtin .max, #[x, y], #[t, t']⟩, ty, pos, aft, g⟩) (hw : wants ops L g = some true) (hN : Nat.blt d c.N = true) (hx : ev L x = some (.int k a)) (hy : ev L y = some (.int k b))
    (h : Rk c K ((d, .int k (max a b)) :: L) H) : Rk c (wpOp c.P ops (QN c T) i K) L H :=
  sr_pure ho hw hN _ (fun A w ha hh => by
    simp only [execOp, resolve, List.map_toArray, List.map_cons, List.map_nil, ha.ev hx, ha.ev hy]
    rw [Sem.run_bind, Sem.run_pure]
    simp only [Result.andThen_ok, invoke, builtin]
    have : (Builtin.max_ #[t, t'] ty #[Value.int k a, Value.int k b]).run c.P w = .ok (.int k (max a b)) w := by
      simp only [Builtin.max_]
      simp [Builtin.max2, Int.max_def]
      split <;> split <;> first | rfl | (congr 2; omega) | omega
    rw [Sem.run_bind, this]; rfl) h
theorem sr_min {k : IntKind} {t t' : TypeId} {x y : Operand} {a b : Int} (ho : ops[i]? = some ⟨some d, .call ⟨.builtin .min, #[x, y], #[t, t']⟩, ty, pos, aft, g⟩) (hw : wants ops L g = some true) (hN : Nat.blt d c.N = true) (hx : ev L x = some (.int k a)) (hy : ev L y = some (.int k b))
    (h : Rk c K ((d, .int k (min a b)) :: L) H) : Rk c (wpOp c.P ops (QN c T) i K) L H :=
  sr_pure ho hw hN _ (fun A w ha hh => by
    simp only [execOp, resolve, List.map_toArray, List.map_cons, List.map_nil, ha.ev hx, ha.ev hy]
    rw [Sem.run_bind, Sem.run_pure]
    simp only [Result.andThen_ok, invoke, builtin]
    have : (Builtin.min_ #[t, t'] ty #[Value.int k a, Value.int k b]).run c.P w = .ok (.int k (min a b)) w := by
      simp only [Builtin.min_]
      simp [Builtin.min2, Int.min_def]
      split <;> split <;> first | rfl | (congr 2; omega) | omega
    rw [Sem.run_bind, this]; rfl) h
theorem sr_makeInterface {t : TypeId} {x : Operand} {v : Value} (ho : ops[i]? = some ⟨some d, .makeInterface t x, ty, pos, aft, g⟩) (hw : wants ops L g = some true) (hN : Nat.blt d c.N = true) (hx : ev L x = some v) (hm : ∀ w, (Instr.makeInterface t v).run c.P w = .ok (.iface t v) w)
    (h : Rk c K ((d, .iface t v) :: L) H) : Rk c (wpOp c.P ops (QN c T) i K) L H :=
  sr_pure ho hw hN _ (fun A w ha hh => by
    simp only [execOp, ha.ev hx]
    rw [Sem.run_bind, hm]; rfl) h
theorem sr_makeFunc {f : Nat} {xs : Array Operand} {vs : List Value} (ho : ops[i]? = some ⟨some d, .makeFunc (.func f) #[] xs, ty, pos, aft, g⟩) (hw : wants ops L g = some true) (hN : Nat.blt d c.N = true) (hx : evs L xs.toList = some vs) (_u : True)
    (h : Rk c K ((d, .func (.func f) #[] vs.toArray) :: L) H) : Rk c (wpOp c.P ops (QN c T) i K) L H :=
  sr_pure ho hw hN _ (fun A w ha hh => by
    have hxs : xs.map A.eval = vs.toArray := by rw [← evs_inv ha hx, ← List.map_toArray]
    simp only [execOp, hxs]
    rw [Sem.run_bind]; simp [Instr.makeFunc]) h
def evB (L : List (Nat × Value)) : List (Nat × Operand) → Option (List (Nat × Value))
  | [] => some []
  | (j, x) :: r => match ev L x, evB L r with
    | some v, some vs => some ((j, v) :: vs)
    | _, _ => none
theorem evB_inv {L : List (Nat × Value)} {N : FN} {a : Act} (ha : Fr N L a) : ∀ {ps : List (Nat × Operand)} {vs : List (Nat × Value)}, evB L ps = some vs → ps.map (fun (i, x) => (i, a.eval x)) = vs
  | [], vs, h => by simp [evB] at h; subst h; rfl
  | (j, x) :: r, vs, h => by
    simp only [evB] at h
    split at h
    · rename_i v us hv hus
      simp only [Option.some.injEq] at h
      subst h
      simp [ha.ev hv, evB_inv ha hus]
    · cases h
theorem sr_build {t : TypeId} {ps : Array (Nat × Operand)} {vs : List (Nat × Value)} (cs : List Value) (ho : ops[i]? = some ⟨some d, .build t ps, ty, pos, aft, g⟩) (hw : wants ops L g = some true) (hN : Nat.blt d c.N = true) (hx : evB L ps.toList = some vs) (hm : ∀ w, (Instr.build t vs.toArray).run c.P w = .ok (.agg cs.toArray) w)
    (h : Rk c K ((d, .agg cs.toArray) :: L) H) : Rk c (wpOp c.P ops (QN c T) i K) L H :=
  sr_pure ho hw hN _ (fun A w ha hh => by
    have hxs : ps.map (fun (i, x) => (i, A.eval x)) = vs.toArray := by rw [← evB_inv ha hx, ← List.map_toArray]
    simp only [execOp, hxs]
    rw [Sem.run_bind, hm]; rfl) h
end
end Go.Sl
