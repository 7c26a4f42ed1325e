/- A part of the proof: words and contracts that the row is built on. -/
import Derived.Test.YtjngkghhdphfcaaSl
namespace Go.Sl
open Go.RowKit
set_option linter.unusedVariables false
set_option linter.unusedSimpArgs false

/-- Is an operation with this guard carried out? -/
def wants (ops : Array Oper) (L : List (Nat × Value)) : Option (Nat × Bool) → Option Bool
  | none => some true
  | some (j, want) => match (ops[j]?).bind (·.dst) with
    | some d => match lk L d with
      | some (.bool b) => some (b == want)
      | _ => none
    | none => none

theorem Fr.wants {N : FN} {L : List (Nat × Value)} {a : Act} (h : Fr N L a) {ops : Array Oper} {o : Oper} {r : Bool} (hw : Sl.wants ops L o.guard = some r) : Region.wanted o (yielded ops a.tmps) = r := by
  unfold Sl.wants at hw
  unfold Region.wanted
  split at hw
  · rename_i hg; rw [hg]; simpa using hw
  · rename_i j want hg
    rw [hg]
    split at hw
    · rename_i d hd
      split at hw
      · rename_i b hb
        have h1 := h.at_ d _ hb
        have h2 : a.tmps[d]? = some (.bool b) := by
          rw [Array.getD_eq_getD_getElem?] at h1
          cases hc : a.tmps[d]? with
          | none => rw [hc] at h1; simp [undef] at h1
          | some v => rw [hc] at h1; simp at h1; rw [h1]
        simp only [yielded, hd, Option.bind_some, h2]
        simp only [Option.some.injEq] at hw
        rw [← hw]
        simp [BEq.beq]
        cases b <;> cases want <;> rfl
      · cases hw
    · cases hw

section
variable {c : Cx} {ops : Array Oper} {i : Nat} {K : Act → World → Prop} {T : List Item} {L : List (Nat × Value)} {H : List Chunk}

theorem sr_none (ho : ops[i]? = none) (h : Rk c K L H) : Rk c (wpOp c.P ops (QN c T) i K) L H := fun a w ha hw => by
  simp only [wpOp, ho]; exact h a w ha hw

/-- An operation whose guard says no. -/
theorem sr_off {d : Nat} {op : Op} {ty : TypeId} {pos : String} {aft : Array Edge} {g : Option (Nat × Bool)} (ho : ops[i]? = some ⟨some d, op, ty, pos, aft, g⟩) (hw : wants ops L g = some false) (hN : Nat.blt d c.N = true)
    (h : Rk c K ((d, undef) :: L) H) : Rk c (wpOp c.P ops (QN c T) i K) L H := fun a w ha hh => by
  simp only [wpOp, ho]
  rw [ha.wants (o := ⟨some d, op, ty, pos, aft, g⟩) hw]
  exact h _ w (ha.put hN undef) hh
theorem sr_off0 {op : Op} {ty : TypeId} {pos : String} {aft : Array Edge} {g : Option (Nat × Bool)} (ho : ops[i]? = some ⟨none, op, ty, pos, aft, g⟩) (hw : wants ops L g = some false)
    (h : Rk c K L H) : Rk c (wpOp c.P ops (QN c T) i K) L H := fun a w ha hh => by
  simp only [wpOp, ho]
  rw [ha.wants (o := ⟨none, op, ty, pos, aft, g⟩) hw]
  exact h _ w ha hh

/-- The root of all: an operation that answers a value. -/
theorem sr_root {d : Nat} {op : Op} {ty : TypeId} {pos : String} {aft : Array Edge} {g : Option (Nat × Bool)} (ho : ops[i]? = some ⟨some d, op, ty, pos, aft, g⟩) (hw : wants ops L g = some true) (hN : Nat.blt d c.N = true)
    (h : ∀ a w, Fr c.F L a → Heap c.w0 c.G H w → ∃ v w', (execOp a.eval ⟨some d, op, ty, pos, aft, g⟩).run c.P w = .ok (.value v) w' ∧ (∀ a', Fr c.F ((d, v) :: L) a' → K a' w')) : Rk c (wpOp c.P ops (QN c T) i K) L H := fun a w ha hh => by
  simp only [wpOp, ho]
  rw [ha.wants (o := ⟨some d, op, ty, pos, aft, g⟩) hw]
  simp only [if_true]
  obtain ⟨v, w', hr, hn⟩ := h a w ha hh
  refine .inl ?_
  unfold Oper.wp
  rw [hr]
  exact hn _ (ha.put hN v)
theorem sr_root0 {op : Op} {ty : TypeId} {pos : String} {aft : Array Edge} {g : Option (Nat × Bool)} (ho : ops[i]? = some ⟨none, op, ty, pos, aft, g⟩) (hw : wants ops L g = some true)
    (h : ∀ a w, Fr c.F L a → Heap c.w0 c.G H w → ∃ w', (execOp a.eval ⟨none, op, ty, pos, aft, g⟩).run c.P w = .ok .skip w' ∧ (∀ a', Fr c.F L a' → K a' w')) : Rk c (wpOp c.P ops (QN c T) i K) L H := fun a w ha hh => by
  simp only [wpOp, ho]
  rw [ha.wants (o := ⟨none, op, ty, pos, aft, g⟩) hw]
  simp only [if_true]
  obtain ⟨w', hr, hn⟩ := h a w ha hh
  refine .inl ?_
  unfold Oper.wp
  rw [hr]
  exact hn _ ha

/-- The value is known, the world stays. -/
theorem sr_pure {d : Nat} {op : Op} {ty : TypeId} {pos : String} {aft : Array Edge} {g : Option (Nat × Bool)} (ho : ops[i]? = some ⟨some d, op, ty, pos, aft, g⟩) (hw : wants ops L g = some true) (hN : Nat.blt d c.N = true) (v : Value)
    (hv : ∀ a w, Fr c.F L a → Heap c.w0 c.G H w → (execOp a.eval ⟨some d, op, ty, pos, aft, g⟩).run c.P w = .ok (.value v) w) (h : Rk c K ((d, v) :: L) H) : Rk c (wpOp c.P ops (QN c T) i K) L H :=
  sr_root ho hw hN fun a w ha hh => ⟨v, w, hv a w ha hh, fun a' ha' => h a' w ha' hh⟩

section
variable {d : Nat} {ty : TypeId} {pos : String} {aft : Array Edge} {g : Option (Nat × Bool)}
theorem sr_move {x : Operand} {v : Value} (ho : ops[i]? = some ⟨some d, .move x, ty, pos, aft, g⟩) (hw : wants ops L g = some true) (hN : Nat.blt d c.N = true) (hx : ev L x = some v) (h : Rk c K ((d, v) :: L) H) : Rk c (wpOp c.P ops (QN c T) i K) L H :=
  sr_pure ho hw hN v (fun a w ha hh => by simp [execOp, ha.ev hx]) h
theorem sr_assign {x : Operand} {v : Value} (ho : ops[i]? = some ⟨some d, .assign x, ty, pos, aft, g⟩) (hw : wants ops L g = some true) (hN : Nat.blt d c.N = true) (hx : ev L x = some v) (h : Rk c K ((d, v) :: L) H) : Rk c (wpOp c.P ops (QN c T) i K) L H :=
  sr_pure ho hw hN v (fun a w ha hh => by simp [execOp, ha.ev hx]) h
theorem sr_pickT {x y z : Operand} {v : Value} (ho : ops[i]? = some ⟨some d, .pick x y z, ty, pos, aft, g⟩) (hw : wants ops L g = some true) (hN : Nat.blt d c.N = true) (hx : ev L x = some (.bool true)) (hy : ev L y = some v) (h : Rk c K ((d, v) :: L) H) : Rk c (wpOp c.P ops (QN c T) i K) L H :=
  sr_pure ho hw hN v (fun a w ha hh => by simp [execOp, ha.ev hx, ha.ev hy, asBool]) h
theorem sr_pickF {x y z : Operand} {v : Value} (ho : ops[i]? = some ⟨some d, .pick x y z, ty, pos, aft, g⟩) (hw : wants ops L g = some true) (hN : Nat.blt d c.N = true) (hx : ev L x = some (.bool false)) (hy : ev L z = some v) (h : Rk c K ((d, v) :: L) H) : Rk c (wpOp c.P ops (QN c T) i K) L H :=
  sr_pure ho hw hN v (fun a w ha hh => by simp [execOp, ha.ev hx, ha.ev hy, asBool]) h
theorem sr_bin {op : BinOp} {t t' : TypeId} {x y : Operand} {u u' v : Value} (ho : ops[i]? = some ⟨some d, .binOp op t x y t', ty, pos, aft, g⟩) (hw : wants ops L g = some true) (hN : Nat.blt d c.N = true) (hx : ev L x = some u) (hy : ev L y = some u')
    (hv : ∀ w, (do eqGuard op t x y u u'; binOp op t u u' : Sem Value).run c.P w = .ok v w) (h : Rk c K ((d, v) :: L) H) : Rk c (wpOp c.P ops (QN c T) i K) L H :=
  sr_pure ho hw hN v (fun a w ha hh => by
    have := hv w
    simp only [execOp, ha.ev hx, ha.ev hy]
    rw [Sem.run_bind, this]; rfl) h
theorem sr_un {op : UnOp} {t : TypeId} {x : Operand} {u v : Value} (ho : ops[i]? = some ⟨some d, .unOp op t x, ty, pos, aft, g⟩) (hw : wants ops L g = some true) (hN : Nat.blt d c.N = true) (hx : ev L x = some u)
    (hv : ∀ w, (Op.unary op u).run c.P w = .ok v w) (h : Rk c K ((d, v) :: L) H) : Rk c (wpOp c.P ops (QN c T) i K) L H :=
  sr_pure ho hw hN v (fun a w ha hh => by
    have := hv w
    simp only [execOp, ha.ev hx]
    rw [Sem.run_bind, this]; rfl) h
theorem sr_conv {s t : TypeId} {x : Operand} {u v : Value} (ho : ops[i]? = some ⟨some d, .convert s t x, ty, pos, aft, g⟩) (hw : wants ops L g = some true) (hN : Nat.blt d c.N = true) (hx : ev L x = some u)
    (hv : ∀ w, (convert s t u).run c.P w = .ok v w) (h : Rk c K ((d, v) :: L) H) : Rk c (wpOp c.P ops (QN c T) i K) L H :=
  sr_pure ho hw hN v (fun a w ha hh => by
    have := hv w
    simp only [execOp, ha.ev hx]
    rw [Sem.run_bind, this]; rfl) h
theorem sr_extract {x : Operand} {k : Nat} {vs : Array Value} {v : Value} (ho : ops[i]? = some ⟨some d, .extract x k, ty, pos, aft, g⟩) (hw : wants ops L g = some true) (hN : Nat.blt d c.N = true) (hx : ev L x = some (.tuple vs)) (hv : vs[k]? = some v)
    (h : Rk c K ((d, v) :: L) H) : Rk c (wpOp c.P ops (QN c T) i K) L H :=
  sr_pure ho hw hN v (fun a w ha hh => by simp [execOp, ha.ev hx, Instr.extract, hv]) h
theorem sr_nilCheck {x : Operand} {ad : Addr} (ho : ops[i]? = some ⟨some d, .nilCheck x, ty, pos, aft, g⟩) (hw : wants ops L g = some true) (hN : Nat.blt d c.N = true) (hx : ev L x = some (.pointer (some ad)))
    (h : Rk c K ((d, .pointer (some ad)) :: L) H) : Rk c (wpOp c.P ops (QN c T) i K) L H :=
  sr_pure ho hw hN _ (fun a w ha hh => by simp [execOp, ha.ev hx]) h
/-- Where a struct's field stands; a field without cells isn't told. -/
def fldOf (P : Program) (s : TypeId) (f : Nat) : Option Nat := match P.underlying s with
  | some (.struct fs) => (fs[f]?).bind fun x => match P.info? x.type with
    | some j => if j.size = 0 then none else some x.offset
    | none => none
  | _ => none
theorem run_fieldAt {P : Program} {s : TypeId} {f k : Nat} (h : fldOf P s f = some k) (b o : Nat) (w : World) : (Instr.fieldAt s (.pointer (some ⟨b, o, none⟩)) f).run P w = .ok (.pointer (some ⟨b, o + k, none⟩)) w := by
  unfold fldOf at h
  split at h
  · rename_i fs hfs
    rw [Option.bind_eq_some_iff] at h
    obtain ⟨x, hx, hk⟩ := h
    split at hk
    · rename_i j hj
      split at hk
      · cases hk
      · rename_i hz
        simp only [Option.some.injEq] at hk
        subst hk
        simp [Instr.fieldAt, run_underlying hfs, hx, Instr.sureAddr, fieldPlace, sizeOf, typeInfo, hj, hz, Addr.add_lit]
    · cases hk
  · cases h
theorem sr_fieldAddr {s : TypeId} {x : Operand} {f b o k m : Nat} (ho : ops[i]? = some ⟨some d, .fieldAddr s x f, ty, pos, aft, g⟩) (hw : wants ops L g = some true) (hN : Nat.blt d c.N = true) (hx : ev L x = some (.pointer (some ⟨b, o, none⟩)))
    (hf : fldOf c.P s f = some k) (hm : o + k = m) (h : Rk c K ((d, .pointer (some ⟨b, m, none⟩)) :: L) H) : Rk c (wpOp c.P ops (QN c T) i K) L H :=
  sr_pure ho hw hN _ (fun a w ha hh => by
    subst hm
    simp only [execOp, ha.ev hx]
    rw [Sem.run_bind, run_fieldAt hf]; rfl) h

/-! ### Cells -/
def aggB (P : Program) (t : TypeId) : Option Bool := match P.underlying t with
  | some (.struct _) => some true
  | some (.array _ _) => some true
  | some _ => some false
  | none => none
def szOf (P : Program) (t : TypeId) : Option Nat := (P.info? t).map (·.size)
def zeroOf (P : Program) (t : TypeId) : Option Value := (P.info? t).bind (·.zero)
theorem run_isAgg {P : Program} {t : TypeId} {b : Bool} (h : aggB P t = some b) (w : World) : (isAgg t).run P w = .ok b w := by
  unfold aggB at h
  unfold isAgg
  rw [Sem.run_bind]
  split at h
  · rename_i d hd; rw [run_underlying hd]; simp at h; subst h; rfl
  · rename_i d n hd; rw [run_underlying hd]; simp at h; subst h; rfl
  · rename_i d h1 h2 hd
    rw [run_underlying hd]
    simp at h; subst h
    cases d <;> first | rfl | exact absurd rfl (h1 _) | exact absurd rfl (h2 _ _)
  · cases h
theorem run_sizeOf {P : Program} {t : TypeId} {n : Nat} (h : szOf P t = some n) (w : World) : (sizeOf t).run P w = .ok n w := by
  unfold szOf at h
  obtain ⟨j, hj, rfl⟩ := Option.map_eq_some_iff.1 h
  simp [sizeOf, typeInfo, hj]
theorem run_zeroValue {P : Program} {t : TypeId} {v : Value} (h : zeroOf P t = some v) (w : World) : (zeroValue t).run P w = .ok v w := by
  unfold zeroOf at h
  obtain ⟨j, hj, hz⟩ := Option.bind_eq_some_iff.1 h
  simp [zeroValue, typeInfo, hj, hz]

/-- What a load of type t reads off these cells from an offset on. -/
def rdV (P : Program) (t : TypeId) (cs : List Value) (off : Nat) : Option Value := match aggB P t, szOf P t with
  | some true, some n => if off + n ≤ cs.length then some (.agg ((cs.drop off).take n).toArray) else none
  | some false, _ => cs[off]?
  | _, _ => none
theorem run_loadVar {P : Program} {t : TypeId} {cs : List Value} {off : Nat} {v : Value} (h : rdV P t cs off = some v) {w : World} {b p : Nat} (hc : ∀ j u, cs[j]? = some u → w.cell? ⟨b, p + j, none⟩ = some u) : (loadVar t ⟨b, p + off, none⟩).run P w = .ok v w := by
  unfold rdV at h
  unfold loadVar
  rw [Sem.run_bind]
  split at h
  · rename_i n h1 h2
    rw [run_isAgg h1]
    simp only [Result.andThen_ok, if_true]
    split at h
    · rename_i hle
      simp only [Option.some.injEq] at h
      subst h
      rw [Sem.run_bind, run_sizeOf h2]
      simp only [Result.andThen_ok]
      have hl : ((cs.drop off).take n).length = n := by simp; omega
      have := run_loadCells_list (P := P) (w := w) ⟨b, p + off, none⟩ ((cs.drop off).take n) (fun j u hj => by
        rw [List.getElem?_take] at hj
        split at hj
        · rw [List.getElem?_drop] at hj
          rw [Addr.add_lit]
          rw [show p + off + j = p + (off + j) by omega]
          exact hc _ _ hj
        · cases hj)
      rw [hl] at this
      rw [Sem.run_bind, this]; rfl
    · cases h
  · rename_i h1
    rw [run_isAgg h1]
    simp only [Result.andThen_ok, Bool.false_eq_true, if_false]
    simp [load, Sem.run, hc _ _ h]
  · cases h
/-- A load where what stands there is known. -/
theorem sr_loadAt {t : TypeId} {x : Operand} {b p off q : Nat} {cs : List Value} {v : Value} (ho : ops[i]? = some ⟨some d, .load t x, ty, pos, aft, g⟩) (hw : wants ops L g = some true) (hN : Nat.blt d c.N = true) (hx : ev L x = some (.pointer (some ⟨b, q, none⟩)))
    (hq : q = p + off) (hc : ∀ w, Heap c.w0 c.G H w → ∀ j u, cs[j]? = some u → w.cell? ⟨b, p + j, none⟩ = some u) (hv : rdV c.P t cs off = some v) (h : Rk c K ((d, v) :: L) H) : Rk c (wpOp c.P ops (QN c T) i K) L H :=
  sr_pure ho hw hN _ (fun a w ha hh => by
    subst hq
    simp only [execOp, ha.ev hx, Instr.loadAt, Instr.sureAddr]
    rw [Sem.run_bind, Sem.run_bind, Sem.run_pure]
    simp only [Result.andThen_ok]
    rw [run_loadVar hv (hc w hh)]; rfl) h
theorem cells_of_cellsC {ok : Nat → Prop} {w : World} {b : Nat} {t : TypeId} {cs : List Value} (h : (cellsC b t cs).holds ok w) : ∀ j u, cs[j]? = some u → w.cell? ⟨b, 0 + j, none⟩ = some u := fun j u hj => by
  obtain ⟨_, o, ho, rfl⟩ := h.2 b rfl
  simp [World.cell?, ho, hj]
theorem sr_load {t : TypeId} {x : Operand} {b off k : Nat} {et : TypeId} {cs : List Value} {v : Value} (ho : ops[i]? = some ⟨some d, .load t x, ty, pos, aft, g⟩) (hw : wants ops L g = some true) (hN : Nat.blt d c.N = true) (hx : ev L x = some (.pointer (some ⟨b, off, none⟩)))
    (hc : H[k]? = some (cellsC b et cs)) (hv : rdV c.P t cs off = some v) (h : Rk c K ((d, v) :: L) H) : Rk c (wpOp c.P ops (QN c T) i K) L H :=
  sr_loadAt ho hw hN hx (Nat.zero_add off).symm (fun w hh => cells_of_cellsC (hh.hp.get hc)) hv h
theorem sr_alloc {t : TypeId} {z : Value} (ho : ops[i]? = some ⟨some d, .alloc t, ty, pos, aft, g⟩) (hw : wants ops L g = some true) (hN : Nat.blt d c.N = true) (hz : zeroOf c.P t = some z) (h : ∀ b, Rk c K ((d, .pointer (some ⟨b, 0, none⟩)) :: L) (cellsC b t z.cells.toList :: H)) : Rk c (wpOp c.P ops (QN c T) i K) L H :=
  sr_root ho hw hN fun a w ha hh => ⟨.pointer (some ⟨w.heap.size, 0, none⟩), w.alloc (.cells z.cells t), by
      simp only [execOp, Instr.alloc]
      rw [Sem.run_bind, Sem.run_bind, run_zeroValue hz]; rfl,
    fun a' ha' => h _ a' _ ha' (hh.grow (Hn := [cellsC w.heap.size t z.cells.toList]) ⟨Kept.of_below ((Below.refl _ _).alloc (Nat.le_refl _) _), ⟨⟨trivial, fun g1 e => by cases e; exact ⟨.inl (Nat.le_refl _), _, heap_alloc_new w _, rfl⟩⟩, fun g1 e => by simp [blocks]⟩, trivial⟩)⟩
theorem sr_box {t : TypeId} {x : Operand} {v : Value} (ho : ops[i]? = some ⟨some d, .box t x, ty, pos, aft, g⟩) (hw : wants ops L g = some true) (hN : Nat.blt d c.N = true) (hx : ev L x = some v) (h : ∀ b, Rk c K ((d, .pointer (some ⟨b, 0, none⟩)) :: L) (cellsC b t v.cells.toList :: H)) : Rk c (wpOp c.P ops (QN c T) i K) L H :=
  sr_root ho hw hN fun a w ha hh => ⟨.pointer (some ⟨w.heap.size, 0, none⟩), w.alloc (.cells v.cells t), by
      simp only [execOp, Instr.box, ha.ev hx]; rfl,
    fun a' ha' => h _ a' _ ha' (hh.grow (Hn := [cellsC w.heap.size t v.cells.toList]) ⟨Kept.of_below ((Below.refl _ _).alloc (Nat.le_refl _) _), ⟨⟨trivial, fun g1 e => by cases e; exact ⟨.inl (Nat.le_refl _), _, heap_alloc_new w _, rfl⟩⟩, fun g1 e => by simp [blocks]⟩, trivial⟩)⟩

/-- Cells with others laid over them. -/
def spl (cs : List Value) (off : Nat) (vs : List Value) : List Value := cs.take off ++ vs ++ cs.drop (off + vs.length)
def ones (vs : List Value) : Bool := vs.all Value.oneCell'
theorem ones_mem {vs : List Value} (h : ones vs = true) : ∀ v ∈ vs, v.oneCell' = true := by simpa [ones] using h
theorem run_storeVar {P : Program} {t et : TypeId} {v : Value} {vs cs : List Value} {b off n : Nat} (hs : szOf P t = some n) (hvs : v.cells.toList = vs) (hl : vs.length = n) (h1 : ∀ u ∈ vs, u.oneCell' = true) {w : World} (hg : w.heap[b]? = some (.cells cs.toArray et (0, 0))) (hoff : off + n ≤ cs.length) :
    (storeVar t ⟨b, off, none⟩ v).run P w = .ok () (w.setRow b (spl cs off vs).toArray) := by
  unfold storeVar
  have hc : v.cells.size = n := by rw [← Array.length_toList, hvs, hl]
  rw [Sem.run_bind, run_sizeOf hs]
  simp only [Result.andThen_ok, hc, ne_eq, not_true_eq_false, if_false, hvs]
  have := run_storeCells_at P b off et vs 0 cs.toArray w hg (by simp; omega) h1
  simpa [spl] using this
theorem sr_store {t et : TypeId} {x y : Operand} {b off n k : Nat} {cs vs : List Value} {v : Value} (ho : ops[i]? = some ⟨none, .store t x y, ty, pos, aft, g⟩) (hw : wants ops L g = some true) (hx : ev L x = some (.pointer (some ⟨b, off, none⟩))) (hy : ev L y = some v)
    (hc : H[k]? = some (cellsC b et cs)) (hs : szOf c.P t = some n) (hvs : v.cells.toList = vs) (hl : vs.length = n) (h1 : ones vs = true) (hoff : Nat.ble (off + n) cs.length = true) (h : Rk c K L (H.set k (cellsC b et (spl cs off vs)))) : Rk c (wpOp c.P ops (QN c T) i K) L H :=
  sr_root0 ho hw fun a w ha hh => by
    obtain ⟨_, ob, hob, rfl⟩ := (hh.hp.get hc).2 b rfl
    refine ⟨w.setRow b (spl cs off vs).toArray, ?_, fun a' ha' => h a' _ ha' (hh.upd _ hc rfl rfl ⟨rfl, rfl, rfl, by simp⟩ (fun j hj _ => setRow_other _ _ _ _ hj) ⟨trivial, _, setRow_heap _ _ _ _ _ _ hob, rfl⟩)⟩
    simp only [execOp, ha.ev hx, ha.ev hy, Instr.storeAt, Instr.sureAddr]
    rw [Sem.run_bind, Sem.run_bind, Sem.run_pure]
    simp only [Result.andThen_ok]
    rw [run_storeVar hs hvs hl (ones_mem h1) hob (by simpa [Nat.ble_eq] using hoff)]; rfl

/-! ### Slices -/
def elOf (P : Program) (t : TypeId) : Option (TypeId × Nat) := match P.underlying t with
  | some (.slice e) => (P.info? e).map fun j => (e, j.size)
  | _ => none
theorem elOf_inv {P : Program} {t e : TypeId} {z : Nat} (h : elOf P t = some (e, z)) : P.underlying t = some (.slice e) ∧ ∃ j, P.info? e = some j ∧ j.size = z := by
  unfold elOf at h
  split at h
  · rename_i e' he
    obtain ⟨j, hj, hz⟩ := Option.map_eq_some_iff.1 h
    simp only [Prod.mk.injEq] at hz
    obtain ⟨rfl, rfl⟩ := hz
    exact ⟨he, j, hj, rfl⟩
  · cases h
theorem run_indexAt {P : Program} {t e : TypeId} {z : Nat} (h : elOf P t = some (e, z)) (b o n cap : Nat) (k : IntKind) (j : Int) (h0 : 0 ≤ j) (h1 : j < n) (w : World) : (Instr.indexAt t (.slice (some ⟨b, o, none⟩) n cap) (.int k j)).run P w = .ok (.pointer (some ⟨b, o + j.toNat * z, none⟩)) w := by
  obtain ⟨hu, jn, hj, hz⟩ := elOf_inv h
  simp [Instr.indexAt, asIntOf, run_underlying hu, h0, h1, sizeOf, typeInfo, hj, hz, Addr.add_lit]
/-- An element of a slice that came in. -/
theorem sr_indexRo {t e : TypeId} {z : Nat} {x y : Operand} {A : Option Addr} {n cap : Nat} {k : IntKind} {j : Int} {cs : List Value} (ho : ops[i]? = some ⟨some d, .indexAddr t x y, ty, pos, aft, g⟩) (hw : wants ops L g = some true) (hN : Nat.blt d c.N = true)
    (hx : ev L x = some (.slice A n cap)) (hy : ev L y = some (.int k j)) (he : elOf c.P t = some (e, z)) (hA : Has c.G c.w0 A cs) (h0 : 0 ≤ j) (h1 : j < n) (hz : cs ≠ [])
    (h : ∀ b o, A = some ⟨b, o, none⟩ → (∀ w, Heap c.w0 c.G H w → ∀ (m : Nat) u, cs[m]? = some u → w.cell? ⟨b, o + m, none⟩ = some u) → Rk c K ((d, .pointer (some ⟨b, o + j.toNat * z, none⟩)) :: L) H) : Rk c (wpOp c.P ops (QN c T) i K) L H := by
  obtain ⟨b, o, rfl, hgG, hc⟩ := hA hz
  refine sr_pure ho hw hN _ (fun a w ha hh => ?_) (h b o rfl fun w hh m u hm => ?_)
  · simp only [execOp, ha.ev hx, ha.ev hy]
    rw [Sem.run_bind, run_indexAt he b o n cap k j h0 h1]; rfl
  · rw [World.cell?_of_block (w := c.w0) (hh.kept.block b (World.block_lt_of_cell? _ _ (hc m u hm)) hgG)]; exact hc m u hm
/-- An element of a row of the call's own. -/
theorem sr_indexRow {t e : TypeId} {z : Nat} {x y : Operand} {o : Option Nat} {n cap q : Nat} {et : TypeId} {z' : Nat} {k : IntKind} {j : Int} {cs : List Value} (ho : ops[i]? = some ⟨some d, .indexAddr t x y, ty, pos, aft, g⟩) (hw : wants ops L g = some true) (hN : Nat.blt d c.N = true)
    (hx : ev L x = some (rowV o n cap)) (hy : ev L y = some (.int k j)) (he : elOf c.P t = some (e, z)) (hc : H[q]? = some (rowC o n cap et z' cs)) (h0 : 0 ≤ j) (h1 : j < n)
    (h : ∀ b, o = some b → Rk c K ((d, .pointer (some ⟨b, j.toNat * z, none⟩)) :: L) H) : Rk c (wpOp c.P ops (QN c T) i K) L H := fun a w ha hh => by
  cases o with
  | none => have := ((hh.hp.get hc).1.2.2.2 rfl).1; omega
  | some b =>
    refine sr_pure ho hw hN _ (fun a w ha hh => ?_) (h b rfl) a w ha hh
    simp only [execOp, ha.ev hx, ha.ev hy, rowV, Option.map_some]
    rw [Sem.run_bind, run_indexAt he b 0 n cap k j h0 h1]; simp
theorem cells_of_rowC {ok : Nat → Prop} {w : World} {b n cap : Nat} {t : TypeId} {z : Nat} {cs : List Value} (h : (rowC (some b) n cap t z cs).holds ok w) : ∀ j u, cs[j]? = some u → w.cell? ⟨b, 0 + j, none⟩ = some u := fun j u hj => by
  obtain ⟨_, ob, hob, cur, rfl, hs, ht⟩ := h.2 b rfl
  rw [← ht, List.getElem?_take] at hj
  split at hj
  · simp [World.cell?, hob]; simpa using hj
  · cases hj
theorem sr_loadRow {t : TypeId} {x : Operand} {b off q0 n cap q : Nat} {et : TypeId} {z : Nat} {cs : List Value} {v : Value} (ho : ops[i]? = some ⟨some d, .load t x, ty, pos, aft, g⟩) (hw : wants ops L g = some true) (hN : Nat.blt d c.N = true) (hx : ev L x = some (.pointer (some ⟨b, q0, none⟩)))
    (hc : H[q]? = some (rowC (some b) n cap et z cs)) (hq : q0 = off) (hv : rdV c.P t cs off = some v) (h : Rk c K ((d, v) :: L) H) : Rk c (wpOp c.P ops (QN c T) i K) L H :=
  sr_loadAt ho hw hN hx (hq.trans (Nat.zero_add off).symm) (fun w hh => cells_of_rowC (hh.hp.get hc)) hv h
theorem spl_length {cs : List Value} {off : Nat} {vs : List Value} (h : off + vs.length ≤ cs.length) : (spl cs off vs).length = cs.length := by
  simp [spl]; omega
theorem sr_storeRow {t et : TypeId} {x y : Operand} {b off n cap z m q : Nat} {cs vs : List Value} {v : Value} (ho : ops[i]? = some ⟨none, .store t x y, ty, pos, aft, g⟩) (hw : wants ops L g = some true) (hx : ev L x = some (.pointer (some ⟨b, off, none⟩))) (hy : ev L y = some v)
    (hc : H[q]? = some (rowC (some b) n cap et z cs)) (hs : szOf c.P t = some m) (hvs : v.cells.toList = vs) (hl : vs.length = m) (h1 : ones vs = true) (hoff : off + m ≤ cs.length) (h : Rk c K L (H.set q (rowC (some b) n cap et z (spl cs off vs)))) : Rk c (wpOp c.P ops (QN c T) i K) L H :=
  sr_root0 ho hw fun a w ha hh => by
    obtain ⟨⟨p1, p2, p3, p4⟩, hp⟩ := hh.hp.get hc
    obtain ⟨hb, ob, hob, cur, rfl, hs', ht⟩ := hp b rfl
    have hlen : cs.length ≤ cur.size := by rw [← ht]; simp; omega
    have hob' : w.heap[b]? = some (.cells cur.toList.toArray et (0, 0)) := by simpa using hob
    have hrun := run_storeVar (P := c.P) hs hvs hl (ones_mem h1) hob' (off := off) (by simp; omega)
    refine ⟨w.setRow b (spl cur.toList off vs).toArray, ?_, fun a' ha' => h a' _ ha' (hh.upd _ hc rfl rfl ⟨rfl, rfl, rfl, by simp⟩ (fun j hj _ => setRow_other _ _ _ _ hj) ⟨⟨?_, p2, p3, p4⟩, _, setRow_heap _ _ _ _ _ _ hob, _, rfl, ?_, ?_⟩)⟩
    · simp only [execOp, ha.ev hx, ha.ev hy, Instr.storeAt, Instr.sureAddr]
      rw [Sem.run_bind, Sem.run_bind, Sem.run_pure]
      simp only [Result.andThen_ok]
      rw [hrun]; rfl
    · rw [spl_length (by omega)]; exact p1
    · have := spl_length (cs := cur.toList) (off := off) (vs := vs) (by simp; omega)
      rw [← hs']
      simpa using this
    · have e1 : cur.toList = cs ++ cur.toList.drop (n * z) := by rw [← ht]; simp
      have e2 : (spl cur.toList off vs) = spl cs off vs ++ cur.toList.drop (n * z) := by
        generalize cur.toList.drop (n * z) = r at e1
        rw [e1]
        simp only [spl]
        rw [List.take_append_of_le_length (by omega), List.drop_append_of_le_length (by omega)]
        simp
      show (spl cur.toList off vs).take (n * z) = _
      rw [e2, List.take_left' (by rw [spl_length (by omega)]; exact p1)]
theorem sr_len {t : TypeId} {x : Operand} {A : Option Addr} {n cap : Nat} {e : TypeId} {z : Nat} (ho : ops[i]? = some ⟨some d, .call ⟨.builtin .len, #[x], #[t]⟩, ty, pos, aft, g⟩) (hw : wants ops L g = some true) (hN : Nat.blt d c.N = true) (hx : ev L x = some (.slice A n cap)) (he : elOf c.P t = some (e, z))
    (h : Rk c K ((d, .int .i64 n) :: L) H) : Rk c (wpOp c.P ops (QN c T) i K) L H :=
  sr_pure ho hw hN _ (fun a w ha hh => by
    obtain ⟨hu, _⟩ := elOf_inv he
    have hu' : c.P.underlying t = some (.slice (c.P.elem t)) := by simp [Program.elem, hu]
    simp only [execOp, resolve, List.map_toArray, List.map_cons, List.map_nil, ha.ev hx]
    rw [Sem.run_bind, Sem.run_pure]
    simp only [Result.andThen_ok, invoke, builtin]
    rw [Sem.run_bind, run_len_slice (h := hu')]; rfl) h
def evP (L : List (Nat × Value)) : Nat → List (Nat × Operand) → Option (List Value)
  | _, [] => some []
  | k, (j, x) :: r => bif Nat.beq j k then (match ev L x, evP L (k + 1) r with
    | some v, some vs => some (v :: vs)
    | _, _ => none) else none
theorem evP_inv {L : List (Nat × Value)} {N : FN} {a : Act} (ha : Fr N L a) : ∀ {ps : List (Nat × Operand)} {k : Nat} {vs : List Value}, evP L k ps = some vs → ps.map (fun (i, x) => (i, a.eval x)) = (vs.zipIdx k).map fun (v, i) => (i, v)
  | [], k, vs, h => by simp [evP] at h; subst h; rfl
  | (j, x) :: r, k, vs, h => by
    simp only [evP] at h
    cases hb : Nat.beq j k with
    | false => rw [hb] at h; simp at h
    | true =>
      obtain rfl := beq_eq_of hb
      rw [hb, cond_true] at h
      split at h
      · rename_i v us hv hus
        simp only [Option.some.injEq] at h
        subst h
        simp [ha.ev hv, evP_inv ha hus]
      · cases h
def catV (vs : List Value) : List Value := vs.flatMap fun v => v.cells.toList
theorem fold_set_at : ∀ (us : List Value) (o k : Nat) (cs : Array Value) (m : Nat), o + k + us.length ≤ cs.size →
    ((us.zipIdx k).foldl (fun cs (p : Value × Nat) => cs.setIfInBounds (o + p.2) p.1) cs)[m]? = if o + k ≤ m ∧ m < o + k + us.length then us[m - (o + k)]? else cs[m]?
  | [], o, k, cs, m, hk => by
    rw [if_neg (by simp only [List.length_nil]; omega)]; simp
  | u :: us, o, k, cs, m, hk => by
    simp only [List.length_cons] at hk ⊢
    rw [List.zipIdx_cons, List.foldl_cons, fold_set_at us o (k + 1) _ m (by simp; omega)]
    simp only [Array.getElem?_setIfInBounds]
    by_cases h1 : m = o + k
    · subst h1
      rw [if_neg (by omega), if_pos rfl, if_pos (by omega), if_pos (by omega)]
      simp
    · by_cases h2 : o + k ≤ m ∧ m < o + k + (us.length + 1)
      · rw [if_pos (by omega), if_pos h2]
        rw [show m - (o + k) = (m - (o + (k + 1))) + 1 by omega]
        simp
      · rw [if_neg (by omega), if_neg h2, if_neg (by omega)]
theorem fold_set (us : List Value) (o k : Nat) (cs : Array Value) (h : o + k + us.length ≤ cs.size) : ((us.zipIdx k).foldl (fun cs (p : Value × Nat) => cs.setIfInBounds (o + p.2) p.1) cs).toList = cs.toList.take (o + k) ++ us ++ cs.toList.drop (o + k + us.length) := by
  apply List.ext_getElem?
  intro m
  rw [Array.getElem?_toList, fold_set_at us o k cs m h, List.append_assoc, List.getElem?_append, List.getElem?_append, List.getElem?_take, List.getElem?_drop]
  have hl : (cs.toList.take (o + k)).length = o + k := by simp; omega
  rw [hl]
  by_cases h1 : m < o + k
  · rw [if_neg (by omega), if_pos h1, if_pos h1]; simp
  · by_cases h2 : m < o + k + us.length
    · rw [if_pos (by omega), if_neg h1, if_pos (by omega)]
    · rw [if_neg (by omega), if_neg h1, if_neg (by omega)]
      rw [show o + k + us.length + (m - (o + k) - us.length) = m by omega]; simp
theorem fill_cat {z : Nat} : ∀ (vs : List Value) (k : Nat) (cells : Array Value), (∀ v ∈ vs, v.cells.size = z) → (k + vs.length) * z = cells.size →
    Instr.fill (fun i => some (i * z, z)) cells ((vs.zipIdx k).map fun (v, i) => (i, v)) = some (cells.toList.take (k * z) ++ catV vs).toArray
  | [], k, cells, _, hs => by
    simp only [List.length_nil, Nat.add_zero] at hs
    simp only [List.zipIdx_nil, List.map_nil, Instr.fill, catV, List.flatMap_nil, List.append_nil, hs]
    rw [List.take_of_length_le (by simp)]
  | v :: vs, k, cells, hv, hs => by
    have hvz := hv v (.head _)
    simp only [List.length_cons] at hs
    have e1 : (k + (vs.length + 1)) * z = k * z + z + vs.length * z := by rw [Nat.add_mul, Nat.add_mul, Nat.one_mul]; omega
    have hs' := hs
    rw [e1] at hs'
    have hle : k * z + z ≤ cells.size := by omega
    clear hs'
    simp only [List.zipIdx_cons, List.map_cons, Instr.fill]
    rw [if_neg (by simp only [hvz, ne_eq, not_true_eq_false, decide_false, Bool.false_or, decide_eq_true_eq]; omega)]
    have hf := fold_set v.cells.toList (k * z) 0 cells (by simp [hvz]; omega)
    have hf' : (Array.foldl (fun cs (x : Value × Nat) => cs.setIfInBounds (k * z + x.2) x.1) cells v.cells.zipIdx).toList = cells.toList.take (k * z) ++ v.cells.toList ++ cells.toList.drop (k * z + z) := by
      rw [← Array.foldl_toList, Array.toList_zipIdx]
      rw [hf]; simp [hvz]
    have hsz : (Array.foldl (fun cs (x : Value × Nat) => cs.setIfInBounds (k * z + x.2) x.1) cells v.cells.zipIdx).size = cells.size := by
      rw [← Array.length_toList, hf']; simp [hvz]; omega
    have := fill_cat vs (k + 1) (Array.foldl (fun cs (x : Value × Nat) => cs.setIfInBounds (k * z + x.2) x.1) cells v.cells.zipIdx) (fun u hu => hv u (.tail _ hu)) (by rw [hsz, ← hs]; congr 1; omega)
    rw [this, hf']
    congr 2
    rw [List.take_append_of_le_length (by simp [hvz, Nat.add_mul]; omega), List.take_of_length_le (by simp [hvz, Nat.add_mul]; omega)]
    simp [catV]
theorem run_buildSlice {P : Program} {t e : TypeId} {z n : Nat} {zv : Value} {vs : List Value} (he : elOf P t = some (e, z)) (hz0 : 0 < z) (hzs : zeroOf P e = some zv) (hl : vs.length = n) (hv : ∀ v ∈ vs, v.cells.size = z) (hm : n * z ≤ 16777216) (w : World) :
    (Instr.buildSlice t n ((vs.zipIdx 0).map fun (v, i) => (i, v)).toArray).run P w = .ok (.slice (some ⟨w.heap.size, 0, none⟩) n n) (w.alloc (.cells (catV vs).toArray e)) := by
  obtain ⟨hu, j, hj, hjz⟩ := elOf_inv he
  have hsz : szOf P e = some z := by simp [szOf, hj, hjz]
  unfold Instr.buildSlice
  rw [Sem.run_bind, run_underlying hu]
  simp only [Result.andThen_ok]
  rw [Sem.run_bind, run_sizeOf hsz]
  simp only [Result.andThen_ok]
  rw [if_neg (by omega)]
  split
  · rw [Sem.run_bind, Sem.run_pure]
    simp only [Result.andThen_ok]
    rw [fill_cat vs 0 _ hv (by simp [hl])]
    simp only [Nat.zero_mul, List.take_zero, List.nil_append]
    rfl
  · rw [Sem.run_bind, run_zeroValue hzs]
    simp only [Result.andThen_ok]
    rw [Sem.run_bind, Sem.run_pure]
    simp only [Result.andThen_ok]
    rw [fill_cat vs 0 _ hv (by simp [hl])]
    simp only [Nat.zero_mul, List.take_zero, List.nil_append]
    rfl
theorem catV_length {z : Nat} : ∀ {vs : List Value}, (∀ v ∈ vs, v.cells.size = z) → (catV vs).length = vs.length * z
  | [], _ => by simp [catV]
  | v :: vs, h => by
    have h1 := h v (.head _)
    have h2 := catV_length (vs := vs) fun u hu => h u (.tail _ hu)
    simp only [catV, List.flatMap_cons, List.length_append, List.length_cons, Array.length_toList, h1] at h2 ⊢
    rw [h2, Nat.add_mul]; omega
theorem sr_buildSlice {t e : TypeId} {z n : Nat} {ps : Array (Nat × Operand)} {zv : Value} {vs cs : List Value} (ho : ops[i]? = some ⟨some d, .buildSlice t n ps, ty, pos, aft, g⟩) (hw : wants ops L g = some true) (hN : Nat.blt d c.N = true) (hx : evP L 0 ps.toList = some vs) (he : elOf c.P t = some (e, z)) (hz : Nat.blt 0 z = true)
    (hzv : zeroOf c.P e = some zv) (hl : vs.length = n) (hv : ∀ v ∈ vs, v.cells.size = z) (hm : Nat.ble (n * z) 100000 = true) (hcs : catV vs = cs)
    (h : ∀ b, Rk c K ((d, rowV (some b) n n) :: L) (rowC (some b) n n e z cs :: H)) : Rk c (wpOp c.P ops (QN c T) i K) L H :=
  sr_root ho hw hN fun a w ha hh => by
    have hz0 : 0 < z := by simpa [Nat.blt_eq] using hz
    have hm0 : n * z ≤ 100000 := by simpa [Nat.ble_eq] using hm
    have hn : n ≤ n * z := Nat.le_mul_of_pos_right _ hz0
    have hcl := catV_length hv
    subst hcs
    refine ⟨rowV (some w.heap.size) n n, w.alloc (.cells (catV vs).toArray e), ?_, fun a' ha' => h _ a' _ ha' (hh.grow (Hn := [rowC (some w.heap.size) n n e z (catV vs)]) ⟨Kept.of_below ((Below.refl _ _).alloc (Nat.le_refl _) _), ⟨⟨⟨by rw [hcl, hl], Nat.le_refl _, by simp only [maxLen]; omega, fun e => by cases e⟩, fun g1 e1 => by
        cases e1; exact ⟨.inl (Nat.le_refl _), _, heap_alloc_new w _, _, rfl, by simp [hcl, hl], by rw [← hl, ← hcl]; simp⟩⟩, fun g1 e1 => by simp [blocks]⟩, trivial⟩)⟩
    have hps : (ps.map fun (i, x) => (i, a.eval x)) = ((vs.zipIdx 0).map fun (v, i) => (i, v)).toArray := by
      rw [← evP_inv ha hx, ← List.map_toArray]
    simp only [execOp]
    rw [Sem.run_bind, hps, run_buildSlice he hz0 hzv hl hv (by omega)]; rfl

/-! ### append -/
def byOf (P : Program) (t : TypeId) : Option Nat := (P.info? t).map (·.bytes)
theorem run_append_types {P : Program} {t t' e e' ty : TypeId} (ht : P.underlying t = some (.slice e)) (ht' : P.underlying t' = some (.slice e')) (A B : Option Addr) (n m c c' : Nat) (w : World) : (Builtin.append_ #[t, t'] ty #[.slice A n c, .slice B m c']).run P w = (Builtin.append_ #[t, t] ty #[.slice A n c, .slice B m c']).run P w := by
  simp [Builtin.append_, run_underlying ht, run_underlying ht']
/-- append to a row of the call's own; what is appended stands somewhere else. -/
theorem sr_append {t t' e e' : TypeId} {z z' bytes : Nat} {x y : Operand} {o : Option Nat} {n cap m cap' q : Nat} {A : Option Addr} {zv : Value} {cs news : List Value}
    (ho : ops[i]? = some ⟨some d, .call ⟨.builtin .append, #[x, y], #[t, t']⟩, ty, pos, aft, g⟩) (hw : wants ops L g = some true) (hN : Nat.blt d c.N = true) (hx : ev L x = some (rowV o n cap)) (hy : ev L y = some (.slice A m cap'))
    (he : elOf c.P t = some (e, z)) (he' : elOf c.P t' = some (e', z')) (hz : Nat.blt 0 z = true) (hzv : zeroOf c.P e = some zv) (hzs : zv.cells.size = z) (hb : byOf c.P e = some bytes) (hc : H[q]? = some (rowC o n cap e z cs))
    (hl : news.length = m * z) (hA : ∀ w, Heap c.w0 c.G H w → Has [] w A news) (h1 : ∀ u ∈ news, u.oneCell' = true) (hmax : (n + m) * bytes ≤ 140737488355328) (hb0 : Nat.blt 0 bytes = true)
    (h : ∀ o' cap1, Rk c K ((d, rowV o' (n + m) cap1) :: L) (rowC o' (n + m) cap1 e z (cs ++ news) :: H.eraseIdx q)) : Rk c (wpOp c.P ops (QN c T) i K) L H :=
  sr_root ho hw hN fun a w ha hh => by
    obtain ⟨hu, j, hj, hjz⟩ := elOf_inv he
    have hz0 : 0 < z := by simpa [Nat.blt_eq] using hz
    have hbb : 0 < bytes := by simpa [Nat.blt_eq] using hb0
    have hn : n + m ≤ (n + m) * bytes := Nat.le_mul_of_pos_right _ hbb
    obtain ⟨j', hj', hjb⟩ := Option.map_eq_some_iff.1 hb
    obtain ⟨j'', hj'', hzz⟩ := Option.bind_eq_some_iff.1 hzv
    rw [hj] at hj' hj''
    obtain rfl := Option.some.inj hj'
    obtain rfl := Option.some.inj hj''
    have hchunk := hh.hp.get hc
    have hown := rowC_owns hchunk
    have key : ∃ v' w', (Builtin.append_ #[t, t] ty #[rowV o n cap, .slice A m cap']).run c.P w = .ok v' w' ∧ w'.ownsRow 0 e z v' (n + m) (cs ++ news) ∧ w.grownBy w' (rowV o n cap).ownBlock ∧ (v'.ownBlock = (rowV o n cap).ownBlock ∨ v'.ownBlock = some w.heap.size) := by
      by_cases hne : news = []
      · subst hne
        have hm0 : m = 0 := by
          rcases Nat.eq_zero_or_pos m with h0 | h0
          · exact h0
          · have := Nat.mul_pos h0 hz0; simp at hl; omega
        subst hm0
        refine ⟨rowV o n cap, w, ?_, by simpa using hown, World.grownBy.refl _ _, .inl rfl⟩
        cases o with
        | none => obtain ⟨rfl, rfl⟩ := hchunk.1.2.2.2 rfl; cases A <;> simp [rowV, Builtin.append_, run_underlying hu, sizeOf, typeInfo, hj, Builtin.lenOf, Builtin.firstCells, loadCells, loadCellsFrom]
        | some b => cases A <;> simp [rowV, Builtin.append_, run_underlying hu, sizeOf, typeInfo, hj, Builtin.lenOf, Builtin.firstCells, loadCells, loadCellsFrom, hchunk.1.2.1, storeCells]
      · obtain ⟨b, off, rfl, _, hcell⟩ := hA w hh hne
        obtain ⟨v', w', hr, h2, h3, _, h5⟩ := run_append_own_at (P := c.P) w 0 t ty e j zv z bytes hu hj hzz hjz hjb hzs hz0 (rowV o n cap) n cs hown ⟨b, off, none⟩ m cap' news hl
          (fun u v hv => by rw [Addr.add_lit]; exact hcell u v hv) h1 (by simp only [maxLen]; omega) hmax (Nat.zero_le _)
        exact ⟨v', w', hr, h2, h3, h5⟩
    obtain ⟨v', w', hr, hown', hg, hat⟩ := key
    obtain ⟨o', cap1, rfl, hob, hch'⟩ := rowC_of_owns hown'
    have hrb : (rowV o n cap).ownBlock = o := by cases o <;> rfl
    rw [hrb] at hg hat
    rw [hob] at hat
    refine ⟨_, w', ?_, fun a' ha' => h o' cap1 a' _ ha' ⟨⟨hg.os.trans hh.kept.os, hg.tape.trans hh.kept.tape, hg.output.trans hh.kept.output, Nat.le_trans hh.kept.size hg.size, fun k hk hgG => ?_⟩, ⟨hch' _ fun b hb => ?_, fun b hb hm => ?_⟩, ?_⟩⟩
    · simp only [execOp, resolve, List.map_toArray, List.map_cons, List.map_nil, ha.ev hx, ha.ev hy]
      rw [Sem.run_bind, Sem.run_pure]
      simp only [Result.andThen_ok, invoke, builtin]
      rw [Sem.run_bind]
      have ht := run_append_types (ty := ty) hu (elOf_inv he').1 (o.map fun g => ⟨g, 0, none⟩) A n m cap cap' w
      rw [show rowV o n cap = .slice (o.map fun g => ⟨g, 0, none⟩) n cap from rfl] at hr ⊢
      rw [ht, hr]; rfl
    · rw [hg.block k (Nat.lt_of_lt_of_le hk hh.kept.size) (fun e => ?_)]
      · exact hh.kept.block k hk hgG
      · rcases (hchunk.2 k e.symm).1 with h1 | h1
        · omega
        · exact hgG h1
    · rcases hat with hat | hat
      · exact (hchunk.2 b (hat.symm.trans hb)).1
      · rw [hat] at hb; cases hb; exact .inl hh.kept.size
    · have hm' : some b ∈ blocks (H.eraseIdx q) := hm
      have hlt := (hh.hp.pick (i := q)).lt hm'
      have hb' : o' = some b := hb
      rcases hat with hat | hat
      · exact eraseIdx_not hh.hp hc b (hat.symm.trans hb') hm'
      · rw [hat] at hb'; cases hb'; omega
    · refine (hh.hp.pick (i := q)).kept fun k hk => hg.block k ((hh.hp.pick (i := q)).lt hk).2 ?_
      intro e
      exact eraseIdx_not hh.hp hc k e.symm hk
end
end
end Go.Sl
