/- A part of the proof: words and contracts that the row is built on. -/
import Derived.Test.YtjngkghhdphfcaaSlDraw
namespace Go.Sl
open Go.RowKit
set_option linter.unusedVariables false
set_option linter.unusedSimpArgs false
/-! ### The values of single operations -/
section
variable {c : Cx} {L : List (Nat × Value)} {H : List Chunk} {K : Act → World → Prop}
variable {d : Nat} {ty : TypeId} {pos : String} {aft : Array Edge} {g : Option (Nat × Bool)}
theorem pv_move {x : Operand} {v : Value} (hx : ev L x = some v) : PV c L H ⟨some d, .move x, ty, pos, aft, g⟩ v := fun a w ha hh => by simp [execOp, ha.ev hx]
theorem pv_assign {x : Operand} {v : Value} (hx : ev L x = some v) : PV c L H ⟨some d, .assign x, ty, pos, aft, g⟩ v := fun a w ha hh => by simp [execOp, ha.ev hx]
theorem pv_pickT {x y z : Operand} {v : Value} (hx : ev L x = some (.bool true)) (hy : ev L y = some v) : PV c L H ⟨some d, .pick x y z, ty, pos, aft, g⟩ v := fun a w ha hh => by simp [execOp, ha.ev hx, ha.ev hy, asBool]
theorem pv_pickF {x y z : Operand} {v : Value} (hx : ev L x = some (.bool false)) (hy : ev L z = some v) : PV c L H ⟨some d, .pick x y z, ty, pos, aft, g⟩ v := fun a w ha hh => by simp [execOp, ha.ev hx, ha.ev hy, asBool]
theorem pv_bin {op : BinOp} {t t' : TypeId} {x y : Operand} {u u' v : Value} (hx : ev L x = some u) (hy : ev L y = some u')
    (hv : ∀ w, (do eqGuard op t x y u u'; binOp op t u u' : Sem Value).run c.P w = .ok v w) : PV c L H ⟨some d, .binOp op t x y t', ty, pos, aft, g⟩ v := fun a w ha hh => by
  have := hv w
  simp only [execOp, ha.ev hx, ha.ev hy]
  rw [Sem.run_bind, this]; rfl
theorem pv_un {op : UnOp} {t : TypeId} {x : Operand} {u v : Value} (hx : ev L x = some u) (hv : ∀ w, (Op.unary op u).run c.P w = .ok v w) : PV c L H ⟨some d, .unOp op t x, ty, pos, aft, g⟩ v := fun a w ha hh => by
  have := hv w
  simp only [execOp, ha.ev hx]
  rw [Sem.run_bind, this]; rfl
theorem pv_conv {s t : TypeId} {x : Operand} {u v : Value} (hx : ev L x = some u) (hv : ∀ w, (convert s t u).run c.P w = .ok v w) : PV c L H ⟨some d, .convert s t x, ty, pos, aft, g⟩ v := fun a w ha hh => by
  have := hv w
  simp only [execOp, ha.ev hx]
  rw [Sem.run_bind, this]; rfl
theorem pv_extract {x : Operand} {k : Nat} {vs : Array Value} {v : Value} (hx : ev L x = some (.tuple vs)) (hv : vs[k]? = some v) : PV c L H ⟨some d, .extract x k, ty, pos, aft, g⟩ v := fun a w ha hh => by simp [execOp, ha.ev hx, Instr.extract, hv]
theorem pv_nilCheck {x : Operand} {ad : Addr} (hx : ev L x = some (.pointer (some ad))) : PV c L H ⟨some d, .nilCheck x, ty, pos, aft, g⟩ (.pointer (some ad)) := fun a w ha hh => by simp [execOp, ha.ev hx]
theorem pv_fieldAddr {s : TypeId} {x : Operand} {f b o k m : Nat} (hx : ev L x = some (.pointer (some ⟨b, o, none⟩))) (hf : fldOf c.P s f = some k) (hm : o + k = m) : PV c L H ⟨some d, .fieldAddr s x f, ty, pos, aft, g⟩ (.pointer (some ⟨b, m, none⟩)) := fun a w ha hh => by
  subst hm
  simp only [execOp, ha.ev hx]
  rw [Sem.run_bind, run_fieldAt hf]; rfl
theorem pv_loadAt {t : TypeId} {x : Operand} {b p off q : Nat} {cs : List Value} {v : Value} (hx : ev L x = some (.pointer (some ⟨b, q, none⟩)))
    (hq : q = p + off) (hc : ∀ w, Heap c.w0 c.G H w → ∀ j u, cs[j]? = some u → w.cell? ⟨b, p + j, none⟩ = some u) (hv : rdV c.P t cs off = some v) : PV c L H ⟨some d, .load t x, ty, pos, aft, g⟩ v := fun a w ha hh => by
  subst hq
  simp only [execOp, ha.ev hx, Instr.loadAt, Instr.sureAddr]
  rw [Sem.run_bind, Sem.run_bind, Sem.run_pure]
  simp only [Result.andThen_ok]
  rw [run_loadVar hv (hc w hh)]; rfl
theorem pv_load {t : TypeId} {x : Operand} {b off k : Nat} {et : TypeId} {cs : List Value} {v : Value} (hx : ev L x = some (.pointer (some ⟨b, off, none⟩)))
    (hc : H[k]? = some (cellsC b et cs)) (hv : rdV c.P t cs off = some v) : PV c L H ⟨some d, .load t x, ty, pos, aft, g⟩ v :=
  pv_loadAt hx (Nat.zero_add off).symm (fun w hh => cells_of_cellsC (hh.hp.get hc)) hv
theorem pv_load1 {t : TypeId} {x : Operand} {b off k : Nat} {et : TypeId} {cs : List Value} {v : Value} (hx : ev L x = some (.pointer (some ⟨b, off, none⟩)))
    (hc : H[k]? = some (cellsC b et cs)) (ha : aggB c.P t = some false) (hv : cs[off]? = some v) : PV c L H ⟨some d, .load t x, ty, pos, aft, g⟩ v := pv_load hx hc (rdV_one ha hv)
theorem pv_loadN {t : TypeId} {x : Operand} {b off k n : Nat} {et : TypeId} {cs : List Value} (vs : List Value) (hx : ev L x = some (.pointer (some ⟨b, off, none⟩)))
    (hc : H[k]? = some (cellsC b et cs)) (ha : aggB c.P t = some true) (hs : szOf c.P t = some n) (hle : Nat.ble (off + n) cs.length = true) (hv : (cs.drop off).take n = vs) : PV c L H ⟨some d, .load t x, ty, pos, aft, g⟩ (.agg vs.toArray) :=
  pv_load hx hc (rdV_agg ha hs (by simpa [Nat.ble_eq] using hle) hv)
theorem pv_loadRow {t : TypeId} {x : Operand} {b off q0 n cap q : Nat} {et : TypeId} {z : Nat} {cs : List Value} {v : Value} (hx : ev L x = some (.pointer (some ⟨b, q0, none⟩)))
    (hc : H[q]? = some (rowC (some b) n cap et z cs)) (hq : q0 = off) (hv : rdV c.P t cs off = some v) : PV c L H ⟨some d, .load t x, ty, pos, aft, g⟩ v :=
  pv_loadAt hx (hq.trans (Nat.zero_add off).symm) (fun w hh => cells_of_rowC (hh.hp.get hc)) hv
theorem pv_indexAt {t e : TypeId} {z : Nat} {x y : Operand} {b o n cap : Nat} {k : IntKind} {j : Int} (hx : ev L x = some (.slice (some ⟨b, o, none⟩) n cap)) (hy : ev L y = some (.int k j)) (he : elOf c.P t = some (e, z)) (h0 : 0 ≤ j) (h1 : j < n) :
    PV c L H ⟨some d, .indexAddr t x y, ty, pos, aft, g⟩ (.pointer (some ⟨b, o + j.toNat * z, none⟩)) := fun a w ha hh => by
  simp only [execOp, ha.ev hx, ha.ev hy]
  rw [Sem.run_bind, run_indexAt he b o n cap k j h0 h1]; rfl
theorem pv_indexRo {t e : TypeId} {z : Nat} {x y : Operand} {A : Option Addr} {b o n cap : Nat} {k : IntKind} {j : Int} (hx : ev L x = some (.slice A n cap)) (hy : ev L y = some (.int k j)) (he : elOf c.P t = some (e, z)) (hA : A = some ⟨b, o, none⟩) (h0 : 0 ≤ j) (h1 : j < n) :
    PV c L H ⟨some d, .indexAddr t x y, ty, pos, aft, g⟩ (.pointer (some ⟨b, o + j.toNat * z, none⟩)) := pv_indexAt (hA ▸ hx) hy he h0 h1
theorem pv_indexRow {t e : TypeId} {z : Nat} {x y : Operand} {b n cap : Nat} {k : IntKind} {j : Int} (hx : ev L x = some (rowV (some b) n cap)) (hy : ev L y = some (.int k j)) (he : elOf c.P t = some (e, z)) (h0 : 0 ≤ j) (h1 : j < n) :
    PV c L H ⟨some d, .indexAddr t x y, ty, pos, aft, g⟩ (.pointer (some ⟨b, j.toNat * z, none⟩)) := by
  have := pv_indexAt (c := c) (H := H) (d := d) (ty := ty) (pos := pos) (aft := aft) (g := g) (b := b) (o := 0) (n := n) (cap := cap) hx hy he h0 h1
  rwa [Nat.zero_add] at this
theorem pv_len {t : TypeId} {x : Operand} {A : Option Addr} {n cap : Nat} {e : TypeId} {z : Nat} (hx : ev L x = some (.slice A n cap)) (he : elOf c.P t = some (e, z)) : PV c L H ⟨some d, .call ⟨.builtin .len, #[x], #[t]⟩, ty, pos, aft, g⟩ (.int .i64 n) := fun a w ha hh => by
  obtain ⟨hu, _⟩ := elOf_inv he
  have hu' : c.P.underlying t = some (.slice (c.P.elem t)) := by simp [Program.elem, hu]
  simp only [execOp, resolve, List.map_toArray, List.map_cons, List.map_nil, ha.ev hx]
  rw [Sem.run_bind, Sem.run_pure]
  simp only [Result.andThen_ok, invoke, builtin]
  rw [Sem.run_bind, run_len_slice (h := hu')]; rfl
theorem pv_max {k : IntKind} {t t' : TypeId} {x y : Operand} {a b : Int} (hx : ev L x = some (.int k a)) (hy : ev L y = some (.int k b)) : PV c L H ⟨some d, .call ⟨.builtin .max, #[x, y], #[t, t']⟩, ty, pos, aft, g⟩ (.int k (max a b)) := fun A w ha hh => by
  simp only [execOp, resolve, List.map_toArray, List.map_cons, List.map_nil, ha.ev hx, ha.ev hy]
  rw [Sem.run_bind, Sem.run_pure]
  simp only [Result.andThen_ok, invoke, builtin]
  have : (Builtin.max_ #[t, t'] ty #[Value.int k a, Value.int k b]).run c.P w = .ok (.int k (max a b)) w := by
    simp only [Builtin.max_]
    simp [Builtin.max2, Int.max_def]
    split <;> split <;> first | rfl | (congr 2; omega) | omega
  rw [Sem.run_bind, this]; rfl
theorem pv_min {k : IntKind} {t t' : TypeId} {x y : Operand} {a b : Int} (hx : ev L x = some (.int k a)) (hy : ev L y = some (.int k b)) : PV c L H ⟨some d, .call ⟨.builtin .min, #[x, y], #[t, t']⟩, ty, pos, aft, g⟩ (.int k (min a b)) := fun A w ha hh => by
  simp only [execOp, resolve, List.map_toArray, List.map_cons, List.map_nil, ha.ev hx, ha.ev hy]
  rw [Sem.run_bind, Sem.run_pure]
  simp only [Result.andThen_ok, invoke, builtin]
  have : (Builtin.min_ #[t, t'] ty #[Value.int k a, Value.int k b]).run c.P w = .ok (.int k (min a b)) w := by
    simp only [Builtin.min_]
    simp [Builtin.min2, Int.min_def]
    split <;> split <;> first | rfl | (congr 2; omega) | omega
  rw [Sem.run_bind, this]; rfl
theorem pv_makeInterface {t : TypeId} {x : Operand} {v : Value} (hx : ev L x = some v) (hm : ∀ w, (Instr.makeInterface t v).run c.P w = .ok (.iface t v) w) : PV c L H ⟨some d, .makeInterface t x, ty, pos, aft, g⟩ (.iface t v) := fun A w ha hh => by
  simp only [execOp, ha.ev hx]
  rw [Sem.run_bind, hm]; rfl
theorem pv_build {t : TypeId} {ps : Array (Nat × Operand)} {vs : List (Nat × Value)} (cs : List Value) (hx : evB L ps.toList = some vs) (hm : ∀ w, (Instr.build t vs.toArray).run c.P w = .ok (.agg cs.toArray) w) : PV c L H ⟨some d, .build t ps, ty, pos, aft, g⟩ (.agg cs.toArray) := fun A w ha hh => by
  have hxs : ps.map (fun (i, x) => (i, A.eval x)) = vs.toArray := by rw [← evB_inv ha hx, ← List.map_toArray]
  simp only [execOp, hxs]
  rw [Sem.run_bind, hm]; rfl
/-- A row that isn't empty has a block. -/
theorem rk_open {o : Option Nat} {n cap q : Nat} {et : TypeId} {z : Nat} {cs : List Value} (hc : H[q]? = some (rowC o n cap et z cs)) (hn : 0 < n) (h : ∀ b, o = some b → Rk c K L H) : Rk c K L H := fun a w ha hh => by
  cases o with
  | none => have := ((hh.hp.get hc).1.2.2.2 rfl).1; omega
  | some b => exact h b rfl a w ha hh
/-- The cells of what came in, whatever the chunks. -/
theorem has_cells {cs : List Value} {w0 : World} {G : List Nat} {H : List Chunk} {b o : Nat} (hg : b ∉ G) (hc : ∀ (i : Nat) v, cs[i]? = some v → w0.cell? ⟨b, o + i, none⟩ = some v) : ∀ w, Heap w0 G H w → ∀ (m : Nat) u, cs[m]? = some u → w.cell? ⟨b, o + m, none⟩ = some u := fun w hh m u hm => by
  rw [World.cell?_of_block (w := w0) (hh.kept.block b (World.block_lt_of_cell? _ _ (hc m u hm)) hg)]; exact hc m u hm
end
/-! ### Slices of what came in, and of rows -/
theorem Has.sub {G : List Nat} {w : World} {A : Option Addr} {cs : List Value} (h : Has G w A cs) (k : Nat) {sub : List Value} (hs : ∃ m, sub = (cs.drop k).take m) : Has G w (A.map (·.add k)) sub := fun hne => by
  obtain ⟨m, rfl⟩ := hs
  have hne' : cs ≠ [] := by rintro rfl; simp at hne
  obtain ⟨b, off, rfl, hg, hc⟩ := h hne'
  refine ⟨b, off + k, by simp [Addr.add_lit], hg, fun i v hv => ?_⟩
  rw [List.getElem?_take] at hv
  split at hv
  · rw [List.getElem?_drop] at hv
    rw [Nat.add_assoc]; exact hc _ _ hv
  · cases hv
theorem run_sliceOp {P : Program} {t e : TypeId} {z : Nat} (h : elOf P t = some (e, z)) {A : Option Addr} {n cap : Nat} {lo hi : Option Value} {l r : Nat} {w : World}
    (hh : ∀ w, (match hi with | some v => Instr.sliceBound v cap .sliceAcap | none => pure n : Sem Nat).run P w = .ok r w) (hl : ∀ w, (match lo with | some v => Instr.sliceBound v r .sliceB | none => pure 0 : Sem Nat).run P w = .ok l w) :
    (Instr.slice t (.slice A n cap) lo hi none).run P w = .ok (.slice (if cap = l then A else A.map (·.add (l * z))) (r - l) (cap - l)) w := by
  obtain ⟨hu, jn, hj, hz⟩ := elOf_inv h
  unfold Instr.slice
  rw [Sem.run_bind, run_underlying hu]
  simp only [Result.andThen_ok]
  have hb : (Instr.sliceBounds true n cap lo hi none).run P w = .ok (l, r, cap) w := by
    unfold Instr.sliceBounds
    simp only [Option.isSome_none, Bool.false_eq_true, if_false, if_true]
    rw [Sem.run_bind, Sem.run_pure]
    simp only [Result.andThen_ok]
    have hh1 := hh w
    have hl1 := hl w
    cases hi <;> cases lo <;> (simp only at hh1 hl1 ⊢; rw [Sem.run_bind, hh1]; simp only [Result.andThen_ok]; rw [Sem.run_bind, hl1]; rfl)
  rw [Sem.run_bind, hb]
  simp only [Result.andThen_ok]
  rw [Sem.run_bind]
  simp [sizeOf, typeInfo, hj, hz]
theorem run_sliceAt {P : Program} {t e : TypeId} {z : Nat} (h : elOf P t = some (e, z)) {A : Option Addr} {n cap : Nat} {lo hi : Option Value} {l r : Nat} {w : World}
    (hh : ∀ w, (match hi with | some v => Instr.sliceBound v cap .sliceAcap | none => pure n : Sem Nat).run P w = .ok r w) (hl : ∀ w, (match lo with | some v => Instr.sliceBound v r .sliceB | none => pure 0 : Sem Nat).run P w = .ok l w) :
    (Instr.sliceAt t (.slice A n cap) lo hi none).run P w = .ok (.slice (if cap = l then A else A.map (·.add (l * z))) (r - l) (cap - l)) w := by
  obtain ⟨hu, jn, hj, hz⟩ := elOf_inv h
  unfold Instr.sliceAt
  rw [Sem.run_bind, run_underlying hu]
  simp only [Result.andThen_ok]
  exact run_sliceOp h hh hl
theorem bound_int {P : Program} {k : IntKind} {x : Int} {y : Nat} {code : BoundsCode} (h0 : 0 ≤ x) (h1 : x ≤ y) : ∀ w, (Instr.sliceBound (.int k x) y code).run P w = .ok x.toNat w := fun w => by
  simp [Instr.sliceBound, asIntOf, h0, h1]
section
variable {c : Cx} {ops : Array Oper} {i : Nat} {K : Act → World → Prop} {T : List Item} {L : List (Nat × Value)} {H : List Chunk}
variable {d : Nat} {ty : TypeId} {pos : String} {aft : Array Edge} {g : Option (Nat × Bool)}
/-- An operand that may be left out. -/
def evO (L : List (Nat × Value)) : Option Operand → Option (Option Value)
  | none => some none
  | some x => (ev L x).map some
theorem evO_inv {L : List (Nat × Value)} {N : FN} {a : Act} (ha : Fr N L a) {x : Option Operand} {v : Option Value} (h : evO L x = some v) : x.map a.eval = v := by
  cases x with
  | none => simpa [evO] using h
  | some x =>
    obtain ⟨u, hu, rfl⟩ := Option.map_eq_some_iff.1 h
    simp [ha.ev hu]
/-- Some of what is only read: the address is some address that has these cells. -/
theorem sr_sliceRo {t e : TypeId} {z : Nat} {x : Operand} {y y' : Option Operand} {A : Option Addr} {n cap : Nat} {lo hi : Option Value} (l r : Nat) {cs sub : List Value} (ho : ops[i]? = some ⟨some d, .slice t x y y' none, ty, pos, aft, g⟩) (hw : wants ops L g = some true) (hN : Nat.blt d c.N = true)
    (hx : ev L x = some (.slice A n cap)) (hy : evO L y = some lo) (hy' : evO L y' = some hi) (he : elOf c.P t = some (e, z)) (hA : ∀ w, Heap c.w0 c.G H w → Has [] w A cs)
    (hh : ∀ w, (match hi with | some v => Instr.sliceBound v cap .sliceAcap | none => pure n : Sem Nat).run c.P w = .ok r w) (hl : ∀ w, (match lo with | some v => Instr.sliceBound v r .sliceB | none => pure 0 : Sem Nat).run c.P w = .ok l w) (hs : (cs.drop (l * z)).take ((r - l) * z) = sub) (hcap : cap = l → sub = [])
    (h : ∀ A', (∀ w, Heap c.w0 c.G H w → Has [] w A' sub) → Rk c K ((d, .slice A' (r - l) (cap - l)) :: L) H) : Rk c (wpOp c.P ops (QN c T) i K) L H :=
  sr_pure ho hw hN _ (fun a w ha hhw => by
    have e1 := evO_inv ha hy
    have e2 := evO_inv ha hy'
    simp only [execOp, ha.ev hx, Option.map_none, e1, e2]
    rw [Sem.run_bind, run_sliceAt he hh hl]; rfl) (h _ (fun w hhw => by
      by_cases hc : cap = l
      · rw [if_pos hc, hcap hc]; exact Has.nil _ _ _
      · rw [if_neg hc, ← hs]; exact (hA w hhw).sub _ ⟨_, rfl⟩))
end
end Go.Sl
