/- A part of the proof: words and contracts that the row is built on. -/
import Derived.Test.YtjngkghhdphfcaaSlNum
namespace Go.Sl
open Go.RowKit
set_option linter.unusedVariables false
set_option linter.unusedSimpArgs false
section
variable {α : Type} [Cells α]
omit [Cells α] in
theorem spl_mid (A B C vs : List Value) (j : Nat) (h : j + vs.length ≤ B.length) : spl (A ++ (B ++ C)) (A.length + j) vs = A ++ (spl B j vs ++ C) := by
  unfold spl
  rw [List.take_length_add_append, Nat.add_assoc, List.drop_length_add_append, List.take_append_of_le_length (by omega), List.drop_append_of_le_length h]
  simp
theorem enc_spl {xs : List α} {i j : Nat} {vs : List Value} (d a : α) (h : i < xs.length) (hj : Nat.ble (j + vs.length) (Cells.z α) = true) (hv : spl (Cells.cells (xs.getD i d)) j vs = Cells.cells a) : spl (enc xs) (i * Cells.z α + j) vs = enc (xs.set i a) := by
  have hj : j + vs.length ≤ Cells.z α := by simpa [Nat.ble_eq] using hj
  have e : enc xs = enc (xs.take i) ++ (Cells.cells (xs.getD i d) ++ enc (xs.drop (i + 1))) := by
    have : xs.getD i d = xs[i] := by simp [List.getD_eq_getElem?_getD, h]
    rw [this, ← enc_cons, ← enc_append, List.getElem_cons_drop, List.take_append_drop]
  have hl := Cells.len (xs.getD i d)
  have hlen : (enc (xs.take i)).length = i * Cells.z α := by
    rw [enc_length, List.length_take, Nat.min_eq_left (by omega)]
  rw [← enc_set a h, e, ← hlen, spl_mid _ _ _ _ _ (by omega)]
  have := spl_mid (enc (xs.take i)) (Cells.cells (xs.getD i d)) (enc (xs.drop (i + 1))) (Cells.cells a) 0 (by rw [hl, Cells.len]; omega)
  have e0 : (enc (xs.take i)).length = (enc (xs.take i)).length + 0 := rfl
  conv => rhs; rw [e0]
  rw [this, hv]
  congr 2
  unfold spl
  rw [List.take_zero, Nat.zero_add, List.drop_of_length_le (by rw [hl, Cells.len]; exact Nat.le_refl _)]
  simp
omit [Cells α] in
theorem getD_set {xs : List α} {i : Nat} (a : α) : (xs.set i a).length = xs.length := List.length_set ..
end
section
variable {c : Cx} {ops : Array Oper} {i : Nat} {K : Act → World → Prop} {T : List Item} {L : List (Nat × Value)} {H : List Chunk}
variable {d : Nat} {ty : TypeId} {pos : String} {aft : Array Edge} {g : Option (Nat × Bool)}
variable {α : Type} [Cells α]
/-- append, of lists that are told. -/
theorem sr_appendE {t t' e e' : TypeId} {z z' bytes : Nat} {x y : Operand} {o : Option Nat} {cap m cap' q n : Nat} {A : Option Addr} {zv : Value} {xs : List α} (ys : List α)
    (ho : ops[i]? = some ⟨some d, .call ⟨.builtin .append, #[x, y], #[t, t']⟩, ty, pos, aft, g⟩) (hw : wants ops L g = some true) (hN : Nat.blt d c.N = true) (hx : ev L x = some (rowV o n cap)) (hy : ev L y = some (.slice A m cap'))
    (he : elOf c.P t = some (e, z)) (he' : elOf c.P t' = some (e', z')) (hz : Nat.beq z (Cells.z α) = true) (hzv : zeroOf c.P e = some zv) (hzs : zv.cells.size = z) (hb : byOf c.P e = some bytes) (hc : H[q]? = some (rowC o n cap e z (enc xs)))
    (hA : ∀ w, Heap c.w0 c.G H w → Has [] w A (enc ys)) (hm : m = ys.length) (hn : n = xs.length) (hmax : (xs.length + ys.length) * bytes ≤ 140737488355328) (hb0 : Nat.blt 0 bytes = true)
    (h : ∀ o' cap1, Rk c K ((d, rowV o' (xs ++ ys).length cap1) :: L) (rowC o' (xs ++ ys).length cap1 e z (enc (xs ++ ys)) :: H.eraseIdx q)) : Rk c (wpOp c.P ops (QN c T) i K) L H := by
  have hz' := Nat.eq_of_beq_eq_true hz
  subst hz' hm hn
  have hp := Cells.pos (α := α)
  refine sr_append ho hw hN hx hy he he' (by simpa [Nat.blt_eq] using hp) hzv hzs hb hc (enc_length ys) hA (enc_one ys) hmax hb0 fun o' cap1 => ?_
  have := h o' cap1
  rwa [List.length_append, enc_append] at this
/-- Some of what came in. -/
theorem sr_sliceIn {t e : TypeId} {z : Nat} {x : Operand} {y y' : Option Operand} {A : Option Addr} {n cap : Nat} {lo hi : Option Value} {xs : List α} (l r : Nat) (ho : ops[i]? = some ⟨some d, .slice t x y y' none, ty, pos, aft, g⟩) (hw : wants ops L g = some true) (hN : Nat.blt d c.N = true)
    (hx : ev L x = some (.slice A n cap)) (hy : evO L y = some lo) (hy' : evO L y' = some hi) (he : elOf c.P t = some (e, z)) (hz : Nat.beq z (Cells.z α) = true) (hA : Has c.G c.w0 A (enc xs))
    (hh : ∀ w, (match hi with | some v => Instr.sliceBound v cap .sliceAcap | none => pure n : Sem Nat).run c.P w = .ok r w) (hl : ∀ w, (match lo with | some v => Instr.sliceBound v r .sliceB | none => pure 0 : Sem Nat).run c.P w = .ok l w) (hcap : r ≤ cap)
    (h : ∀ A', Has c.G c.w0 A' (enc ((xs.drop l).take (r - l))) → Rk c K ((d, .slice A' (r - l) (cap - l)) :: L) H) : Rk c (wpOp c.P ops (QN c T) i K) L H := by
  have hz' := Nat.eq_of_beq_eq_true hz
  subst hz'
  exact sr_pure ho hw hN _ (fun a w ha hhw => by
    have e1 := evO_inv ha hy
    have e2 := evO_inv ha hy'
    simp only [execOp, ha.ev hx, Option.map_none, e1, e2]
    rw [Sem.run_bind, run_sliceAt he hh hl]; rfl) (h _ (by
      by_cases hc : cap = l
      · rw [if_pos hc, show r - l = 0 by omega, List.take_zero]; exact Has.nil _ _ _
      · rw [if_neg hc, ← enc_sub]; exact hA.sub _ ⟨_, rfl⟩))
/-- Some of a row. -/
theorem sr_sliceRow {t e et : TypeId} {z z' : Nat} {x : Operand} {y y' : Option Operand} {o : Option Nat} {n cap q : Nat} {lo hi : Option Value} {xs : List α} (l r : Nat) (ho : ops[i]? = some ⟨some d, .slice t x y y' none, ty, pos, aft, g⟩) (hw : wants ops L g = some true) (hN : Nat.blt d c.N = true)
    (hx : ev L x = some (rowV o n cap)) (hy : evO L y = some lo) (hy' : evO L y' = some hi) (he : elOf c.P t = some (e, z)) (hz : Nat.beq z (Cells.z α) = true) (hc : H[q]? = some (rowC o n cap et z' (enc xs)))
    (hh : ∀ w, (match hi with | some v => Instr.sliceBound v cap .sliceAcap | none => pure n : Sem Nat).run c.P w = .ok r w) (hl : ∀ w, (match lo with | some v => Instr.sliceBound v r .sliceB | none => pure 0 : Sem Nat).run c.P w = .ok l w) (hcap : r ≤ cap)
    (h : ∀ A', (∀ ok w, (rowC o n cap et z' (enc xs)).holds ok w → Has [] w A' (enc ((xs.drop l).take (r - l)))) → Rk c K ((d, .slice A' (r - l) (cap - l)) :: L) H) : Rk c (wpOp c.P ops (QN c T) i K) L H := by
  have hz' := Nat.eq_of_beq_eq_true hz
  subst hz'
  exact sr_pure ho hw hN _ (fun a w ha hhw => by
    have e1 := evO_inv ha hy
    have e2 := evO_inv ha hy'
    simp only [execOp, ha.ev hx, rowV, Option.map_none, e1, e2]
    rw [Sem.run_bind, run_sliceAt he hh hl]; rfl) (h _ (fun ok w hch => by
      by_cases hc : cap = l
      · rw [if_pos hc, show r - l = 0 by omega, List.take_zero]; exact Has.nil _ _ _
      · rw [if_neg hc, ← enc_sub]; exact (rowC_has hch).sub _ ⟨_, rfl⟩))
/-- make, of a list of noughts. -/
theorem sr_makeE {t e : TypeId} {z bytes : Nat} {x y : Operand} {zv : Value} {kl kc : IntKind} {l r : Int} (a0 : α) (m n : Nat) (ho : ops[i]? = some ⟨some d, .makeSlice t x y, ty, pos, aft, g⟩) (hw : wants ops L g = some true) (hN : Nat.blt d c.N = true)
    (hx : ev L x = some (.int kl l)) (hy : ev L y = some (.int kc r)) (he : elOf c.P t = some (e, z)) (hz : Nat.beq z (Cells.z α) = true) (hzv : zeroOf c.P e = some zv) (hzs : zv.cells.toList = Cells.cells a0) (hb : byOf c.P e = some bytes) (hl : l = m) (hr : r = n) (hmn : m ≤ n) (hmax : bytes * n ≤ 281474976710656) (hb0 : Nat.blt 0 bytes = true)
    (h : ∀ b, Rk c K ((d, rowV (some b) m n) :: L) (rowC (some b) m n e z (enc (List.replicate m a0)) :: H)) : Rk c (wpOp c.P ops (QN c T) i K) L H := by
  have hz' := Nat.eq_of_beq_eq_true hz
  subst hz'
  have hp := Cells.pos (α := α)
  have hrep : ∀ m, repV m (Cells.cells a0) = enc (List.replicate m a0) := by
    intro m
    induction m with
    | zero => rfl
    | succ m ih => rw [repV, List.replicate_succ, enc_cons, ih]
  refine sr_makeSlice m n ho hw hN hx hy he (by simpa [Nat.blt_eq] using hp) hzv hzs (Cells.len _) hb hl hr hmn hmax hb0 fun b => ?_
  rw [hrep]; exact h b
/-- A store into an element. -/
theorem sr_storeE {t et : TypeId} {x y : Operand} {b cap z m q n : Nat} {v : Value} {vs : List Value} {xs : List α} (k j : Nat) (d0 a : α) {off : Nat} (ho : ops[i]? = some ⟨none, .store t x y, ty, pos, aft, g⟩) (hw : wants ops L g = some true) (hx : ev L x = some (.pointer (some ⟨b, off, none⟩))) (hy : ev L y = some v)
    (hoff : off = k * Cells.z α + j) (hc : H[q]? = some (rowC (some b) n cap et z (enc xs))) (hs : szOf c.P t = some m) (hvs : v.cells.toList = vs) (hl : vs.length = m) (h1 : ones vs = true) (hk : k < xs.length) (hj : Nat.ble (j + vs.length) (Cells.z α) = true) (hv : spl (Cells.cells (xs.getD k d0)) j vs = Cells.cells a)
    (h : Rk c K L (H.set q (rowC (some b) n cap et z (enc (xs.set k a))))) : Rk c (wpOp c.P ops (QN c T) i K) L H := by
  subst hoff
  refine sr_storeRow ho hw hx hy hc hs hvs hl h1 ?_ ?_
  · have hj' : j + vs.length ≤ Cells.z α := by simpa [Nat.ble_eq] using hj
    rw [enc_length]
    have : (k + 1) * Cells.z α ≤ xs.length * Cells.z α := Nat.mul_le_mul_right _ hk
    rw [Nat.add_mul] at this; omega
  · rw [enc_spl d0 a hk hj hv]; exact h
/-- An element of a slice whose cells are known now. -/
theorem sr_indexHas {t e : TypeId} {z : Nat} {x y : Operand} {A : Option Addr} {n cap : Nat} {k : IntKind} {j : Int} {cs : List Value} (ho : ops[i]? = some ⟨some d, .indexAddr t x y, ty, pos, aft, g⟩) (hw : wants ops L g = some true) (hN : Nat.blt d c.N = true)
    (hx : ev L x = some (.slice A n cap)) (hy : ev L y = some (.int k j)) (he : elOf c.P t = some (e, z)) (hA : ∀ w, Heap c.w0 c.G H w → Has [] w A cs) (h0 : 0 ≤ j) (h1 : j < n) (hz : cs ≠ [])
    (h : ∀ b o, A = some ⟨b, o, none⟩ → (∀ w, Heap c.w0 c.G H w → ∀ (m : Nat) u, cs[m]? = some u → w.cell? ⟨b, o + m, none⟩ = some u) → Rk c K ((d, .pointer (some ⟨b, o + j.toNat * z, none⟩)) :: L) H) : Rk c (wpOp c.P ops (QN c T) i K) L H := fun a w ha hh => by
  obtain ⟨b, o, rfl, _, _⟩ := hA w hh hz
  refine sr_pure ho hw hN _ (fun a w ha hh => ?_) (h b o rfl fun w hh m u hm => ?_) a w ha hh
  · simp only [execOp, ha.ev hx, ha.ev hy]
    rw [Sem.run_bind, run_indexAt he b o n cap k j h0 h1]; rfl
  · obtain ⟨b', o', e, _, hc⟩ := hA w hh hz
    cases e; exact hc m u hm
end
end Go.Sl
