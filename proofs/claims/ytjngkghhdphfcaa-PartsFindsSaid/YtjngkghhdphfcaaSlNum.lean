/- A part of the proof: words and contracts that the row is built on. -/
import Derived.Test.YtjngkghhdphfcaaSlEq
namespace Go.Sl
open Go.RowKit
set_option linter.unusedVariables false
section
variable {P : Program} {t : TypeId} {x y : Operand} {k : IntKind} {a b r : Int}
theorem b_add (h : k.wrap (a + b) = r) : ∀ w, (do eqGuard .add t x y (.int k a) (.int k b); binOp .add t (.int k a) (.int k b) : Sem Value).run P w = .ok (.int k r) w := fun w => b_bin (by
  rw [binOp_add]; simp only [Op.intArith, Sem.run_pure, h])
theorem b_sub (h : k.wrap (a - b) = r) : ∀ w, (do eqGuard .sub t x y (.int k a) (.int k b); binOp .sub t (.int k a) (.int k b) : Sem Value).run P w = .ok (.int k r) w := fun w => b_bin (by
  rw [binOp_sub]; simp only [Op.intArith, Sem.run_pure, h])
theorem b_mul (h : k.wrap (a * b) = r) : ∀ w, (do eqGuard .mul t x y (.int k a) (.int k b); binOp .mul t (.int k a) (.int k b) : Sem Value).run P w = .ok (.int k r) w := fun w => b_bin (by
  rw [binOp_mul]; simp only [Op.intArith, Sem.run_pure, h])
theorem b_quo (h0 : b ≠ 0) (h : k.wrap (a.tdiv b) = r) : ∀ w, (do eqGuard .quo t x y (.int k a) (.int k b); binOp .quo t (.int k a) (.int k b) : Sem Value).run P w = .ok (.int k r) w := fun w => b_bin (by
  rw [binOp_quo]; simp only [Op.intDiv, if_neg h0, Sem.run_pure, h])
theorem b_rem (h0 : b ≠ 0) (h : a.tmod b = r) : ∀ w, (do eqGuard .rem t x y (.int k a) (.int k b); binOp .rem t (.int k a) (.int k b) : Sem Value).run P w = .ok (.int k r) w := fun w => b_bin (by
  rw [binOp_rem]; simp only [Op.intDiv, if_neg h0, Sem.run_pure, h])
/-- Of a number that isn't below 0, by one above it. -/
theorem b_quoU {hi : Int} (hw : ∀ z, 0 ≤ z → z ≤ hi → k.wrap z = z) (h0 : 0 ≤ a) (h1 : a ≤ hi) (hb : 0 < b) : ∀ w, (do eqGuard .quo t x y (.int k a) (.int k b); binOp .quo t (.int k a) (.int k b) : Sem Value).run P w = .ok (.int k (a / b)) w := b_quo (by omega) (by
  rw [Int.tdiv_eq_ediv_of_nonneg h0]
  have h2 := Int.ediv_le_self b h0
  exact hw _ (Int.ediv_nonneg h0 (by omega)) (by omega))
theorem b_quo64 (h0 : 0 ≤ a) (h1 : a ≤ 18446744073709551615) (hb : 0 < b) : ∀ w, (do eqGuard .quo t x y (.int .u64 a) (.int .u64 b); binOp .quo t (.int .u64 a) (.int .u64 b) : Sem Value).run P w = .ok (.int .u64 (a / b)) w := b_quoU (fun z h h' => w_u64 ⟨h, h'⟩) h0 h1 hb
theorem b_quoI (h0 : 0 ≤ a) (h1 : a ≤ 9223372036854775807) (hb : 0 < b) : ∀ w, (do eqGuard .quo t x y (.int .i64 a) (.int .i64 b); binOp .quo t (.int .i64 a) (.int .i64 b) : Sem Value).run P w = .ok (.int .i64 (a / b)) w := b_quoU (fun z h h' => w_i64 ⟨by omega, h'⟩) h0 h1 hb
theorem b_remP (h0 : 0 ≤ a) (hb : 0 < b) : ∀ w, (do eqGuard .rem t x y (.int k a) (.int k b); binOp .rem t (.int k a) (.int k b) : Sem Value).run P w = .ok (.int k (a % b)) w := b_rem (by omega) (Int.tmod_eq_emod_of_nonneg h0)
end
section
variable {c : Cx} {K : Act → World → Prop} {T : List Item} {L : List (Nat × Value)} {H : List Chunk}
/-- A row's cells, said in another way. -/
theorem rk_row {o : Option Nat} {n cap z : Nat} {t : TypeId} {cs : List Value} (q : Nat) (n' : Nat) (cs' : List Value) (hc : H[q]? = some (rowC o n cap t z cs)) (hn : n = n') (e : cs = cs') (h : Rk c K L (H.set q (rowC o n' cap t z cs'))) : Rk c K L H := by
  subst hn e
  have : H.set q (rowC o n cap t z cs) = H := by
    apply List.ext_getElem?
    intro j
    rw [List.getElem?_set]
    split
    · rename_i h; subst h
      split
      · exact hc.symm
      · rename_i h; rw [List.getElem?_eq_none (by omega)]
    · rfl
  rwa [this] at h
/-- A slot's value, said in another way. -/
theorem rk_val {v v' : Value} (t : Nat) (ht : lk L t = some v) (e : v = v') (h : Rk c K ((t, v') :: L) H) : Rk c K L H := fun a w ha hh => h a w ⟨ha.size, ha.defers, fun u x hu => by
  simp only [lk] at hu
  cases hb : Nat.beq t u with
  | true => rw [hb] at hu; obtain rfl := beq_eq_of hb; simp only [cond_true, Option.some.injEq] at hu; subst hu; rw [← e]; exact ha.at_ t _ ht
  | false => rw [hb] at hu; exact ha.at_ u x hu⟩ hh
theorem st_row {o : Option Nat} {n cap z : Nat} {t : TypeId} {cs : List Value} (q : Nat) (n' : Nat) (cs' : List Value) (hc : H[q]? = some (rowC o n cap t z cs)) (hn : n = n') (e : cs = cs') (h : St c T L (H.set q (rowC o n' cap t z cs'))) : St c T L H := rk_row (K := GoA c T) q n' cs' hc hn e h
theorem st_val {v v' : Value} (t : Nat) (ht : lk L t = some v) (e : v = v') (h : St c T ((t, v') :: L) H) : St c T L H := rk_val (K := GoA c T) t ht e h
theorem rk_cells {b t : Nat} {cs : List Value} (q : Nat) (cs' : List Value) (hc : H[q]? = some (cellsC b t cs)) (e : cs = cs') (h : Rk c K L (H.set q (cellsC b t cs'))) : Rk c K L H := by
  subst e
  have : H.set q (cellsC b t cs) = H := by
    apply List.ext_getElem?
    intro j
    rw [List.getElem?_set]
    split
    · rename_i h; subst h
      split
      · exact hc.symm
      · rename_i h; rw [List.getElem?_eq_none (by omega)]
    · rfl
  rwa [this] at h
theorem st_cells {b t : Nat} {cs : List Value} (q : Nat) (cs' : List Value) (hc : H[q]? = some (cellsC b t cs)) (e : cs = cs') (h : St c T L (H.set q (cellsC b t cs'))) : St c T L H := rk_cells (K := GoA c T) q cs' hc e h
end
end Go.Sl
