/- A part of the proof: words and contracts that the row is built on. -/
import Derived.Test.YtjngkghhdphfcaaSlPv
import Derived.Laws.OwnMore
namespace Go.Sl
open Go.RowKit
set_option linter.unusedVariables false
set_option linter.unusedSimpArgs false
/-- Cells, one time behind the other. -/
def repV : Nat → List Value → List Value
  | 0, _ => []
  | n + 1, zs => zs ++ repV n zs
@[simp] theorem repV_length : ∀ (n : Nat) (zs : List Value), (repV n zs).length = n * zs.length
  | 0, _ => by simp [repV]
  | n + 1, zs => by simp [repV, repV_length n zs, Nat.add_mul]; omega
theorem repV_get {zs : List Value} (hz : 0 < zs.length) : ∀ (n i : Nat), i < n * zs.length → (repV n zs)[i]? = zs[i % zs.length]?
  | 0, i, h => by omega
  | n + 1, i, h => by
    rw [repV, List.getElem?_append]
    split
    · rename_i h1; rw [Nat.mod_eq_of_lt h1]
    · rename_i h1
      have h2 : i = zs.length + (i - zs.length) := by omega
      rw [repV_get hz n _ (by rw [Nat.add_mul] at h; omega)]
      conv => rhs; rw [h2]
      rw [Nat.add_mod_left]
theorem made_repV {z : Array Value} (hz : 0 < z.size) (n : Nat) : (madeCells z (n * z.size)).toList = repV n z.toList := by
  apply List.ext_getElem?
  intro i
  by_cases h : i < n * z.size
  · rw [repV_get (by simpa using hz) n i (by simpa using h)]
    have hm : i % z.size < z.size := Nat.mod_lt _ hz
    simp [madeCells, h, hm]
  · rw [List.getElem?_eq_none (by simp [madeCells]; omega), List.getElem?_eq_none (by simp; omega)]
section
variable {c : Cx} {ops : Array Oper} {i : Nat} {K : Act → World → Prop} {T : List Item} {L : List (Nat × Value)} {H : List Chunk}
variable {d : Nat} {ty : TypeId} {pos : String} {aft : Array Edge} {g : Option (Nat × Bool)}
theorem repV_take (zs : List Value) : ∀ (m n : Nat), m ≤ n → (repV n zs).take (m * zs.length) = repV m zs
  | 0, n, _ => by simp [repV]
  | m + 1, 0, h => by omega
  | m + 1, n + 1, h => by
    simp only [repV]
    rw [Nat.add_mul, Nat.one_mul, Nat.add_comm, List.take_length_add_append, repV_take zs m n (by omega)]
/-- make, of so many elements. -/
theorem sr_makeSlice {t e : TypeId} {z bytes : Nat} {x y : Operand} {zv : Value} {kl kc : IntKind} {l r : Int} (m n : Nat) {zs : List Value} (ho : ops[i]? = some ⟨some d, .makeSlice t x y, ty, pos, aft, g⟩) (hw : wants ops L g = some true) (hN : Nat.blt d c.N = true)
    (hx : ev L x = some (.int kl l)) (hy : ev L y = some (.int kc r)) (he : elOf c.P t = some (e, z)) (hz : Nat.blt 0 z = true) (hzv : zeroOf c.P e = some zv) (hzs : zv.cells.toList = zs) (hzl : zs.length = z) (hb : byOf c.P e = some bytes) (hl : l = m) (hr : r = n) (hmn : m ≤ n) (hmax : bytes * n ≤ 281474976710656) (hb0 : Nat.blt 0 bytes = true)
    (h : ∀ b, Rk c K ((d, rowV (some b) m n) :: L) (rowC (some b) m n e z (repV m zs) :: H)) : Rk c (wpOp c.P ops (QN c T) i K) L H :=
  sr_root ho hw hN fun a w ha hh => by
    subst hl hr
    obtain ⟨hu, j, hj, hjz⟩ := elOf_inv he
    have hz0 : 0 < z := by simpa [Nat.blt_eq] using hz
    have hbb : 0 < bytes := by simpa [Nat.blt_eq] using hb0
    have hn : n ≤ bytes * n := Nat.le_mul_of_pos_left _ hbb
    obtain ⟨j', hj', hjb⟩ := Option.map_eq_some_iff.1 hb
    obtain ⟨j'', hj'', hzz⟩ := Option.bind_eq_some_iff.1 hzv
    rw [hj] at hj' hj''
    obtain rfl := Option.some.inj hj'
    obtain rfl := Option.some.inj hj''
    have hrun := run_make (P := c.P) w t e j zv hu hj hzz kl kc m n (by omega) (by omega) (by rw [hjb]; have : ((bytes * n : Nat) : Int) ≤ 281474976710656 := (by omega); rwa [Int.natCast_mul] at this) (by omega)
    simp only [Int.toNat_natCast, hjz] at hrun
    have hsz : zv.cells.size = z := by rw [← Array.length_toList, hzs, hzl]
    have hml : (madeCells zv.cells (n * z)).toList = repV n zs := by
      have := made_repV (z := zv.cells) (by omega) n
      rw [hsz, hzs] at this; exact this
    refine ⟨rowV (some w.heap.size) m n, w.alloc (.cells (madeCells zv.cells (n * z)) e), ?_, fun a' ha' => h _ a' _ ha' (hh.grow (Hn := [rowC (some w.heap.size) m n e z (repV m zs)]) ⟨Kept.of_below ((Below.refl _ _).alloc (Nat.le_refl _) _), ⟨⟨⟨by simp [hzl], hmn, by simp only [maxLen]; omega, fun e => by cases e⟩, fun g1 e1 => by
        cases e1; exact ⟨.inl (Nat.le_refl _), _, heap_alloc_new w _, _, rfl, size_madeCells _ _, by rw [hml, ← hzl]; exact repV_take zs m n hmn⟩⟩, fun g1 e1 => by simp [blocks]⟩, trivial⟩)⟩
    simp only [execOp, ha.ev hx, ha.ev hy]
    rw [Sem.run_bind, hrun]; rfl
end
end Go.Sl
