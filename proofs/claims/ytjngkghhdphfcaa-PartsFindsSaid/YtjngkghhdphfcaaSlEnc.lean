/- A part of the proof: words and contracts that the row is built on. -/
import Derived.Test.YtjngkghhdphfcaaSlMore
namespace Go.Sl
open Go.RowKit
set_option linter.unusedVariables false
set_option linter.unusedSimpArgs false
/-! ### Lists, as cells -/
class Cells (α : Type) where
  cells : α → List Value
  z : Nat
  pos : 0 < z
  len : ∀ a, (cells a).length = z
  one : ∀ a, ∀ u ∈ cells a, u.oneCell' = true
def enc {α : Type} [Cells α] (xs : List α) : List Value := xs.flatMap Cells.cells
section
variable {α : Type} [Cells α]
@[simp] theorem enc_nil : enc ([] : List α) = [] := rfl
theorem enc_cons (x : α) (xs : List α) : enc (x :: xs) = Cells.cells x ++ enc xs := rfl
theorem enc_length (xs : List α) : (enc xs).length = xs.length * Cells.z α := by
  induction xs with
  | nil => simp
  | cons x xs ih => rw [enc_cons, List.length_append, Cells.len, ih, List.length_cons, Nat.add_mul]; omega
theorem enc_one (xs : List α) : ∀ u ∈ enc xs, u.oneCell' = true := by
  intro u hu
  simp only [enc, List.mem_flatMap] at hu
  obtain ⟨x, _, hx⟩ := hu
  exact Cells.one x u hx
theorem enc_ne {xs : List α} (h : 0 < xs.length) : enc xs ≠ [] := fun e => by
  have h1 := enc_length xs
  rw [e] at h1
  have := Nat.mul_pos h (Cells.pos (α := α))
  simp at h1; omega
theorem enc_append (a b : List α) : enc (a ++ b) = enc a ++ enc b := by simp [enc]
theorem enc_take : ∀ (xs : List α) (n : Nat), (enc xs).take (n * Cells.z α) = enc (xs.take n)
  | [], n => by simp
  | x :: xs, 0 => by simp
  | x :: xs, n + 1 => by
    rw [List.take_succ_cons, enc_cons, enc_cons, ← enc_take xs n, Nat.add_mul, Nat.one_mul, Nat.add_comm, ← Cells.len x, List.take_length_add_append]
theorem enc_drop : ∀ (xs : List α) (n : Nat), (enc xs).drop (n * Cells.z α) = enc (xs.drop n)
  | [], n => by simp
  | x :: xs, 0 => by simp
  | x :: xs, n + 1 => by
    rw [List.drop_succ_cons, enc_cons, ← enc_drop xs n, Nat.add_mul, Nat.one_mul, Nat.add_comm, ← Cells.len x, List.drop_length_add_append]
theorem enc_sub (xs : List α) (l r : Nat) : ((enc xs).drop (l * Cells.z α)).take ((r - l) * Cells.z α) = enc ((xs.drop l).take (r - l)) := by rw [enc_drop, enc_take]
theorem enc_get {xs : List α} {i j : Nat} {d : α} {v : Value} (h : i < xs.length) (hj : (Cells.cells (xs.getD i d))[j]? = some v) : (enc xs)[i * Cells.z α + j]? = some v := by
  rw [← List.getElem?_drop, enc_drop, List.drop_eq_getElem_cons h, enc_cons]
  have e : xs.getD i d = xs[i] := by simp [List.getD_eq_getElem?_getD, h]
  rw [e] at hj
  rw [List.getElem?_append_left (List.getElem?_eq_some_iff.1 hj).1]; exact hj
theorem enc_part {xs : List α} {i j n : Nat} {d : α} {vs : List Value} (h : i < xs.length) (hj : Nat.ble (j + n) (Cells.z α) = true) (hv : ((Cells.cells (xs.getD i d)).drop j).take n = vs) : ((enc xs).drop (i * Cells.z α + j)).take n = vs := by
  have hj : j + n ≤ Cells.z α := by simpa [Nat.ble_eq] using hj
  rw [← List.drop_drop, enc_drop, List.drop_eq_getElem_cons h, enc_cons]
  have e : xs.getD i d = xs[i] := by simp [List.getD_eq_getElem?_getD, h]
  rw [e] at hv
  have hl := Cells.len xs[i]
  rw [List.drop_append_of_le_length (by omega), List.take_append_of_le_length (by simp; omega)]; exact hv
theorem enc_set {xs : List α} {i : Nat} (a : α) (h : i < xs.length) : spl (enc xs) (i * Cells.z α) (Cells.cells a) = enc (xs.set i a) := by
  unfold spl
  have e : xs.set i a = xs.take i ++ [a] ++ xs.drop (i + 1) := by
    rw [List.set_eq_take_append_cons_drop, if_pos h]; simp
  rw [e, enc_append, enc_append, enc_take, Cells.len, show i * Cells.z α + Cells.z α = (i + 1) * Cells.z α by rw [Nat.add_mul]; omega, enc_drop]
  simp [enc]
/-- What a load reads of an element. -/
theorem rd1 {P : Program} {t : TypeId} (ha : aggB P t = some false) {xs : List α} {i j : Nat} (d : α) {v : Value} (h : i < xs.length) (hj : (Cells.cells (xs.getD i d))[j]? = some v) : rdV P t (enc xs) (i * Cells.z α + j) = some v := rdV_one ha (enc_get h hj)
theorem rdN {P : Program} {t : TypeId} {n : Nat} (ha : aggB P t = some true) (hs : szOf P t = some n) {xs : List α} {i j : Nat} (d : α) (vs : List Value) (h : i < xs.length) (hj : Nat.ble (j + n) (Cells.z α) = true) (hv : ((Cells.cells (xs.getD i d)).drop j).take n = vs) : rdV P t (enc xs) (i * Cells.z α + j) = some (.agg vs.toArray) :=
  rdV_agg ha hs (by
    have hj' : j + n ≤ Cells.z α := by simpa [Nat.ble_eq] using hj
    rw [enc_length]
    have : (i + 1) * Cells.z α ≤ xs.length * Cells.z α := Nat.mul_le_mul_right _ h
    rw [Nat.add_mul] at this; omega) (enc_part h hj hv)
end
/-! ### Bytes -/
instance : Cells UInt8 := ⟨fun b => [.int .u8 (b.toNat : Int)], 1, by decide, fun _ => rfl, by simp [Value.oneCell']⟩
/-- The number of bytes, the lowest first. -/
def le : List UInt8 → Nat
  | [] => 0
  | b :: r => b.toNat + 256 * le r
theorem le_lt : ∀ bs : List UInt8, le bs < 256 ^ bs.length
  | [] => by simp [le]
  | b :: r => by
    have h1 := le_lt r
    have h2 := b.toNat_lt
    simp only [le, List.length_cons, Nat.pow_succ]
    omega
/-- A number's lowest byte. -/
def byteOf (a : Int) : UInt8 := UInt8.ofNat (a % 256).toNat
theorem byteOf_toNat (a : Int) : ((byteOf a).toNat : Int) = a % 256 := by
  simp only [byteOf, UInt8.toNat_ofNat']
  omega
theorem wrap_u8 (a : Int) : IntKind.u8.wrap a = ((byteOf a).toNat : Int) := by
  rw [byteOf_toNat]; simp [IntKind.wrap, IntKind.bits, IntKind.signed]
theorem enc_zeros : ∀ n : Nat, enc (List.replicate n (0 : UInt8)) = List.replicate n (.int .u8 0)
  | 0 => rfl
  | n + 1 => by rw [List.replicate_succ, List.replicate_succ, enc_cons, enc_zeros n]; rfl
/-! ### Parts: where they begin, where they end -/
instance : Cells (Int × Int) := ⟨fun x => [.int .i64 x.1, .int .i64 x.2], 2, by decide, fun _ => rfl, by simp [Value.oneCell']⟩
/-! ### Small numbers -/
section
variable {P : Program} {t : TypeId} {x y : Operand} {a b : Int}
theorem or_byte (a b : Nat) (h : b < 256) : (a * 256) ||| b = a * 256 + b := by
  have := Nat.two_pow_add_eq_or_of_lt (i := 8) (b := b) (by simpa using h) a
  rw [show (2 : Nat) ^ 8 = 256 from rfl, Nat.mul_comm] at this
  rw [← this]
theorem b_shl8_u16 {yk : IntKind} (h0 : 0 ≤ a) (h1 : a * 256 < 65536) : ∀ w, (do eqGuard .shl t x y (.int .u16 a) (.int yk 8); binOp .shl t (.int .u16 a) (.int yk 8) : Sem Value).run P w = .ok (.int .u16 (a * 256)) w := fun w => b_bin (by
  rw [binOp_shl, shift_shl .u16 yk a 8 (by omega) (by simp [IntKind.bits])]
  simp only [Sem.run_pure]
  rw [show (2 : Int) ^ (8 : Int).toNat = 256 from rfl, IntWalk.u16_in _ (by omega)])
theorem b_shl8_u32 {yk : IntKind} (h0 : 0 ≤ a) (h1 : a * 256 < 4294967296) : ∀ w, (do eqGuard .shl t x y (.int .u32 a) (.int yk 8); binOp .shl t (.int .u32 a) (.int yk 8) : Sem Value).run P w = .ok (.int .u32 (a * 256)) w := fun w => b_bin (by
  rw [binOp_shl, shift_shl .u32 yk a 8 (by omega) (by simp [IntKind.bits])]
  simp only [Sem.run_pure]
  rw [show (2 : Int) ^ (8 : Int).toNat = 256 from rfl, IntWalk.u32_in _ (by omega)])
theorem b_shl8_u64 {yk : IntKind} (h0 : 0 ≤ a) (h1 : a * 256 < 18446744073709551616) : ∀ w, (do eqGuard .shl t x y (.int .u64 a) (.int yk 8); binOp .shl t (.int .u64 a) (.int yk 8) : Sem Value).run P w = .ok (.int .u64 (a * 256)) w := fun w => b_bin (by
  rw [binOp_shl, shift_shl .u64 yk a 8 (by omega) (by simp [IntKind.bits])]
  simp only [Sem.run_pure]
  rw [show (2 : Int) ^ (8 : Int).toNat = 256 from rfl, IntWalk.u64_in _ (by omega)])
theorem or_byteI {a b : Int} (h0 : 0 ≤ a) (h2 : 0 ≤ b) (h3 : b < 256) : (((a * 256).toNat ||| b.toNat : Nat) : Int) = a * 256 + b := by
  obtain ⟨m, rfl⟩ := Int.eq_ofNat_of_zero_le h0
  obtain ⟨n, rfl⟩ := Int.eq_ofNat_of_zero_le h2
  have e1 : ((m : Int) * 256).toNat = m * 256 := by omega
  rw [e1, Int.toNat_natCast, or_byte m n (by omega)]
  omega
theorem b_or8_u16 (h0 : 0 ≤ a) (h1 : a * 256 < 65536) (h2 : 0 ≤ b) (h3 : b < 256) : ∀ w, (do eqGuard .or t x y (.int .u16 (a * 256)) (.int .u16 b); binOp .or t (.int .u16 (a * 256)) (.int .u16 b) : Sem Value).run P w = .ok (.int .u16 (a * 256 + b)) w := fun w => b_bin (by
  rw [binOp_or, intBits_or, u16_or _ _ (by omega) (by omega) (by omega) (by omega), or_byteI h0 h2 h3]; rfl)
theorem b_or8_u32 (h0 : 0 ≤ a) (h1 : a * 256 < 4294967296) (h2 : 0 ≤ b) (h3 : b < 256) : ∀ w, (do eqGuard .or t x y (.int .u32 (a * 256)) (.int .u32 b); binOp .or t (.int .u32 (a * 256)) (.int .u32 b) : Sem Value).run P w = .ok (.int .u32 (a * 256 + b)) w := fun w => b_bin (by
  rw [binOp_or, intBits_or, u32_or _ _ (by omega) (by omega) (by omega) (by omega), or_byteI h0 h2 h3]; rfl)
theorem b_or8_u64 (h0 : 0 ≤ a) (h1 : a * 256 < 18446744073709551616) (h2 : 0 ≤ b) (h3 : b < 256) : ∀ w, (do eqGuard .or t x y (.int .u64 (a * 256)) (.int .u64 b); binOp .or t (.int .u64 (a * 256)) (.int .u64 b) : Sem Value).run P w = .ok (.int .u64 (a * 256 + b)) w := fun w => b_bin (by
  rw [binOp_or, intBits_or]
  have h := bits_or_u64_nat (a * 256).toNat b.toNat (by omega) (by omega)
  rw [Int.toNat_of_nonneg (by omega), Int.toNat_of_nonneg (by omega)] at h
  rw [h, or_byteI h0 h2 h3]; rfl)
end
theorem run_convInt {P : Program} {s t : TypeId} {k k' : IntKind} {a : Int} (hs : (P.underlying s).isSome = true) (ht : P.underlying t = some (.int k)) (hw : k.wrap a = a) : ∀ w, (convert s t (.int k' a)).run P w = .ok (.int k a) w := fun w => by
  obtain ⟨d, hd⟩ := Option.isSome_iff_exists.1 hs
  unfold convert
  rw [Sem.run_bind, run_underlying hd]
  simp only [Result.andThen_ok]
  rw [Sem.run_bind, run_underlying ht]
  simp only [Result.andThen_ok, Conv.intToInt, hw]
  rfl
/-- Kinds of whole numbers, told of a type. -/
def kiOf (P : Program) (t : TypeId) : Option IntKind := match P.underlying t with
  | some (.int k) => some k
  | _ => none
theorem kiOf_inv {P : Program} {t : TypeId} {k : IntKind} (h : kiOf P t = some k) : P.underlying t = some (.int k) := by
  unfold kiOf at h
  split at h
  · rename_i k' hk; simp at h; subst h; exact hk
  · cases h
theorem cv {P : Program} {s t : TypeId} {k k' k'' : IntKind} {a : Int} (hs : kiOf P s = some k'') (ht : kiOf P t = some k) (hw : k.wrap a = a) : ∀ w, (convert s t (.int k' a)).run P w = .ok (.int k a) w :=
  run_convInt (by rw [kiOf_inv hs]; rfl) (kiOf_inv ht) hw
theorem w_i64 {a : Int} (h : -9223372036854775808 ≤ a ∧ a ≤ 9223372036854775807) : IntKind.i64.wrap a = a := IntWalk.i64_in a h
theorem w_u8 {a : Int} (h : 0 ≤ a ∧ a ≤ 255) : IntKind.u8.wrap a = a := IntWalk.u8_in a h
theorem w_u16 {a : Int} (h : 0 ≤ a ∧ a ≤ 65535) : IntKind.u16.wrap a = a := IntWalk.u16_in a h
theorem w_u32 {a : Int} (h : 0 ≤ a ∧ a ≤ 4294967295) : IntKind.u32.wrap a = a := IntWalk.u32_in a h
theorem w_u64 {a : Int} (h : 0 ≤ a ∧ a ≤ 18446744073709551615) : IntKind.u64.wrap a = a := IntWalk.u64_in a h
theorem cvB {P : Program} {s t : TypeId} {k k' k'' : IntKind} (b : UInt8) (hs : kiOf P s = some k'') (ht : kiOf P t = some k) (hk : k ≠ .i8) : ∀ w, (convert s t (.int k' (b.toNat : Int))).run P w = .ok (.int k (b.toNat : Int)) w :=
  cv hs ht (by
    have := b.toNat_lt
    cases k <;> first | exact absurd rfl hk | exact w_u8 (by omega) | exact w_u16 (by omega) | exact w_u32 (by omega) | exact w_u64 (by omega) | exact w_i64 (by omega) | exact IntWalk.i32_in _ (by omega) | (simp [IntKind.wrap, IntKind.bits, IntKind.signed]; omega))
theorem byte_lt (b : UInt8) : (b.toNat : Int) ≤ 255 := by have := b.toNat_lt; omega
end Go.Sl
