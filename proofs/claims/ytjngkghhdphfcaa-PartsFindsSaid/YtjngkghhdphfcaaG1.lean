/- A part of the proof: words and contracts that the row is built on. -/
import Derived.Test.YtjngkghhdphfcaaSlFin
import Derived.Test.YtjngkghhdphfcaaProg
namespace Go.Sl
open Go.RowKit Go.Proofs
set_option linter.unusedVariables false
set_option linter.unusedSimpArgs false
set_option maxRecDepth 10000
namespace Try
theorem ag5 : aggB Try.prog 5 = some false := by kernel_rfl
theorem by5 : byOf Try.prog 5 = some 1 := by kernel_rfl
theorem el23 : elOf Try.prog 23 = some (5, 1) := by kernel_rfl
theorem en127 : entB Try.prog 127 = true := by kernel_rfl
theorem en89 : entB Try.prog 89 = true := by kernel_rfl
theorem en90 : entB Try.prog 90 = true := by kernel_rfl
theorem en91 : entB Try.prog 91 = true := by kernel_rfl
theorem ki129 : kiOf Try.prog 129 = some .u16 := by kernel_rfl
theorem ki131 : kiOf Try.prog 131 = some .u32 := by kernel_rfl
theorem ki5 : kiOf Try.prog 5 = some .u8 := by kernel_rfl
theorem ki93 : kiOf Try.prog 93 = some .u64 := by kernel_rfl
theorem sz5 : szOf Try.prog 5 = some 1 := by kernel_rfl
theorem ze5 : zeroOf Try.prog 5 = some (.int .u8 0) := by kernel_rfl
theorem follows_mixed : Try.prog.follows .mixedOrders = true := by kernel_rfl
def inB (n at_ k : Int) : Bool := decide (0 ≤ at_) && decide (0 ≤ k) && decide (at_ ≤ n) && decide (k ≤ n - at_)
theorem in_ok (w : World) (A : Option Addr) (n c : Nat) (at_ k : Int) (hn : n ≤ 9223372036854775807) (h1 : -9223372036854775808 ≤ at_) (h2 : at_ ≤ 9223372036854775807) :
    Ct Try.prog 89 [.slice A n c, .int .i64 at_, .int .i64 k] [] w (fun b : Bool => .bool b) (fun b => b = inB n at_ k) (fun _ => []) := by
  refine Ct.of_st Try.func89 rfl rfl (L := [(0, .slice A n c), (1, .int .i64 at_), (2, .int .i64 k)]) ⟨rfl, rfl, rfl, trivial⟩ ?_
  refine st_seq ?_
  refine st_region rfl ?_
  refine sr_assign rfl rfl rfl rfl ?_
  refine sr_end ?_
  refine st_seq ?_
  refine st_region rfl ?_
  refine sr_move rfl rfl rfl rfl ?_
  refine sr_bin rfl rfl rfl rfl rfl b_geq ?_
  refine sr_move rfl rfl rfl rfl ?_
  refine sr_caseD (t := 9) rfl (fun g1 => ?_) (fun g1 => ?_)
  · skip
    refine sr_move rfl rfl rfl rfl ?_
    refine sr_bin rfl rfl rfl rfl rfl b_geq ?_
    refine sr_pickT rfl rfl rfl rfl rfl ?_
    refine sr_move rfl rfl rfl rfl ?_
    refine sr_caseD (t := 13) rfl (fun g2 => ?_) (fun g2 => ?_)
    · skip
      refine sr_move rfl rfl rfl rfl ?_
      refine sr_move rfl rfl rfl rfl ?_
      refine sr_len rfl rfl rfl rfl el23 ?_
      refine sr_bin rfl rfl rfl rfl rfl b_leq ?_
      refine sr_pickT rfl rfl rfl rfl rfl ?_
      refine sr_move rfl rfl rfl rfl ?_
      refine sr_caseD (t := 19) rfl (fun g3 => ?_) (fun g3 => ?_)
      · skip
        refine sr_move rfl rfl rfl rfl ?_
        refine sr_move rfl rfl rfl rfl ?_
        refine sr_len rfl rfl rfl rfl el23 ?_
        refine sr_move rfl rfl rfl rfl ?_
        refine sr_bin rfl rfl rfl rfl rfl (b_subI (by (try simp only [List.length_append, List.length_cons, List.length_nil, List.length_set, List.length_replicate, List.length_take, List.length_drop, List.length_map, List.length_range] at *); omega) (by (try simp only [List.length_append, List.length_cons, List.length_nil, List.length_set, List.length_replicate, List.length_take, List.length_drop, List.length_map, List.length_range] at *); omega)) ?_
        refine sr_bin rfl rfl rfl rfl rfl b_leq ?_
        refine sr_pickT rfl rfl rfl rfl rfl ?_
        refine sr_assign rfl rfl rfl rfl ?_
        refine sr_end ?_
        exact st_retC (inB n at_ k) [] Try.func89 rfl rfl (by simp only [inB]; simp [*]) rfl rfl
      · skip
        refine sr_off rfl rfl rfl ?_
        refine sr_off rfl rfl rfl ?_
        refine sr_off rfl rfl rfl ?_
        refine sr_off rfl rfl rfl ?_
        refine sr_off rfl rfl rfl ?_
        refine sr_off rfl rfl rfl ?_
        refine sr_pickF rfl rfl rfl rfl rfl ?_
        refine sr_assign rfl rfl rfl rfl ?_
        refine sr_end ?_
        exact st_retC (inB n at_ k) [] Try.func89 rfl rfl (by simp only [inB]; simp [*]) rfl rfl
    · skip
      refine sr_off rfl rfl rfl ?_
      refine sr_off rfl rfl rfl ?_
      refine sr_off rfl rfl rfl ?_
      refine sr_off rfl rfl rfl ?_
      refine sr_pickF rfl rfl rfl rfl rfl ?_
      refine sr_move rfl rfl rfl rfl ?_
      refine sr_off rfl rfl rfl ?_
      refine sr_off rfl rfl rfl ?_
      refine sr_off rfl rfl rfl ?_
      refine sr_off rfl rfl rfl ?_
      refine sr_off rfl rfl rfl ?_
      refine sr_off rfl rfl rfl ?_
      refine sr_pickF rfl rfl rfl rfl rfl ?_
      refine sr_assign rfl rfl rfl rfl ?_
      refine sr_end ?_
      exact st_retC (inB n at_ k) [] Try.func89 rfl rfl (by simp only [inB]; simp [*]) rfl rfl
  · skip
    refine sr_off rfl rfl rfl ?_
    refine sr_off rfl rfl rfl ?_
    refine sr_pickF rfl rfl rfl rfl rfl ?_
    refine sr_move rfl rfl rfl rfl ?_
    refine sr_off rfl rfl rfl ?_
    refine sr_off rfl rfl rfl ?_
    refine sr_off rfl rfl rfl ?_
    refine sr_off rfl rfl rfl ?_
    refine sr_pickF rfl rfl rfl rfl rfl ?_
    refine sr_move rfl rfl rfl rfl ?_
    refine sr_off rfl rfl rfl ?_
    refine sr_off rfl rfl rfl ?_
    refine sr_off rfl rfl rfl ?_
    refine sr_off rfl rfl rfl ?_
    refine sr_off rfl rfl rfl ?_
    refine sr_off rfl rfl rfl ?_
    refine sr_pickF rfl rfl rfl rfl rfl ?_
    refine sr_assign rfl rfl rfl rfl ?_
    refine sr_end ?_
    exact st_retC (inB n at_ k) [] Try.func89 rfl rfl (by simp only [inB]; simp [*]) rfl rfl

theorem inB_true {n at_ k : Int} (h : inB n at_ k = true) : 0 ≤ at_ ∧ 0 ≤ k ∧ at_ ≤ n ∧ k ≤ n - at_ := by simp [inB] at h; omega
def leAt (bs : List UInt8) (at_ : Int) (n : Nat) : Nat × Bool := if inB bs.length at_ n = true then (le ((bs.drop at_.toNat).take n), true) else (0, false)
theorem le_lt_u16 (bs : List UInt8) (a n k : Nat) (hn : n ≤ 2) : le ((bs.drop a).take (n - k)) < 256 ^ (2 - k) := by
  refine Nat.lt_of_lt_of_le (le_lt _) (Nat.pow_le_pow_right (by omega) ?_)
  simp; omega
theorem le_lt_u32 (bs : List UInt8) (a n k : Nat) (hn : n ≤ 4) : le ((bs.drop a).take (n - k)) < 256 ^ (4 - k) := by
  refine Nat.lt_of_lt_of_le (le_lt _) (Nat.pow_le_pow_right (by omega) ?_)
  simp; omega
theorem le_lt_u64 (bs : List UInt8) (a n k : Nat) (hn : n ≤ 8) : le ((bs.drop a).take (n - k)) < 256 ^ (8 - k) := by
  refine Nat.lt_of_lt_of_le (le_lt _) (Nat.pow_le_pow_right (by omega) ?_)
  simp; omega
theorem le_step (bs : List UInt8) (a n k : Nat) (hk : 0 < k) (hkn : k ≤ n) (hl : a + n ≤ bs.length) : (le ((bs.drop (a + (k - 1))).take (n - (k - 1))) : Int) = le ((bs.drop (a + k)).take (n - k)) * 256 + (bs.getD (a + (k - 1)) 0).toNat := by
  obtain ⟨j, rfl⟩ : ∃ j, k = j + 1 := ⟨k - 1, by omega⟩
  have e : bs.drop (a + j) = bs.getD (a + j) 0 :: bs.drop (a + (j + 1)) := by
    rw [List.drop_eq_getElem_cons (by omega)]
    simp [List.getD_eq_getElem?_getD, List.getElem?_eq_getElem (show a + j < bs.length by omega), Nat.add_assoc]
  rw [Nat.add_sub_cancel, e, show n - j = (n - (j + 1)) + 1 by omega, List.take_succ_cons]
  simp only [le]
  omega

theorem little16_ok (w : World) (A : Option Addr) (bs : List UInt8) (c : Nat) (at_ : Int) (n : Nat) (hA : Has [] w A (enc bs)) (hb : bs.length ≤ 9223372036854775807) (h1 : -9223372036854775808 ≤ at_) (h2 : at_ ≤ 9223372036854775807) (hn : n ≤ 2) :
    Ct Try.prog 91 [.slice A bs.length c, .int .i64 at_, .int .i64 (n : Int)] [] w (fun _ : Unit => .tuple #[.int .u16 (leAt bs at_ n).1, .bool (leAt bs at_ n).2]) (fun _ => True) (fun _ => []) := by
  refine Ct.of_st Try.func91 rfl rfl (L := [(0, .slice A bs.length c), (1, .int .i64 at_), (2, .int .i64 (n : Int))]) ⟨rfl, rfl, rfl, trivial⟩ ?_
  refine st_seq ?_
  refine st_region rfl ?_
  refine sr_assign rfl rfl rfl rfl ?_
  refine sr_assign rfl rfl rfl rfl ?_
  refine sr_end ?_
  refine st_seq ?_
  refine st_region rfl ?_
  refine sr_assign rfl rfl rfl rfl ?_
  refine sr_end ?_
  refine st_seq ?_
  refine st_seq ?_
  refine st_region rfl ?_
  refine sr_move rfl rfl rfl rfl ?_
  refine sr_move rfl rfl rfl rfl ?_
  refine sr_move rfl rfl rfl rfl ?_
  refine sr_callM [] rfl rfl rfl rfl en89 rfl (fun w hh => in_ok w _ _ _ _ _ (by omega) (by omega) (by omega)) ?_
  rintro _ rfl
  refine sr_un rfl rfl rfl rfl u_not ?_
  refine sr_end ?_
  refine st_if rfl (fun q1 => ?_) (fun q1 => ?_)
  · have hin : inB bs.length at_ n = false := by simpa using q1
    refine st_seq ?_
    refine st_region rfl ?_
    refine sr_assign rfl rfl rfl rfl ?_
    refine sr_assign rfl rfl rfl rfl ?_
    refine sr_end ?_
    exact st_retC2 () [] Try.func91 rfl rfl rfl (by simp [leAt, hin]) trivial rfl
  · have hin : inB bs.length at_ n = true := by simpa using q1
    have hin2 := inB_true hin
    refine st_skip ?_
    refine st_seq ?_
    refine st_seq ?_
    refine st_region rfl ?_
    refine sr_move rfl rfl rfl rfl ?_
    refine sr_bin rfl rfl rfl rfl rfl (b_subI (by (try simp only [List.length_append, List.length_cons, List.length_nil, List.length_set, List.length_replicate, List.length_take, List.length_drop, List.length_map, List.length_range] at *); omega) (by (try simp only [List.length_append, List.length_cons, List.length_nil, List.length_set, List.length_replicate, List.length_take, List.length_drop, List.length_map, List.length_range] at *); omega)) ?_
    refine sr_assign rfl rfl rfl rfl ?_
    refine sr_end ?_
    refine st_block ?_
    refine st_loop1 [] (fun (k : Nat) => [(0, .slice A bs.length c), (1, .int .i64 at_), (8, .int .u16 (le ((bs.drop (at_.toNat + k)).take (n - k)))), (9, .int .i64 ((k : Int) - 1))]) (fun (k : Nat) => []) (fun (k : Nat) => k ≤ n) (fun (k : Nat) => k) n (Nat.le_refl _) ⟨rfl, rfl, congrArg (fun z : Int => some (Value.int .u16 z)) (by simp [le]), rfl, trivial⟩ rfl (fun k hI1 hk1 => ?_)
    have hle := le_lt_u16 bs (at_.toNat + k) n k hn
    refine st_seq ?_
    refine st_seq ?_
    refine st_region rfl ?_
    refine sr_move rfl rfl rfl rfl ?_
    refine sr_bin rfl rfl rfl rfl rfl b_geq ?_
    refine sr_end ?_
    refine st_ifD rfl (fun q2 => ?_) (fun q2 => ?_)
    · have hp : 256 ^ (2 - k) ≤ 256 := Nat.pow_le_pow_right (n := 256) (by omega) (show 2 - k ≤ 1 by omega)
      refine st_skip ?_
      refine st_seq ?_
      refine st_block ?_
      refine st_region rfl ?_
      refine sr_move rfl rfl rfl rfl ?_
      refine sr_bin rfl rfl rfl rfl rfl (b_shl8_u16 (by omega) (by omega)) ?_
      refine sr_move rfl rfl rfl rfl ?_
      refine sr_move rfl rfl rfl rfl ?_
      refine sr_move rfl rfl rfl rfl ?_
      refine sr_bin rfl rfl rfl rfl rfl (b_addI (by omega) (by omega)) ?_
      obtain ⟨B1, O1, eA1, hg_B1, hb_B1⟩ := hA (enc_ne (by omega))
      refine sr_indexRoE rfl rfl rfl rfl rfl el23 eA1 (by (try simp only [List.length_append, List.length_cons, List.length_nil, List.length_set, List.length_replicate, List.length_take, List.length_drop, List.length_map, List.length_range] at *); omega) (by (try simp only [List.length_append, List.length_cons, List.length_nil, List.length_set, List.length_replicate, List.length_take, List.length_drop, List.length_map, List.length_range] at *); omega) ?_
      refine sr_loadAt (p := O1) (off := ((at_ + ((k : Int) - 1)).toNat) * 1 + 0) rfl rfl rfl rfl rfl (has_cells hg_B1 hb_B1) (rd1 (i := (at_ + ((k : Int) - 1)).toNat) (j := 0) ag5 (0 : UInt8) (by (try simp only [List.length_append, List.length_cons, List.length_nil, List.length_set, List.length_replicate, List.length_take, List.length_drop, List.length_map, List.length_range] at *); omega) rfl) ?_
      refine sr_conv rfl rfl rfl rfl (cvB (bs.getD ((at_ + ((k : Int) - 1)).toNat) (0 : UInt8)) ki5 ki129 (by decide)) ?_
      refine sr_bin rfl rfl rfl rfl rfl (b_or8_u16 (by omega) (by omega) (by omega) (by have := byte_lt (bs.getD (at_ + ((k : Int) - 1)).toNat 0); omega)) ?_
      refine sr_assign rfl rfl rfl rfl ?_
      refine sr_end ?_
      refine st_inBlock ?_
      refine st_region rfl ?_
      refine sr_move rfl rfl rfl rfl ?_
      refine sr_bin rfl rfl rfl rfl rfl (b_subI (by (try simp only [List.length_append, List.length_cons, List.length_nil, List.length_set, List.length_replicate, List.length_take, List.length_drop, List.length_map, List.length_range] at *); omega) (by (try simp only [List.length_append, List.length_cons, List.length_nil, List.length_set, List.length_replicate, List.length_take, List.length_drop, List.length_map, List.length_range] at *); omega)) ?_
      refine sr_assign rfl rfl rfl rfl ?_
      refine sr_end ?_
      have hst := le_step bs at_.toNat n k (by omega) hI1 (by omega)
      exact st_go [] (hk1 (k - 1) (by omega) (by omega)) ⟨rfl, rfl, congrArg (fun z : Int => some (Value.int .u16 z)) (by have e : (at_ + ((k : Int) - 1)).toNat = at_.toNat + (k - 1) := (by omega); rw [e]; omega), congrArg (fun z : Int => some (Value.int .i64 z)) (by omega), trivial⟩ rfl
    · skip
      refine st_exit rfl ?_
      refine st_seq ?_
      refine st_region rfl ?_
      refine sr_move rfl rfl rfl rfl ?_
      refine sr_assign rfl rfl rfl rfl ?_
      refine sr_assign rfl rfl rfl rfl ?_
      refine sr_end ?_
      exact st_retC2 () [] Try.func91 rfl rfl rfl (by obtain rfl : k = 0 := (by omega); simp [leAt, hin]) trivial rfl

theorem little32_ok (w : World) (A : Option Addr) (bs : List UInt8) (c : Nat) (at_ : Int) (n : Nat) (hA : Has [] w A (enc bs)) (hb : bs.length ≤ 9223372036854775807) (h1 : -9223372036854775808 ≤ at_) (h2 : at_ ≤ 9223372036854775807) (hn : n ≤ 4) :
    Ct Try.prog 90 [.slice A bs.length c, .int .i64 at_, .int .i64 (n : Int)] [] w (fun _ : Unit => .tuple #[.int .u32 (leAt bs at_ n).1, .bool (leAt bs at_ n).2]) (fun _ => True) (fun _ => []) := by
  refine Ct.of_st Try.func90 rfl rfl (L := [(0, .slice A bs.length c), (1, .int .i64 at_), (2, .int .i64 (n : Int))]) ⟨rfl, rfl, rfl, trivial⟩ ?_
  refine st_seq ?_
  refine st_region rfl ?_
  refine sr_assign rfl rfl rfl rfl ?_
  refine sr_assign rfl rfl rfl rfl ?_
  refine sr_end ?_
  refine st_seq ?_
  refine st_region rfl ?_
  refine sr_assign rfl rfl rfl rfl ?_
  refine sr_end ?_
  refine st_seq ?_
  refine st_seq ?_
  refine st_region rfl ?_
  refine sr_move rfl rfl rfl rfl ?_
  refine sr_move rfl rfl rfl rfl ?_
  refine sr_move rfl rfl rfl rfl ?_
  refine sr_callM [] rfl rfl rfl rfl en89 rfl (fun w hh => in_ok w _ _ _ _ _ (by omega) (by omega) (by omega)) ?_
  rintro _ rfl
  refine sr_un rfl rfl rfl rfl u_not ?_
  refine sr_end ?_
  refine st_if rfl (fun q1 => ?_) (fun q1 => ?_)
  · have hin : inB bs.length at_ n = false := by simpa using q1
    refine st_seq ?_
    refine st_region rfl ?_
    refine sr_assign rfl rfl rfl rfl ?_
    refine sr_assign rfl rfl rfl rfl ?_
    refine sr_end ?_
    exact st_retC2 () [] Try.func90 rfl rfl rfl (by simp [leAt, hin]) trivial rfl
  · have hin : inB bs.length at_ n = true := by simpa using q1
    have hin2 := inB_true hin
    refine st_skip ?_
    refine st_seq ?_
    refine st_seq ?_
    refine st_region rfl ?_
    refine sr_move rfl rfl rfl rfl ?_
    refine sr_bin rfl rfl rfl rfl rfl (b_subI (by (try simp only [List.length_append, List.length_cons, List.length_nil, List.length_set, List.length_replicate, List.length_take, List.length_drop, List.length_map, List.length_range] at *); omega) (by (try simp only [List.length_append, List.length_cons, List.length_nil, List.length_set, List.length_replicate, List.length_take, List.length_drop, List.length_map, List.length_range] at *); omega)) ?_
    refine sr_assign rfl rfl rfl rfl ?_
    refine sr_end ?_
    refine st_block ?_
    refine st_loop1 [] (fun (k : Nat) => [(0, .slice A bs.length c), (1, .int .i64 at_), (8, .int .u32 (le ((bs.drop (at_.toNat + k)).take (n - k)))), (9, .int .i64 ((k : Int) - 1))]) (fun (k : Nat) => []) (fun (k : Nat) => k ≤ n) (fun (k : Nat) => k) n (Nat.le_refl _) ⟨rfl, rfl, congrArg (fun z : Int => some (Value.int .u32 z)) (by simp [le]), rfl, trivial⟩ rfl (fun k hI1 hk1 => ?_)
    have hle := le_lt_u32 bs (at_.toNat + k) n k hn
    refine st_seq ?_
    refine st_seq ?_
    refine st_region rfl ?_
    refine sr_move rfl rfl rfl rfl ?_
    refine sr_bin rfl rfl rfl rfl rfl b_geq ?_
    refine sr_end ?_
    refine st_ifD rfl (fun q2 => ?_) (fun q2 => ?_)
    · have hp : 256 ^ (4 - k) ≤ 16777216 := Nat.pow_le_pow_right (n := 256) (by omega) (show 4 - k ≤ 3 by omega)
      refine st_skip ?_
      refine st_seq ?_
      refine st_block ?_
      refine st_region rfl ?_
      refine sr_move rfl rfl rfl rfl ?_
      refine sr_bin rfl rfl rfl rfl rfl (b_shl8_u32 (by omega) (by omega)) ?_
      refine sr_move rfl rfl rfl rfl ?_
      refine sr_move rfl rfl rfl rfl ?_
      refine sr_move rfl rfl rfl rfl ?_
      refine sr_bin rfl rfl rfl rfl rfl (b_addI (by omega) (by omega)) ?_
      obtain ⟨B1, O1, eA1, hg_B1, hb_B1⟩ := hA (enc_ne (by omega))
      refine sr_indexRoE rfl rfl rfl rfl rfl el23 eA1 (by (try simp only [List.length_append, List.length_cons, List.length_nil, List.length_set, List.length_replicate, List.length_take, List.length_drop, List.length_map, List.length_range] at *); omega) (by (try simp only [List.length_append, List.length_cons, List.length_nil, List.length_set, List.length_replicate, List.length_take, List.length_drop, List.length_map, List.length_range] at *); omega) ?_
      refine sr_loadAt (p := O1) (off := ((at_ + ((k : Int) - 1)).toNat) * 1 + 0) rfl rfl rfl rfl rfl (has_cells hg_B1 hb_B1) (rd1 (i := (at_ + ((k : Int) - 1)).toNat) (j := 0) ag5 (0 : UInt8) (by (try simp only [List.length_append, List.length_cons, List.length_nil, List.length_set, List.length_replicate, List.length_take, List.length_drop, List.length_map, List.length_range] at *); omega) rfl) ?_
      refine sr_conv rfl rfl rfl rfl (cvB (bs.getD ((at_ + ((k : Int) - 1)).toNat) (0 : UInt8)) ki5 ki131 (by decide)) ?_
      refine sr_bin rfl rfl rfl rfl rfl (b_or8_u32 (by omega) (by omega) (by omega) (by have := byte_lt (bs.getD (at_ + ((k : Int) - 1)).toNat 0); omega)) ?_
      refine sr_assign rfl rfl rfl rfl ?_
      refine sr_end ?_
      refine st_inBlock ?_
      refine st_region rfl ?_
      refine sr_move rfl rfl rfl rfl ?_
      refine sr_bin rfl rfl rfl rfl rfl (b_subI (by (try simp only [List.length_append, List.length_cons, List.length_nil, List.length_set, List.length_replicate, List.length_take, List.length_drop, List.length_map, List.length_range] at *); omega) (by (try simp only [List.length_append, List.length_cons, List.length_nil, List.length_set, List.length_replicate, List.length_take, List.length_drop, List.length_map, List.length_range] at *); omega)) ?_
      refine sr_assign rfl rfl rfl rfl ?_
      refine sr_end ?_
      have hst := le_step bs at_.toNat n k (by omega) hI1 (by omega)
      exact st_go [] (hk1 (k - 1) (by omega) (by omega)) ⟨rfl, rfl, congrArg (fun z : Int => some (Value.int .u32 z)) (by have e : (at_ + ((k : Int) - 1)).toNat = at_.toNat + (k - 1) := (by omega); rw [e]; omega), congrArg (fun z : Int => some (Value.int .i64 z)) (by omega), trivial⟩ rfl
    · skip
      refine st_exit rfl ?_
      refine st_seq ?_
      refine st_region rfl ?_
      refine sr_move rfl rfl rfl rfl ?_
      refine sr_assign rfl rfl rfl rfl ?_
      refine sr_assign rfl rfl rfl rfl ?_
      refine sr_end ?_
      exact st_retC2 () [] Try.func90 rfl rfl rfl (by obtain rfl : k = 0 := (by omega); simp [leAt, hin]) trivial rfl

theorem little64_ok (w : World) (A : Option Addr) (bs : List UInt8) (c : Nat) (at_ : Int) (n : Nat) (hA : Has [] w A (enc bs)) (hb : bs.length ≤ 9223372036854775807) (h1 : -9223372036854775808 ≤ at_) (h2 : at_ ≤ 9223372036854775807) (hn : n ≤ 8) :
    Ct Try.prog 127 [.slice A bs.length c, .int .i64 at_, .int .i64 (n : Int)] [] w (fun _ : Unit => .tuple #[.int .u64 (leAt bs at_ n).1, .bool (leAt bs at_ n).2]) (fun _ => True) (fun _ => []) := by
  refine Ct.of_st Try.func127 rfl rfl (L := [(0, .slice A bs.length c), (1, .int .i64 at_), (2, .int .i64 (n : Int))]) ⟨rfl, rfl, rfl, trivial⟩ ?_
  refine st_seq ?_
  refine st_region rfl ?_
  refine sr_assign rfl rfl rfl rfl ?_
  refine sr_assign rfl rfl rfl rfl ?_
  refine sr_end ?_
  refine st_seq ?_
  refine st_region rfl ?_
  refine sr_assign rfl rfl rfl rfl ?_
  refine sr_end ?_
  refine st_seq ?_
  refine st_seq ?_
  refine st_region rfl ?_
  refine sr_move rfl rfl rfl rfl ?_
  refine sr_move rfl rfl rfl rfl ?_
  refine sr_move rfl rfl rfl rfl ?_
  refine sr_callM [] rfl rfl rfl rfl en89 rfl (fun w hh => in_ok w _ _ _ _ _ (by omega) (by omega) (by omega)) ?_
  rintro _ rfl
  refine sr_un rfl rfl rfl rfl u_not ?_
  refine sr_end ?_
  refine st_if rfl (fun q1 => ?_) (fun q1 => ?_)
  · have hin : inB bs.length at_ n = false := by simpa using q1
    refine st_seq ?_
    refine st_region rfl ?_
    refine sr_assign rfl rfl rfl rfl ?_
    refine sr_assign rfl rfl rfl rfl ?_
    refine sr_end ?_
    exact st_retC2 () [] Try.func127 rfl rfl rfl (by simp [leAt, hin]) trivial rfl
  · have hin : inB bs.length at_ n = true := by simpa using q1
    have hin2 := inB_true hin
    refine st_skip ?_
    refine st_seq ?_
    refine st_seq ?_
    refine st_region rfl ?_
    refine sr_move rfl rfl rfl rfl ?_
    refine sr_bin rfl rfl rfl rfl rfl (b_subI (by (try simp only [List.length_append, List.length_cons, List.length_nil, List.length_set, List.length_replicate, List.length_take, List.length_drop, List.length_map, List.length_range] at *); omega) (by (try simp only [List.length_append, List.length_cons, List.length_nil, List.length_set, List.length_replicate, List.length_take, List.length_drop, List.length_map, List.length_range] at *); omega)) ?_
    refine sr_assign rfl rfl rfl rfl ?_
    refine sr_end ?_
    refine st_block ?_
    refine st_loop1 [] (fun (k : Nat) => [(0, .slice A bs.length c), (1, .int .i64 at_), (8, .int .u64 (le ((bs.drop (at_.toNat + k)).take (n - k)))), (9, .int .i64 ((k : Int) - 1))]) (fun (k : Nat) => []) (fun (k : Nat) => k ≤ n) (fun (k : Nat) => k) n (Nat.le_refl _) ⟨rfl, rfl, congrArg (fun z : Int => some (Value.int .u64 z)) (by simp [le]), rfl, trivial⟩ rfl (fun k hI1 hk1 => ?_)
    have hle := le_lt_u64 bs (at_.toNat + k) n k hn
    refine st_seq ?_
    refine st_seq ?_
    refine st_region rfl ?_
    refine sr_move rfl rfl rfl rfl ?_
    refine sr_bin rfl rfl rfl rfl rfl b_geq ?_
    refine sr_end ?_
    refine st_ifD rfl (fun q2 => ?_) (fun q2 => ?_)
    · have hp : 256 ^ (8 - k) ≤ 72057594037927936 := Nat.pow_le_pow_right (n := 256) (by omega) (show 8 - k ≤ 7 by omega)
      refine st_skip ?_
      refine st_seq ?_
      refine st_block ?_
      refine st_region rfl ?_
      refine sr_move rfl rfl rfl rfl ?_
      refine sr_bin rfl rfl rfl rfl rfl (b_shl8_u64 (by omega) (by omega)) ?_
      refine sr_move rfl rfl rfl rfl ?_
      refine sr_move rfl rfl rfl rfl ?_
      refine sr_move rfl rfl rfl rfl ?_
      refine sr_bin rfl rfl rfl rfl rfl (b_addI (by omega) (by omega)) ?_
      obtain ⟨B1, O1, eA1, hg_B1, hb_B1⟩ := hA (enc_ne (by omega))
      refine sr_indexRoE rfl rfl rfl rfl rfl el23 eA1 (by (try simp only [List.length_append, List.length_cons, List.length_nil, List.length_set, List.length_replicate, List.length_take, List.length_drop, List.length_map, List.length_range] at *); omega) (by (try simp only [List.length_append, List.length_cons, List.length_nil, List.length_set, List.length_replicate, List.length_take, List.length_drop, List.length_map, List.length_range] at *); omega) ?_
      refine sr_loadAt (p := O1) (off := ((at_ + ((k : Int) - 1)).toNat) * 1 + 0) rfl rfl rfl rfl rfl (has_cells hg_B1 hb_B1) (rd1 (i := (at_ + ((k : Int) - 1)).toNat) (j := 0) ag5 (0 : UInt8) (by (try simp only [List.length_append, List.length_cons, List.length_nil, List.length_set, List.length_replicate, List.length_take, List.length_drop, List.length_map, List.length_range] at *); omega) rfl) ?_
      refine sr_conv rfl rfl rfl rfl (cvB (bs.getD ((at_ + ((k : Int) - 1)).toNat) (0 : UInt8)) ki5 ki93 (by decide)) ?_
      refine sr_bin rfl rfl rfl rfl rfl (b_or8_u64 (by omega) (by omega) (by omega) (by have := byte_lt (bs.getD (at_ + ((k : Int) - 1)).toNat 0); omega)) ?_
      refine sr_assign rfl rfl rfl rfl ?_
      refine sr_end ?_
      refine st_inBlock ?_
      refine st_region rfl ?_
      refine sr_move rfl rfl rfl rfl ?_
      refine sr_bin rfl rfl rfl rfl rfl (b_subI (by (try simp only [List.length_append, List.length_cons, List.length_nil, List.length_set, List.length_replicate, List.length_take, List.length_drop, List.length_map, List.length_range] at *); omega) (by (try simp only [List.length_append, List.length_cons, List.length_nil, List.length_set, List.length_replicate, List.length_take, List.length_drop, List.length_map, List.length_range] at *); omega)) ?_
      refine sr_assign rfl rfl rfl rfl ?_
      refine sr_end ?_
      have hst := le_step bs at_.toNat n k (by omega) hI1 (by omega)
      exact st_go [] (hk1 (k - 1) (by omega) (by omega)) ⟨rfl, rfl, congrArg (fun z : Int => some (Value.int .u64 z)) (by have e : (at_ + ((k : Int) - 1)).toNat = at_.toNat + (k - 1) := (by omega); rw [e]; omega), congrArg (fun z : Int => some (Value.int .i64 z)) (by omega), trivial⟩ rfl
    · skip
      refine st_exit rfl ?_
      refine st_seq ?_
      refine st_region rfl ?_
      refine sr_move rfl rfl rfl rfl ?_
      refine sr_assign rfl rfl rfl rfl ?_
      refine sr_assign rfl rfl rfl rfl ?_
      refine sr_end ?_
      exact st_retC2 () [] Try.func127 rfl rfl rfl (by obtain rfl : k = 0 := (by omega); simp [leAt, hin]) trivial rfl

theorem U16_ok (w : World) (A : Option Addr) (bs : List UInt8) (c : Nat) (at_ : Int) (hA : Has [] w A (enc bs)) (hb : bs.length ≤ 9223372036854775807) (h1 : -9223372036854775808 ≤ at_) (h2 : at_ ≤ 9223372036854775807) :
    Ct Try.prog 67 [.slice A bs.length c, .int .i64 at_] [] w (fun _ : Unit => .tuple #[.int .u16 (leAt bs at_ 2).1, .bool (leAt bs at_ 2).2]) (fun _ => True) (fun _ => []) := by
  refine Ct.of_st Try.func67 rfl rfl (L := [(0, .slice A bs.length c), (1, .int .i64 at_)]) ⟨rfl, rfl, trivial⟩ ?_
  refine st_seq ?_
  refine st_region rfl ?_
  refine sr_assign rfl rfl rfl rfl ?_
  refine sr_assign rfl rfl rfl rfl ?_
  refine sr_end ?_
  refine st_seq ?_
  refine st_region rfl ?_
  refine sr_move rfl rfl rfl rfl ?_
  refine sr_move rfl rfl rfl rfl ?_
  refine sr_callM [] rfl rfl rfl rfl en91 rfl (fun w hh => little16_ok w _ bs _ _ 2 (hA.heap0 hh) (by omega) (by omega) (by omega) (by decide)) ?_
  rintro ⟨⟩ -
  refine sr_extract rfl rfl rfl rfl rfl ?_
  refine sr_extract rfl rfl rfl rfl rfl ?_
  refine sr_assign rfl rfl rfl rfl ?_
  refine sr_assign rfl rfl rfl rfl ?_
  refine sr_end ?_
  exact st_retC2 (()) [] Try.func67 rfl rfl rfl rfl trivial rfl

theorem U32_ok (w : World) (A : Option Addr) (bs : List UInt8) (c : Nat) (at_ : Int) (hA : Has [] w A (enc bs)) (hb : bs.length ≤ 9223372036854775807) (h1 : -9223372036854775808 ≤ at_) (h2 : at_ ≤ 9223372036854775807) :
    Ct Try.prog 65 [.slice A bs.length c, .int .i64 at_] [] w (fun _ : Unit => .tuple #[.int .u32 (leAt bs at_ 4).1, .bool (leAt bs at_ 4).2]) (fun _ => True) (fun _ => []) := by
  refine Ct.of_st Try.func65 rfl rfl (L := [(0, .slice A bs.length c), (1, .int .i64 at_)]) ⟨rfl, rfl, trivial⟩ ?_
  refine st_seq ?_
  refine st_region rfl ?_
  refine sr_assign rfl rfl rfl rfl ?_
  refine sr_assign rfl rfl rfl rfl ?_
  refine sr_end ?_
  refine st_seq ?_
  refine st_region rfl ?_
  refine sr_move rfl rfl rfl rfl ?_
  refine sr_move rfl rfl rfl rfl ?_
  refine sr_callM [] rfl rfl rfl rfl en90 rfl (fun w hh => little32_ok w _ bs _ _ 4 (hA.heap0 hh) (by omega) (by omega) (by omega) (by decide)) ?_
  rintro ⟨⟩ -
  refine sr_extract rfl rfl rfl rfl rfl ?_
  refine sr_extract rfl rfl rfl rfl rfl ?_
  refine sr_assign rfl rfl rfl rfl ?_
  refine sr_assign rfl rfl rfl rfl ?_
  refine sr_end ?_
  exact st_retC2 (()) [] Try.func65 rfl rfl rfl rfl trivial rfl

theorem U64_ok (w : World) (A : Option Addr) (bs : List UInt8) (c : Nat) (at_ : Int) (hA : Has [] w A (enc bs)) (hb : bs.length ≤ 9223372036854775807) (h1 : -9223372036854775808 ≤ at_) (h2 : at_ ≤ 9223372036854775807) :
    Ct Try.prog 117 [.slice A bs.length c, .int .i64 at_] [] w (fun _ : Unit => .tuple #[.int .u64 (leAt bs at_ 8).1, .bool (leAt bs at_ 8).2]) (fun _ => True) (fun _ => []) := by
  refine Ct.of_st Try.func117 rfl rfl (L := [(0, .slice A bs.length c), (1, .int .i64 at_)]) ⟨rfl, rfl, trivial⟩ ?_
  refine st_seq ?_
  refine st_region rfl ?_
  refine sr_assign rfl rfl rfl rfl ?_
  refine sr_assign rfl rfl rfl rfl ?_
  refine sr_end ?_
  refine st_seq ?_
  refine st_region rfl ?_
  refine sr_move rfl rfl rfl rfl ?_
  refine sr_move rfl rfl rfl rfl ?_
  refine sr_callM [] rfl rfl rfl rfl en127 rfl (fun w hh => little64_ok w _ bs _ _ 8 (hA.heap0 hh) (by omega) (by omega) (by omega) (by decide)) ?_
  rintro ⟨⟩ -
  refine sr_extract rfl rfl rfl rfl rfl ?_
  refine sr_extract rfl rfl rfl rfl rfl ?_
  refine sr_assign rfl rfl rfl rfl ?_
  refine sr_assign rfl rfl rfl rfl ?_
  refine sr_end ?_
  exact st_retC2 (()) [] Try.func117 rfl rfl rfl rfl trivial rfl

theorem Zeros_ok (w : World) (n : Nat) (hn : n ≤ 140737488355328) :
    Ct Try.prog 32 [.int .i64 (n : Int)] [] w (fun b : Nat => rowV (some b) n n) (fun _ => True) (fun b => [rowC (some b) n n 5 1 (enc (List.replicate n (0 : UInt8)))]) := by
  refine Ct.of_st Try.func32 rfl rfl (L := [(0, .int .i64 (n : Int))]) ⟨rfl, trivial⟩ ?_
  refine st_seq ?_
  refine st_region rfl ?_
  refine sr_assign rfl rfl rfl rfl ?_
  refine sr_end ?_
  refine st_seq ?_
  refine st_region rfl ?_
  refine sr_move rfl rfl rfl rfl ?_
  refine sr_makeE (0 : UInt8) n n rfl rfl rfl rfl rfl el23 rfl ze5 rfl by5 (by omega) (by omega) (by (try simp only [List.length_append, List.length_cons, List.length_nil, List.length_set, List.length_replicate, List.length_take, List.length_drop, List.length_map, List.length_range] at *); omega) (by (try simp only [List.length_append, List.length_cons, List.length_nil, List.length_set, List.length_replicate, List.length_take, List.length_drop, List.length_map, List.length_range] at *); omega) rfl (fun b1 => ?_)
  refine sr_assign rfl rfl rfl rfl ?_
  refine sr_end ?_
  exact st_retC (b1) [0] Try.func32 rfl rfl rfl trivial rfl

def withB (bs : List UInt8) (at_ : Nat) (p : List UInt8) : List UInt8 := bs.take at_ ++ p ++ bs.drop (at_ + p.length)
theorem With_ok (w : World) (A B : Option Addr) (bs p : List UInt8) (c c' : Nat) (at_ : Nat) (hA : Has [] w A (enc bs)) (hB : Has [] w B (enc p)) (hb : bs.length ≤ 1000000000000) (hp : at_ + p.length ≤ bs.length) (hc : bs.length ≤ c) :
    Ct Try.prog 33 [.slice A bs.length c, .int .i64 (at_ : Int), .slice B p.length c'] [] w (fun x : Option Nat × Nat => rowV x.1 (withB bs at_ p).length x.2) (fun _ => True) (fun x => [rowC x.1 (withB bs at_ p).length x.2 5 1 (enc (withB bs at_ p))]) := by
  refine Ct.of_st Try.func33 rfl rfl (L := [(0, .slice A bs.length c), (1, .int .i64 (at_ : Int)), (2, .slice B p.length c')]) ⟨rfl, rfl, rfl, trivial⟩ ?_
  refine st_seq ?_
  refine st_region rfl ?_
  refine sr_assign rfl rfl rfl rfl ?_
  refine sr_end ?_
  refine st_seq ?_
  refine st_region rfl ?_
  refine sr_assign rfl rfl rfl rfl ?_
  refine sr_end ?_
  refine st_seq ?_
  refine st_region rfl ?_
  refine sr_move rfl rfl rfl rfl ?_
  refine sr_move rfl rfl rfl rfl ?_
  refine sr_move rfl rfl rfl rfl ?_
  refine sr_sliceIn (xs := bs) 0 ((at_ : Int).toNat) rfl rfl rfl rfl rfl rfl el23 rfl hA (bound_int (by (try simp only [List.length_append, List.length_cons, List.length_nil, List.length_set, List.length_replicate, List.length_take, List.length_drop, List.length_map, List.length_range] at *); omega) (by (try simp only [List.length_append, List.length_cons, List.length_nil, List.length_set, List.length_replicate, List.length_take, List.length_drop, List.length_map, List.length_range] at *); omega)) (fun _ => rfl) (by (try simp only [List.length_append, List.length_cons, List.length_nil, List.length_set, List.length_replicate, List.length_take, List.length_drop, List.length_map, List.length_range] at *); omega) (fun A1 hA1 => ?_)
  refine sr_nilrow 5 1 ?_
  refine sr_appendE (q := 0) (xs := ([] : List UInt8)) ((bs.drop 0).take (((at_ : Int).toNat) - 0)) rfl rfl rfl rfl rfl el23 el23 rfl ze5 rfl by5 rfl (fun w hh => (hA1.heap0 hh)) (by simp <;> omega) rfl (by (try simp only [List.length_append, List.length_cons, List.length_nil, List.length_set, List.length_replicate, List.length_take, List.length_drop, List.length_map, List.length_range] at *); omega) rfl (fun o1 cap1 => ?_)
  refine sr_assign rfl rfl rfl rfl ?_
  refine sr_end ?_
  refine st_seq ?_
  refine st_region rfl ?_
  refine sr_move rfl rfl rfl rfl ?_
  refine sr_move rfl rfl rfl rfl ?_
  refine sr_appendE (q := 0) (xs := (bs.drop 0).take (((at_ : Int).toNat) - 0)) p rfl rfl rfl rfl rfl el23 el23 rfl ze5 rfl by5 rfl (fun w hh => (hB.heap0 hh)) rfl rfl (by (try simp only [List.length_append, List.length_cons, List.length_nil, List.length_set, List.length_replicate, List.length_take, List.length_drop, List.length_map, List.length_range] at *); omega) rfl (fun o2 cap2 => ?_)
  refine sr_assign rfl rfl rfl rfl ?_
  refine sr_end ?_
  refine st_seq ?_
  refine st_region rfl ?_
  refine sr_move rfl rfl rfl rfl ?_
  refine sr_move rfl rfl rfl rfl ?_
  refine sr_move rfl rfl rfl rfl ?_
  refine sr_move rfl rfl rfl rfl ?_
  refine sr_len rfl rfl rfl rfl el23 ?_
  refine sr_bin rfl rfl rfl rfl rfl (b_addI (by (try simp only [List.length_append, List.length_cons, List.length_nil, List.length_set, List.length_replicate, List.length_take, List.length_drop, List.length_map, List.length_range] at *); omega) (by (try simp only [List.length_append, List.length_cons, List.length_nil, List.length_set, List.length_replicate, List.length_take, List.length_drop, List.length_map, List.length_range] at *); omega)) ?_
  refine sr_sliceIn (xs := bs) (((at_ : Int) + (p.length : Int)).toNat) bs.length rfl rfl rfl rfl rfl rfl el23 rfl hA (fun _ => rfl) (bound_int (by (try simp only [List.length_append, List.length_cons, List.length_nil, List.length_set, List.length_replicate, List.length_take, List.length_drop, List.length_map, List.length_range] at *); omega) (by (try simp only [List.length_append, List.length_cons, List.length_nil, List.length_set, List.length_replicate, List.length_take, List.length_drop, List.length_map, List.length_range] at *); omega)) (by (try simp only [List.length_append, List.length_cons, List.length_nil, List.length_set, List.length_replicate, List.length_take, List.length_drop, List.length_map, List.length_range] at *); omega) (fun A2 hA2 => ?_)
  refine sr_appendE (q := 0) (xs := ((bs.drop 0).take (((at_ : Int).toNat) - 0)) ++ p) ((bs.drop (((at_ : Int) + (p.length : Int)).toNat)).take (bs.length - (((at_ : Int) + (p.length : Int)).toNat))) rfl rfl rfl rfl rfl el23 el23 rfl ze5 rfl by5 rfl (fun w hh => (hA2.heap0 hh)) (by simp <;> omega) rfl (by (try simp only [List.length_append, List.length_cons, List.length_nil, List.length_set, List.length_replicate, List.length_take, List.length_drop, List.length_map, List.length_range] at *); omega) rfl (fun o3 cap3 => ?_)
  refine sr_assign rfl rfl rfl rfl ?_
  refine sr_end ?_
  refine st_row 0 ((withB bs at_ p).length) (enc (withB bs at_ p)) rfl (by simp [withB] <;> omega) (congrArg enc (by have e : ((at_ : Int) + (p.length : Int)).toNat = at_ + p.length := (by omega); simp [withB, e]; exact List.take_of_length_le (by simp))) ?_
  refine st_val 6 rfl (congrArg (fun z => rowV o3 z cap3) (by simp [withB] <;> omega)) (v' := rowV o3 ((withB bs at_ p).length) cap3) ?_
  exact st_retC (o3, cap3) [0] Try.func33 rfl rfl rfl trivial rfl

def bytesN (v : Nat) : Nat → List UInt8
  | 0 => []
  | n + 1 => byteOf (v % 256 : Nat) :: bytesN (v / 256) n
@[simp] theorem bytesN_length : ∀ (n v : Nat), (bytesN v n).length = n
  | 0, _ => rfl
  | n + 1, v => by simp [bytesN, bytesN_length n]
theorem bytesN_succ : ∀ (n v : Nat), bytesN v n ++ [byteOf ((v / 256 ^ n % 256 : Nat) : Int)] = bytesN v (n + 1)
  | 0, v => by simp [bytesN]
  | n + 1, v => by
    rw [bytesN, List.cons_append, show v / 256 ^ (n + 1) = v / 256 / 256 ^ n by rw [Nat.pow_succ, Nat.mul_comm, Nat.div_div_eq_div_mul], bytesN_succ n (v / 256)]
    rfl
def vq (v k : Nat) : Nat := v / 256 ^ k
theorem vq_le (v k : Nat) : vq v k ≤ v := Nat.div_le_self _ _
theorem vq_zero (v : Nat) : vq v 0 = v := by simp [vq]
theorem vq_succ (v k : Nat) : vq v (k + 1) = vq v k / 256 := by rw [vq, vq, Nat.pow_succ, ← Nat.div_div_eq_div_mul]
theorem bytesN_vq (n v : Nat) : bytesN v n ++ [byteOf ((vq v n % 256 : Nat) : Int)] = bytesN v (n + 1) := bytesN_succ n v
theorem Bytes_ok (w : World) (v n : Nat) (hv : v ≤ 18446744073709551615) (hn : n ≤ 1000) :
    Ct Try.prog 36 [.int .u64 (v : Int), .int .i64 (n : Int)] [] w (fun x : Option Nat × Nat => rowV x.1 (bytesN v n).length x.2) (fun _ => True) (fun x => [rowC x.1 (bytesN v n).length x.2 5 1 (enc (bytesN v n))]) := by
  refine Ct.of_st Try.func36 rfl rfl (L := [(0, .int .u64 (v : Int)), (1, .int .i64 (n : Int))]) ⟨rfl, rfl, trivial⟩ ?_
  refine st_seq ?_
  refine st_region rfl ?_
  refine sr_assign rfl rfl rfl rfl ?_
  refine sr_end ?_
  refine st_seq ?_
  refine st_region rfl ?_
  refine sr_assign rfl rfl rfl rfl ?_
  refine sr_end ?_
  refine st_seq ?_
  refine st_seq ?_
  refine st_region rfl ?_
  refine sr_assign rfl rfl rfl rfl ?_
  refine sr_end ?_
  refine st_block ?_
  refine st_nilrow 5 1 ?_
  refine st_loop3 [0] (fun (k : Nat) (ro1 : Option Nat) (rc1 : Nat) => [(0, .int .u64 (vq v k : Int)), (1, .int .i64 (n : Int)), (5, rowV ro1 ((bytesN v k).length) rc1), (6, .int .i64 (k : Int))]) (fun (k : Nat) (ro1 : Option Nat) (rc1 : Nat) => [rowC ro1 ((bytesN v k).length) rc1 5 1 (enc (bytesN v k))]) (fun (k : Nat) (ro1 : Option Nat) (rc1 : Nat) => k ≤ n) (fun (k : Nat) (ro1 : Option Nat) (rc1 : Nat) => n - k) 0 none 0 (Nat.zero_le _) ⟨congrArg (fun z : Int => some (Value.int .u64 z)) (by rw [vq_zero]), rfl, rfl, rfl, trivial⟩ rfl (fun k ro1 rc1 hI1 hk1 => ?_)
  have hv' : vq v k ≤ v := vq_le v k
  refine st_seq ?_
  refine st_seq ?_
  refine st_region rfl ?_
  refine sr_move rfl rfl rfl rfl ?_
  refine sr_move rfl rfl rfl rfl ?_
  refine sr_bin rfl rfl rfl rfl rfl b_lss ?_
  refine sr_end ?_
  refine st_ifD rfl (fun q1 => ?_) (fun q1 => ?_)
  · skip
    refine st_skip ?_
    refine st_seq ?_
    refine st_block ?_
    refine st_seq ?_
    refine st_region rfl ?_
    refine sr_move rfl rfl rfl rfl ?_
    refine sr_move rfl rfl rfl rfl ?_
    refine sr_bin rfl rfl rfl rfl rfl (b_remP (by (try simp only [List.length_append, List.length_cons, List.length_nil, List.length_set, List.length_replicate, List.length_take, List.length_drop, List.length_map, List.length_range, bytesN_length] at *); omega) (by omega)) ?_
    refine sr_conv rfl rfl rfl rfl (cv8 ki93 ki5) ?_
    refine sr_buildSlice (vs := [.int .u8 ((byteOf ((vq v k : Int) % 256)).toNat : Int)]) (cs := enc ([byteOf ((vq v k : Int) % 256)] : List UInt8)) rfl rfl rfl rfl el23 rfl ze5 rfl (all_cons rfl all_nil) rfl rfl (fun b1 => ?_)
    refine sr_appendE (q := 1) (xs := bytesN v k) ([byteOf ((vq v k : Int) % 256)] : List UInt8) rfl rfl rfl rfl rfl el23 el23 rfl ze5 rfl by5 rfl (fun w hh => (rowC_has (hh.hp.get (i := 0) rfl))) rfl rfl (by (try simp only [List.length_append, List.length_cons, List.length_nil, List.length_set, List.length_replicate, List.length_take, List.length_drop, List.length_map, List.length_range, bytesN_length] at *); omega) rfl (fun o1 cap1 => ?_)
    refine sr_assign rfl rfl rfl rfl ?_
    refine sr_end ?_
    refine st_region rfl ?_
    refine sr_move rfl rfl rfl rfl ?_
    refine sr_bin rfl rfl rfl rfl rfl (b_quo64 (by (try simp only [List.length_append, List.length_cons, List.length_nil, List.length_set, List.length_replicate, List.length_take, List.length_drop, List.length_map, List.length_range, bytesN_length] at *); omega) (by (try simp only [List.length_append, List.length_cons, List.length_nil, List.length_set, List.length_replicate, List.length_take, List.length_drop, List.length_map, List.length_range, bytesN_length] at *); omega) (by omega)) ?_
    refine sr_assign rfl rfl rfl rfl ?_
    refine sr_end ?_
    refine st_inBlock ?_
    refine st_region rfl ?_
    refine sr_move rfl rfl rfl rfl ?_
    refine sr_bin rfl rfl rfl rfl rfl (b_addI (by (try simp only [List.length_append, List.length_cons, List.length_nil, List.length_set, List.length_replicate, List.length_take, List.length_drop, List.length_map, List.length_range, bytesN_length] at *); omega) (by (try simp only [List.length_append, List.length_cons, List.length_nil, List.length_set, List.length_replicate, List.length_take, List.length_drop, List.length_map, List.length_range, bytesN_length] at *); omega)) ?_
    refine sr_assign rfl rfl rfl rfl ?_
    refine sr_end ?_
    refine st_row 0 ((bytesN v (k + 1)).length) (enc (bytesN v (k + 1))) rfl (by simp) (congrArg enc (by rw [← bytesN_vq]; rfl)) ?_
    refine st_val 5 rfl (congrArg (fun z => rowV o1 z cap1) (by simp)) (v' := rowV o1 ((bytesN v (k + 1)).length) cap1) ?_
    exact st_go [0] (hk1 (k + 1) o1 cap1 (by omega) (by omega)) ⟨congrArg (fun z : Int => some (Value.int .u64 z)) (by rw [vq_succ]; omega), rfl, rfl, congrArg (fun z : Int => some (Value.int .i64 z)) (by omega), trivial⟩ rfl
  · skip
    refine st_exit rfl ?_
    refine st_seq ?_
    refine st_region rfl ?_
    refine sr_move rfl rfl rfl rfl ?_
    refine sr_assign rfl rfl rfl rfl ?_
    refine sr_end ?_
    refine st_row 0 ((bytesN v n).length) (enc (bytesN v n)) rfl (by have e : k = n := (by omega); rw [e]) (congrArg enc (by have e : k = n := (by omega); rw [e])) ?_
    refine st_val 4 rfl (congrArg (fun z => rowV ro1 z rc1) (by have e : k = n := (by omega); rw [e])) (v' := rowV ro1 ((bytesN v n).length) rc1) ?_
    exact st_retC (ro1, rc1) [0] Try.func36 rfl rfl rfl trivial rfl

end Try
end Go.Sl
