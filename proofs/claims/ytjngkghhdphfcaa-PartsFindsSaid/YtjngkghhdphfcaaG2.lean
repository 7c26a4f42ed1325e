/- A part of the proof: words and contracts that the row is built on. -/
import Derived.Test.YtjngkghhdphfcaaG1
namespace Go.Sl
open Go.RowKit Go.Proofs
set_option linter.unusedVariables false
set_option linter.unusedSimpArgs false
set_option maxRecDepth 10000
namespace Try
theorem el33 : elOf Try.prog 33 = some (5, 1) := by kernel_rfl
theorem en147 : entB Try.prog 147 = true := by kernel_rfl
theorem en32 : entB Try.prog 32 = true := by kernel_rfl
theorem en36 : entB Try.prog 36 = true := by kernel_rfl
def rowL (kind first count : Nat) : List UInt8 := if kind = 0 ∨ count = 0 then List.replicate 16 0 else [0, 0, 0, 0, byteOf (kind : Int), 0, 0, 0] ++ bytesN first 4 ++ bytesN count 4
theorem rowL_length (kind first count : Nat) : (rowL kind first count).length = 16 := by unfold rowL; split <;> simp
theorem row_ok (w : World) (kind first count : Nat) (h1 : kind ≤ 18446744073709551615) (h2 : first ≤ 18446744073709551615) (h3 : count ≤ 18446744073709551615) :
    Ct Try.prog 46 [.int .u64 (kind : Int), .int .u64 (first : Int), .int .u64 (count : Int)] [] w (fun x : Option Nat × Nat => rowV x.1 (rowL kind first count).length x.2) (fun _ => True) (fun x => [rowC x.1 (rowL kind first count).length x.2 5 1 (enc (rowL kind first count))]) := by
  refine Ct.of_st Try.func46 rfl rfl (L := [(0, .int .u64 (kind : Int)), (1, .int .u64 (first : Int)), (2, .int .u64 (count : Int))]) ⟨rfl, rfl, rfl, trivial⟩ ?_
  refine st_seq ?_
  refine st_region rfl ?_
  refine sr_assign rfl rfl rfl rfl ?_
  refine sr_end ?_
  refine st_seq ?_
  refine st_seq ?_
  refine st_region rfl ?_
  refine sr_move rfl rfl rfl rfl ?_
  refine sr_bin rfl rfl rfl rfl rfl b_eql ?_
  refine sr_move rfl rfl rfl rfl ?_
  refine sr_caseD (t := 10) rfl (fun g1 => ?_) (fun g1 => ?_)
  · skip
    refine sr_off rfl rfl rfl ?_
    refine sr_off rfl rfl rfl ?_
    refine sr_pickT rfl rfl rfl rfl rfl ?_
    refine sr_end ?_
    refine st_true rfl ?_
    refine st_seq ?_
    refine st_region rfl ?_
    refine sr_callM [] rfl rfl rfl rfl en32 rfl (fun w hh => Zeros_ok w 16 (by omega)) ?_
    rintro b1 -
    refine sr_assign rfl rfl rfl rfl ?_
    refine sr_end ?_
    refine st_row 0 ((rowL kind first count).length) (enc (rowL kind first count)) rfl (by have e : rowL kind first count = List.replicate 16 0 := (by unfold rowL; rw [if_pos (by omega)]); simp [e]) (congrArg enc (by have e : rowL kind first count = List.replicate 16 0 := (by unfold rowL; rw [if_pos (by omega)]); simp [e])) ?_
    refine st_val 6 rfl (congrArg (fun z => rowV (some b1) z 16) (by have e : rowL kind first count = List.replicate 16 0 := (by unfold rowL; rw [if_pos (by omega)]); simp [e])) (v' := rowV (some b1) ((rowL kind first count).length) 16) ?_
    exact st_retC ((some b1), 16) [0] Try.func46 rfl rfl rfl trivial rfl
  · skip
    refine sr_move rfl rfl rfl rfl ?_
    refine sr_bin rfl rfl rfl rfl rfl b_eql ?_
    refine sr_pickF rfl rfl rfl rfl rfl ?_
    refine sr_end ?_
    refine st_ifD rfl (fun q1 => ?_) (fun q1 => ?_)
    · skip
      refine st_seq ?_
      refine st_region rfl ?_
      refine sr_callM [] rfl rfl rfl rfl en32 rfl (fun w hh => Zeros_ok w 16 (by omega)) ?_
      rintro b2 -
      refine sr_assign rfl rfl rfl rfl ?_
      refine sr_end ?_
      refine st_row 0 ((rowL kind first count).length) (enc (rowL kind first count)) rfl (by have e : rowL kind first count = List.replicate 16 0 := (by unfold rowL; rw [if_pos (by omega)]); simp [e]) (congrArg enc (by have e : rowL kind first count = List.replicate 16 0 := (by unfold rowL; rw [if_pos (by omega)]); simp [e])) ?_
      refine st_val 6 rfl (congrArg (fun z => rowV (some b2) z 16) (by have e : rowL kind first count = List.replicate 16 0 := (by unfold rowL; rw [if_pos (by omega)]); simp [e])) (v' := rowV (some b2) ((rowL kind first count).length) 16) ?_
      exact st_retC ((some b2), 16) [0] Try.func46 rfl rfl rfl trivial rfl
    · skip
      refine st_skip ?_
      refine st_seq ?_
      refine st_region rfl ?_
      refine sr_move rfl rfl rfl rfl ?_
      refine sr_conv rfl rfl rfl rfl (cv8 ki93 ki5) ?_
      refine sr_buildSlice (vs := [.int .u8 0, .int .u8 0, .int .u8 0, .int .u8 0, .int .u8 ((byteOf (kind : Int)).toNat : Int), .int .u8 0, .int .u8 0, .int .u8 0]) (cs := enc ([(0 : UInt8), (0 : UInt8), (0 : UInt8), (0 : UInt8), byteOf (kind : Int), (0 : UInt8), (0 : UInt8), (0 : UInt8)] : List UInt8)) rfl rfl rfl rfl el23 rfl ze5 rfl (all_cons rfl (all_cons rfl (all_cons rfl (all_cons rfl (all_cons rfl (all_cons rfl (all_cons rfl (all_cons rfl all_nil)))))))) rfl rfl (fun b3 => ?_)
      refine sr_move rfl rfl rfl rfl ?_
      refine sr_callM [] rfl rfl rfl rfl en36 rfl (fun w hh => Bytes_ok w first 4 (by (try simp only [List.length_append, List.length_cons, List.length_nil, List.length_set, List.length_replicate, List.length_take, List.length_drop, List.length_map, List.length_range, bytesN_length] at *); omega) (by omega)) ?_
      rintro ⟨o1, cap1⟩ -
      refine sr_appendE (q := 1) (xs := ([(0 : UInt8), (0 : UInt8), (0 : UInt8), (0 : UInt8), byteOf (kind : Int), (0 : UInt8), (0 : UInt8), (0 : UInt8)] : List UInt8)) (bytesN first 4) rfl rfl rfl rfl rfl el23 el23 rfl ze5 rfl by5 rfl (fun w hh => (rowC_has (hh.hp.get (i := 0) rfl))) rfl rfl (by (try simp only [List.length_append, List.length_cons, List.length_nil, List.length_set, List.length_replicate, List.length_take, List.length_drop, List.length_map, List.length_range, bytesN_length] at *); omega) rfl (fun o2 cap2 => ?_)
      refine sr_assign rfl rfl rfl rfl ?_
      refine sr_end ?_
      refine st_seq ?_
      refine st_region rfl ?_
      refine sr_move rfl rfl rfl rfl ?_
      refine sr_move rfl rfl rfl rfl ?_
      refine sr_callM [] rfl rfl rfl rfl en36 rfl (fun w hh => Bytes_ok w count 4 (by (try simp only [List.length_append, List.length_cons, List.length_nil, List.length_set, List.length_replicate, List.length_take, List.length_drop, List.length_map, List.length_range, bytesN_length] at *); omega) (by omega)) ?_
      rintro ⟨o3, cap3⟩ -
      refine sr_appendE (q := 1) (xs := ([(0 : UInt8), (0 : UInt8), (0 : UInt8), (0 : UInt8), byteOf (kind : Int), (0 : UInt8), (0 : UInt8), (0 : UInt8)] : List UInt8) ++ (bytesN first 4)) (bytesN count 4) rfl rfl rfl rfl rfl el23 el23 rfl ze5 rfl by5 rfl (fun w hh => (rowC_has (hh.hp.get (i := 0) rfl))) rfl rfl (by (try simp only [List.length_append, List.length_cons, List.length_nil, List.length_set, List.length_replicate, List.length_take, List.length_drop, List.length_map, List.length_range, bytesN_length] at *); omega) rfl (fun o4 cap4 => ?_)
      refine sr_assign rfl rfl rfl rfl ?_
      refine sr_end ?_
      refine st_row 0 ((rowL kind first count).length) (enc (rowL kind first count)) rfl (by have e : rowL kind first count = [0, 0, 0, 0, byteOf (kind : Int), 0, 0, 0] ++ bytesN first 4 ++ bytesN count 4 := (by unfold rowL; rw [if_neg (by omega)]); simp [e]) (congrArg enc (by have e : rowL kind first count = [0, 0, 0, 0, byteOf (kind : Int), 0, 0, 0] ++ bytesN first 4 ++ bytesN count 4 := (by unfold rowL; rw [if_neg (by omega)]); simp [e])) ?_
      refine st_val 6 rfl (congrArg (fun z => rowV o4 z cap4) (by have e : rowL kind first count = [0, 0, 0, 0, byteOf (kind : Int), 0, 0, 0] ++ bytesN first 4 ++ bytesN count 4 := (by unfold rowL; rw [if_neg (by omega)]); simp [e])) (v' := rowV o4 ((rowL kind first count).length) cap4) ?_
      exact st_retC (o4, cap4) [0] Try.func46 rfl rfl rfl trivial rfl

theorem mrow_ok (w : World) (i : Int) (h0 : 0 ≤ i) (h1 : i ≤ 1000) :
    Ct Try.prog 93 [.int .i64 i] [] w (fun _ : Unit => .int .i64 (446 + 16 * i)) (fun _ => True) (fun _ => []) := by
  refine Ct.of_st Try.func93 rfl rfl (L := [(0, .int .i64 i)]) ⟨rfl, trivial⟩ ?_
  refine st_seq ?_
  refine st_region rfl ?_
  refine sr_assign rfl rfl rfl rfl ?_
  refine sr_end ?_
  refine st_seq ?_
  refine st_region rfl ?_
  refine sr_move rfl rfl rfl rfl ?_
  refine sr_bin rfl rfl rfl rfl rfl (b_mulI (by omega) (by omega)) ?_
  refine sr_bin rfl rfl rfl rfl rfl (b_addI (by (try simp only [List.length_append, List.length_cons, List.length_nil, List.length_set, List.length_replicate, List.length_take, List.length_drop, List.length_map, List.length_range, bytesN_length] at *); omega) (by (try simp only [List.length_append, List.length_cons, List.length_nil, List.length_set, List.length_replicate, List.length_take, List.length_drop, List.length_map, List.length_range, bytesN_length] at *); omega)) ?_
  refine sr_assign rfl rfl rfl rfl ?_
  refine sr_end ?_
  exact st_retC (()) [] Try.func93 rfl rfl rfl trivial rfl

theorem Size_ok (w : World) (A : Option Addr) (n c : Nat) :
    Ct Try.prog 147 [.slice A n c] [] w (fun _ : Unit => .int .i64 (n : Int)) (fun _ => True) (fun _ => []) := by
  refine Ct.of_st Try.func147 rfl rfl (L := [(0, .slice A n c)]) ⟨rfl, trivial⟩ ?_
  refine st_seq ?_
  refine st_region rfl ?_
  refine sr_assign rfl rfl rfl rfl ?_
  refine sr_end ?_
  refine st_seq ?_
  refine st_region rfl ?_
  refine sr_move rfl rfl rfl rfl ?_
  refine sr_len rfl rfl rfl rfl el33 ?_
  refine sr_assign rfl rfl rfl rfl ?_
  refine sr_end ?_
  exact st_retC (()) [] Try.func147 rfl rfl rfl trivial rfl

def memR (bs : List UInt8) (at_ n : Int) : List UInt8 × Int := if at_ < 0 ∨ n < 0 ∨ (bs.length : Int) < at_ ∨ (bs.length : Int) - at_ < n then ([], 4) else ((bs.drop at_.toNat).take n.toNat, 0)
theorem Read_ok (w : World) (A : Option Addr) (bs : List UInt8) (c : Nat) (at_ n : Int) (hA : Has [] w A (enc bs)) (hb : bs.length ≤ 1000000000000) (hc : bs.length ≤ c) (h1 : -9223372036854775808 ≤ at_) (h2 : at_ ≤ 9223372036854775807) (h3 : -9223372036854775808 ≤ n) (h4 : n ≤ 9223372036854775807) :
    Ct Try.prog 146 [.slice A bs.length c, .int .i64 at_, .int .i64 n] [] w (fun x : Option Nat × Nat => .tuple #[rowV x.1 (memR bs at_ n).1.length x.2, .int .i64 (memR bs at_ n).2]) (fun _ => True) (fun x => [rowC x.1 (memR bs at_ n).1.length x.2 5 1 (enc (memR bs at_ n).1)]) := by
  refine Ct.of_st Try.func146 rfl rfl (L := [(0, .slice A bs.length c), (1, .int .i64 at_), (2, .int .i64 n)]) ⟨rfl, rfl, rfl, trivial⟩ ?_
  refine st_seq ?_
  refine st_region rfl ?_
  refine sr_assign rfl rfl rfl rfl ?_
  refine sr_assign rfl rfl rfl rfl ?_
  refine sr_end ?_
  refine st_seq ?_
  refine st_seq ?_
  refine st_region rfl ?_
  refine sr_move rfl rfl rfl rfl ?_
  refine sr_bin rfl rfl rfl rfl rfl b_lss ?_
  refine sr_move rfl rfl rfl rfl ?_
  refine sr_caseD (t := 10) rfl (fun g1 => ?_) (fun g1 => ?_)
  · skip
    refine sr_off rfl rfl rfl ?_
    refine sr_off rfl rfl rfl ?_
    refine sr_pickT rfl rfl rfl rfl rfl ?_
    refine sr_move rfl rfl rfl rfl ?_
    refine sr_off rfl rfl rfl ?_
    refine sr_off rfl rfl rfl ?_
    refine sr_off rfl rfl rfl ?_
    refine sr_off rfl rfl rfl ?_
    refine sr_pickT rfl rfl rfl rfl rfl ?_
    refine sr_move rfl rfl rfl rfl ?_
    refine sr_off rfl rfl rfl ?_
    refine sr_off rfl rfl rfl ?_
    refine sr_off rfl rfl rfl ?_
    refine sr_off rfl rfl rfl ?_
    refine sr_off rfl rfl rfl ?_
    refine sr_off rfl rfl rfl ?_
    refine sr_pickT rfl rfl rfl rfl rfl ?_
    refine sr_end ?_
    refine st_true rfl ?_
    refine st_seq ?_
    refine st_region rfl ?_
    refine sr_assign rfl rfl rfl rfl ?_
    refine sr_assign rfl rfl rfl rfl ?_
    refine sr_end ?_
    refine st_nilrow 5 1 ?_
    exact st_retE2 (none, 0) [] 4 [0] Try.func146 rfl rfl rfl rfl (by unfold memR; rw [if_pos (by omega)])
  · skip
    refine sr_move rfl rfl rfl rfl ?_
    refine sr_bin rfl rfl rfl rfl rfl b_lss ?_
    refine sr_pickF rfl rfl rfl rfl rfl ?_
    refine sr_move rfl rfl rfl rfl ?_
    refine sr_caseD (t := 14) rfl (fun g2 => ?_) (fun g2 => ?_)
    · skip
      refine sr_off rfl rfl rfl ?_
      refine sr_off rfl rfl rfl ?_
      refine sr_off rfl rfl rfl ?_
      refine sr_off rfl rfl rfl ?_
      refine sr_pickT rfl rfl rfl rfl rfl ?_
      refine sr_move rfl rfl rfl rfl ?_
      refine sr_off rfl rfl rfl ?_
      refine sr_off rfl rfl rfl ?_
      refine sr_off rfl rfl rfl ?_
      refine sr_off rfl rfl rfl ?_
      refine sr_off rfl rfl rfl ?_
      refine sr_off rfl rfl rfl ?_
      refine sr_pickT rfl rfl rfl rfl rfl ?_
      refine sr_end ?_
      refine st_true rfl ?_
      refine st_seq ?_
      refine st_region rfl ?_
      refine sr_assign rfl rfl rfl rfl ?_
      refine sr_assign rfl rfl rfl rfl ?_
      refine sr_end ?_
      refine st_nilrow 5 1 ?_
      exact st_retE2 (none, 0) [] 4 [0] Try.func146 rfl rfl rfl rfl (by unfold memR; rw [if_pos (by omega)])
    · skip
      refine sr_move rfl rfl rfl rfl ?_
      refine sr_move rfl rfl rfl rfl ?_
      refine sr_callM [] rfl rfl rfl rfl en147 rfl (fun w hh => Size_ok w _ _ _) ?_
      rintro ⟨⟩ -
      refine sr_bin rfl rfl rfl rfl rfl b_gtr ?_
      refine sr_pickF rfl rfl rfl rfl rfl ?_
      refine sr_move rfl rfl rfl rfl ?_
      refine sr_caseD (t := 20) rfl (fun g3 => ?_) (fun g3 => ?_)
      · skip
        refine sr_off rfl rfl rfl ?_
        refine sr_off rfl rfl rfl ?_
        refine sr_off rfl rfl rfl ?_
        refine sr_off rfl rfl rfl ?_
        refine sr_off rfl rfl rfl ?_
        refine sr_off rfl rfl rfl ?_
        refine sr_pickT rfl rfl rfl rfl rfl ?_
        refine sr_end ?_
        refine st_true rfl ?_
        refine st_seq ?_
        refine st_region rfl ?_
        refine sr_assign rfl rfl rfl rfl ?_
        refine sr_assign rfl rfl rfl rfl ?_
        refine sr_end ?_
        refine st_nilrow 5 1 ?_
        exact st_retE2 (none, 0) [] 4 [0] Try.func146 rfl rfl rfl rfl (by unfold memR; rw [if_pos (by omega)])
      · skip
        refine sr_move rfl rfl rfl rfl ?_
        refine sr_move rfl rfl rfl rfl ?_
        refine sr_callM [] rfl rfl rfl rfl en147 rfl (fun w hh => Size_ok w _ _ _) ?_
        rintro ⟨⟩ -
        refine sr_move rfl rfl rfl rfl ?_
        refine sr_bin rfl rfl rfl rfl rfl (b_subI (by (try simp only [List.length_append, List.length_cons, List.length_nil, List.length_set, List.length_replicate, List.length_take, List.length_drop, List.length_map, List.length_range, bytesN_length] at *); omega) (by (try simp only [List.length_append, List.length_cons, List.length_nil, List.length_set, List.length_replicate, List.length_take, List.length_drop, List.length_map, List.length_range, bytesN_length] at *); omega)) ?_
        refine sr_bin rfl rfl rfl rfl rfl b_gtr ?_
        refine sr_pickF rfl rfl rfl rfl rfl ?_
        refine sr_end ?_
        refine st_ifD rfl (fun q1 => ?_) (fun q1 => ?_)
        · skip
          refine st_seq ?_
          refine st_region rfl ?_
          refine sr_assign rfl rfl rfl rfl ?_
          refine sr_assign rfl rfl rfl rfl ?_
          refine sr_end ?_
          refine st_nilrow 5 1 ?_
          exact st_retE2 (none, 0) [] 4 [0] Try.func146 rfl rfl rfl rfl (by unfold memR; rw [if_pos (by omega)])
        · skip
          refine st_skip ?_
          refine st_seq ?_
          refine st_region rfl ?_
          refine sr_move rfl rfl rfl rfl ?_
          refine sr_move rfl rfl rfl rfl ?_
          refine sr_move rfl rfl rfl rfl ?_
          refine sr_move rfl rfl rfl rfl ?_
          refine sr_bin rfl rfl rfl rfl rfl (b_addI (by omega) (by omega)) ?_
          refine sr_sliceIn (xs := bs) at_.toNat ((at_ + n).toNat) rfl rfl rfl rfl rfl rfl el33 rfl hA (bound_int (by (try simp only [List.length_append, List.length_cons, List.length_nil, List.length_set, List.length_replicate, List.length_take, List.length_drop, List.length_map, List.length_range, bytesN_length] at *); omega) (by (try simp only [List.length_append, List.length_cons, List.length_nil, List.length_set, List.length_replicate, List.length_take, List.length_drop, List.length_map, List.length_range, bytesN_length] at *); omega)) (bound_int (by (try simp only [List.length_append, List.length_cons, List.length_nil, List.length_set, List.length_replicate, List.length_take, List.length_drop, List.length_map, List.length_range, bytesN_length] at *); omega) (by (try simp only [List.length_append, List.length_cons, List.length_nil, List.length_set, List.length_replicate, List.length_take, List.length_drop, List.length_map, List.length_range, bytesN_length] at *); omega)) (by (try simp only [List.length_append, List.length_cons, List.length_nil, List.length_set, List.length_replicate, List.length_take, List.length_drop, List.length_map, List.length_range, bytesN_length] at *); omega) (fun A1 hA1 => ?_)
          refine sr_nilrow 5 1 ?_
          refine sr_appendE (q := 0) (xs := ([] : List UInt8)) ((bs.drop at_.toNat).take (((at_ + n).toNat) - at_.toNat)) rfl rfl rfl rfl rfl el23 el33 rfl ze5 rfl by5 rfl (fun w hh => (hA1.heap0 hh)) (by simp <;> omega) rfl (by (try simp only [List.length_append, List.length_cons, List.length_nil, List.length_set, List.length_replicate, List.length_take, List.length_drop, List.length_map, List.length_range, bytesN_length] at *); omega) rfl (fun o1 cap1 => ?_)
          refine sr_assign rfl rfl rfl rfl ?_
          refine sr_assign rfl rfl rfl rfl ?_
          refine sr_end ?_
          exact st_retE2 (o1, cap1) ((bs.drop at_.toNat).take (((at_ + n).toNat) - at_.toNat)) 0 [0] Try.func146 rfl rfl rfl rfl (by unfold memR; rw [if_neg (by omega)]; simp; have e : (at_ + n).toNat - at_.toNat = n.toNat := (by omega); rw [e])

end Try
end Go.Sl
