/- A part of the proof: words and contracts that the row is built on. -/
import Derived.Test.YtjngkghhdphfcaaG8
namespace Go.Sl
open Go.RowKit Go.Proofs
set_option linter.unusedVariables false
set_option linter.unusedSimpArgs false
set_option maxRecDepth 10000
namespace Try
theorem el169 : elOf Try.prog 169 = some (35, 1) := by kernel_rfl
theorem en11 : entB Try.prog 11 = true := by kernel_rfl
theorem sz35 : szOf Try.prog 35 = some 1 := by kernel_rfl
theorem Apart_ok (w : World) (A : Option Addr) (xs : List (Int × Int)) (c : Nat) (hA : Has [] w A (enc xs)) (hb : xs.length ≤ 1000) (hw : Within (-1125899906842624) 1125899906842624 xs) :
    Ct Try.prog 78 [.slice A xs.length c] [] w (fun _ : Unit => .bool (apartF xs)) (fun _ => True) (fun _ => []) := by
  refine Ct.of_st Try.func78 rfl rfl (L := [(0, .slice A xs.length c)]) ⟨rfl, trivial⟩ ?_
  refine st_seq ?_
  refine st_region rfl ?_
  refine sr_assign rfl rfl rfl rfl ?_
  refine sr_end ?_
  refine st_seq ?_
  refine st_region rfl ?_
  refine sr_assign rfl rfl rfl rfl ?_
  refine sr_end ?_
  refine st_seq ?_
  refine st_seq ?_
  refine st_region rfl ?_
  refine sr_move rfl rfl rfl rfl ?_
  refine sr_len rfl rfl rfl rfl el34 ?_
  refine sr_move rfl rfl rfl rfl ?_
  refine sr_end ?_
  refine st_block ?_
  refine st_loop1 [] (fun (k : Nat) => [(0, .slice A xs.length c), (3, .int .i64 (widE (xs.take k))), (6, .slice A xs.length c), (7, .int .i64 (xs.length : Int)), (8, .int .i64 (k : Int))]) (fun (k : Nat) => []) (fun (k : Nat) => k ≤ xs.length) (fun (k : Nat) => xs.length - k) 0 (Nat.zero_le _) ⟨rfl, rfl, rfl, rfl, rfl, trivial⟩ rfl (fun k hI1 hk1 => ?_)
  have hb1 := widE_bound (l := xs.take k) (hw.take k) (by omega)
  rw [List.length_take] at hb1
  refine st_seq ?_
  refine st_region rfl ?_
  refine sr_bin rfl rfl rfl rfl rfl b_lss ?_
  refine sr_end ?_
  refine st_seq ?_
  refine st_ifD rfl (fun q1 => ?_) (fun q1 => ?_)
  · skip
    refine st_skip ?_
    refine st_seq ?_
    refine st_block ?_
    refine st_seq ?_
    refine st_region rfl ?_
    obtain ⟨B1, O1, eA1, hg_B1, hb_B1⟩ := hA (enc_ne (by omega))
    refine sr_indexRoE rfl rfl rfl rfl rfl el34 eA1 (by (try simp only [List.length_append, List.length_cons, List.length_nil, List.length_set, List.length_replicate, List.length_take, List.length_drop, List.length_map, List.length_range, bytesN_length, List.length_singleton] at *); omega) (by (try simp only [List.length_append, List.length_cons, List.length_nil, List.length_set, List.length_replicate, List.length_take, List.length_drop, List.length_map, List.length_range, bytesN_length, List.length_singleton] at *); omega) ?_
    refine sr_loadAt (p := O1) (off := k * 2 + 0) rfl rfl rfl rfl rfl (has_cells hg_B1 hb_B1) (rdN (i := k) (j := 0) ag54 sz54 ((0, 0) : Int × Int) [.int .i64 ((xs.getD k ((0, 0) : Int × Int)).1), .int .i64 ((xs.getD k ((0, 0) : Int × Int)).2)] (by omega) rfl rfl) ?_
    refine sr_alloc rfl rfl rfl ze54 (fun b1 => ?_)
    refine sr_store (k := 0) rfl rfl rfl rfl rfl sz54 rfl rfl rfl rfl ?_
    refine sr_end ?_
    have hb2 := hw _ (getD_mem (l := xs) (k := k) (by omega))
    refine st_region rfl ?_
    refine sr_move rfl rfl rfl rfl ?_
    refine sr_fieldAddr (m := 1) rfl rfl rfl rfl fd54_1 rfl ?_
    refine sr_load1 (k := 0) rfl rfl rfl rfl rfl ag2 rfl ?_
    refine sr_fieldAddr (m := 0) rfl rfl rfl rfl fd54_0 rfl ?_
    refine sr_load1 (k := 0) rfl rfl rfl rfl rfl ag2 rfl ?_
    refine sr_bin rfl rfl rfl rfl rfl (b_subI (by (try simp only [List.length_append, List.length_cons, List.length_nil, List.length_set, List.length_replicate, List.length_take, List.length_drop, List.length_map, List.length_range, bytesN_length, List.length_singleton] at *); omega) (by (try simp only [List.length_append, List.length_cons, List.length_nil, List.length_set, List.length_replicate, List.length_take, List.length_drop, List.length_map, List.length_range, bytesN_length, List.length_singleton] at *); omega)) ?_
    refine sr_max rfl rfl rfl rfl rfl ?_
    refine sr_bin rfl rfl rfl rfl rfl (b_addI (by (try simp only [List.length_append, List.length_cons, List.length_nil, List.length_set, List.length_replicate, List.length_take, List.length_drop, List.length_map, List.length_range, bytesN_length, List.length_singleton] at *); omega) (by (try simp only [List.length_append, List.length_cons, List.length_nil, List.length_set, List.length_replicate, List.length_take, List.length_drop, List.length_map, List.length_range, bytesN_length, List.length_singleton] at *); omega)) ?_
    refine sr_assign rfl rfl rfl rfl ?_
    refine sr_end ?_
    refine st_inBlock ?_
    refine st_region rfl ?_
    refine sr_bin rfl rfl rfl rfl rfl (b_addI (by (try simp only [List.length_append, List.length_cons, List.length_nil, List.length_set, List.length_replicate, List.length_take, List.length_drop, List.length_map, List.length_range, bytesN_length, List.length_singleton] at *); omega) (by (try simp only [List.length_append, List.length_cons, List.length_nil, List.length_set, List.length_replicate, List.length_take, List.length_drop, List.length_map, List.length_range, bytesN_length, List.length_singleton] at *); omega)) ?_
    refine sr_move rfl rfl rfl rfl ?_
    refine sr_end ?_
    have hks : k < xs.length := (by omega)
    exact st_go [] (hk1 (k + 1) (by omega) (by omega)) ⟨rfl, congrArg (fun z : Int => some (Value.int .i64 z)) (by rw [widE_succ hks]), rfl, rfl, congrArg (fun z : Int => some (Value.int .i64 z)) (by omega), trivial⟩ rfl
  · skip
    refine st_exit rfl ?_
    refine st_seq ?_
    have hnl := normF_len xs
    refine st_region rfl ?_
    refine sr_move rfl rfl rfl rfl ?_
    refine sr_callM [] rfl rfl rfl rfl en44 rfl (fun w hh => Norm_ok w _ xs _ (hA.heap0 hh) (by omega)) ?_
    rintro ⟨o1, cap1⟩ -
    refine sr_callM [] rfl rfl rfl rfl en11 rfl (fun w hh => Bytes_set_ok w _ (normF xs) _ (rowC_has (hh.hp.get (i := 0) rfl)) (by omega) (normF_within hw)) ?_
    rintro ⟨⟩ -
    refine sr_move rfl rfl rfl rfl ?_
    refine sr_bin rfl rfl rfl rfl rfl b_eql ?_
    refine sr_assign rfl rfl rfl rfl ?_
    refine sr_end ?_
    exact st_retC (()) [] Try.func78 rfl rfl (by rw [show k = xs.length by omega, List.take_length, normF_self (normF_canon xs)]; rfl) trivial rfl

theorem flat_succ {ss : List SetV} {k : Nat} (h : k < ss.length) : (ss.take (k + 1)).flatMap SetV.xs = (ss.take k).flatMap SetV.xs ++ (ss.getD k (⟨none, [], 0⟩ : SetV)).xs := by
  rw [List.take_add_one, List.flatMap_append]
  simp [List.getD_eq_getElem?_getD, h]
theorem flat_le : ∀ (ss : List SetV) (k : Nat), ((ss.take k).flatMap SetV.xs).length ≤ (ss.flatMap SetV.xs).length
  | [], k => by simp
  | s :: ss, 0 => by simp
  | s :: ss, k + 1 => by
    have := flat_le ss k
    simp only [List.take_succ_cons, List.flatMap_cons, List.length_append]; omega
theorem Union_ok (w : World) (A : Option Addr) (ss : List SetV) (c : Nat) (hA : Has [] w A (enc ss)) (hS : ∀ i, i < ss.length → Has [] w (ss.getD i (⟨none, [], 0⟩ : SetV)).A (enc (ss.getD i (⟨none, [], 0⟩ : SetV)).xs)) (hb : ss.length ≤ 1000) (hb2 : (ss.flatMap SetV.xs).length ≤ 1000000) :
    Ct Try.prog 51 [.slice A ss.length c] [] w (fun x : Option Nat × Nat => rowV x.1 (normF (ss.flatMap SetV.xs)).length x.2) (fun _ => True) (fun x => [rowC x.1 (normF (ss.flatMap SetV.xs)).length x.2 54 2 (enc (normF (ss.flatMap SetV.xs)))]) := by
  refine Ct.of_st Try.func51 rfl rfl (L := [(0, .slice A ss.length c)]) ⟨rfl, trivial⟩ ?_
  refine st_seq ?_
  refine st_region rfl ?_
  refine sr_assign rfl rfl rfl rfl ?_
  refine sr_end ?_
  refine st_seq ?_
  refine st_region rfl ?_
  refine sr_assign rfl rfl rfl rfl ?_
  refine sr_end ?_
  refine st_seq ?_
  refine st_seq ?_
  refine st_region rfl ?_
  refine sr_move rfl rfl rfl rfl ?_
  refine sr_len rfl rfl rfl rfl el169 ?_
  refine sr_move rfl rfl rfl rfl ?_
  refine sr_end ?_
  refine st_block ?_
  refine st_nilrow 54 2 ?_
  refine st_loop3 [0] (fun (k : Nat) (ro1 : Option Nat) (rc1 : Nat) => [(3, rowV ro1 (((ss.take k).flatMap SetV.xs).length) rc1), (6, .slice A ss.length c), (7, .int .i64 (ss.length : Int)), (8, .int .i64 (k : Int))]) (fun (k : Nat) (ro1 : Option Nat) (rc1 : Nat) => [rowC ro1 (((ss.take k).flatMap SetV.xs).length) rc1 54 2 (enc ((ss.take k).flatMap SetV.xs))]) (fun (k : Nat) (ro1 : Option Nat) (rc1 : Nat) => k ≤ ss.length) (fun (k : Nat) (ro1 : Option Nat) (rc1 : Nat) => ss.length - k) 0 none 0 (Nat.zero_le _) ⟨rfl, rfl, rfl, rfl, trivial⟩ rfl (fun k ro1 rc1 hI1 hk1 => ?_)
  have hfl := flat_le ss k
  refine st_seq ?_
  refine st_region rfl ?_
  refine sr_bin rfl rfl rfl rfl rfl b_lss ?_
  refine sr_end ?_
  refine st_seq ?_
  refine st_ifD rfl (fun q1 => ?_) (fun q1 => ?_)
  · skip
    refine st_skip ?_
    refine st_seq ?_
    refine st_block ?_
    refine st_seq ?_
    refine st_region rfl ?_
    obtain ⟨B1, O1, eA1, hg_B1, hb_B1⟩ := hA (enc_ne (by omega))
    refine sr_indexRoE rfl rfl rfl rfl rfl el169 eA1 (by (try simp only [List.length_append, List.length_cons, List.length_nil, List.length_set, List.length_replicate, List.length_take, List.length_drop, List.length_map, List.length_range, bytesN_length, List.length_singleton] at *); omega) (by (try simp only [List.length_append, List.length_cons, List.length_nil, List.length_set, List.length_replicate, List.length_take, List.length_drop, List.length_map, List.length_range, bytesN_length, List.length_singleton] at *); omega) ?_
    refine sr_loadAt (p := O1) (off := k * 1 + 0) rfl rfl rfl rfl rfl (has_cells hg_B1 hb_B1) (rd1 (i := k) (j := 0) ag35 (⟨none, [], 0⟩ : SetV) (by omega) rfl) ?_
    refine sr_assign rfl rfl rfl rfl ?_
    refine sr_end ?_
    refine st_region rfl ?_
    refine sr_move rfl rfl rfl rfl ?_
    refine sr_move rfl rfl rfl rfl ?_
    refine sr_appendE (q := 0) (xs := (ss.take k).flatMap SetV.xs) ((ss.getD k (⟨none, [], 0⟩ : SetV)).xs) rfl rfl rfl rfl rfl el34 el35 rfl ze54 rfl by54 rfl (fun w hh => (Has.heap0 (hS k (by omega)) hh)) (by simp <;> omega) rfl (by have h9 := flat_le ss (k + 1); rw [flat_succ (by omega), List.length_append] at h9; omega) rfl (fun o1 cap1 => ?_)
    refine sr_assign rfl rfl rfl rfl ?_
    refine sr_end ?_
    refine st_inBlock ?_
    refine st_region rfl ?_
    refine sr_bin rfl rfl rfl rfl rfl (b_addI (by (try simp only [List.length_append, List.length_cons, List.length_nil, List.length_set, List.length_replicate, List.length_take, List.length_drop, List.length_map, List.length_range, bytesN_length, List.length_singleton] at *); omega) (by (try simp only [List.length_append, List.length_cons, List.length_nil, List.length_set, List.length_replicate, List.length_take, List.length_drop, List.length_map, List.length_range, bytesN_length, List.length_singleton] at *); omega)) ?_
    refine sr_move rfl rfl rfl rfl ?_
    refine sr_end ?_
    have hks : k < ss.length := (by omega)
    have hstep := flat_succ hks
    refine st_row 0 (((ss.take (k + 1)).flatMap SetV.xs).length) (enc ((ss.take (k + 1)).flatMap SetV.xs)) rfl (by rw [hstep]) (congrArg enc (by exact hstep.symm)) ?_
    refine st_val 3 rfl (congrArg (fun z => rowV o1 z cap1) (by rw [hstep])) (v' := rowV o1 (((ss.take (k + 1)).flatMap SetV.xs).length) cap1) ?_
    exact st_go [0] (hk1 (k + 1) o1 cap1 (by omega) (by omega)) ⟨rfl, rfl, rfl, congrArg (fun z : Int => some (Value.int .i64 z)) (by omega), trivial⟩ rfl
  · skip
    refine st_exit rfl ?_
    refine st_seq ?_
    refine st_region rfl ?_
    refine sr_move rfl rfl rfl rfl ?_
    refine sr_callM [] rfl rfl rfl rfl en44 rfl (fun w hh => Norm_ok w _ ((ss.take k).flatMap SetV.xs) _ (rowC_has (hh.hp.get (i := 0) rfl)) (by (try simp only [List.length_append, List.length_cons, List.length_nil, List.length_set, List.length_replicate, List.length_take, List.length_drop, List.length_map, List.length_range, bytesN_length, List.length_singleton] at *); omega)) ?_
    rintro ⟨o2, cap2⟩ -
    refine sr_assign rfl rfl rfl rfl ?_
    refine sr_end ?_
    have hfin : (ss.take k).flatMap SetV.xs = ss.flatMap SetV.xs := by rw [show k = ss.length by omega, List.take_length]
    refine st_row 0 ((normF (ss.flatMap SetV.xs)).length) (enc (normF (ss.flatMap SetV.xs))) rfl (by rw [hfin]) (congrArg enc (by rw [hfin])) ?_
    refine st_val 2 rfl (congrArg (fun z => rowV o2 z cap2) (by rw [hfin])) (v' := rowV o2 ((normF (ss.flatMap SetV.xs)).length) cap2) ?_
    exact st_retC (o2, cap2) [0] Try.func51 rfl rfl rfl trivial rfl

end Try
end Go.Sl
