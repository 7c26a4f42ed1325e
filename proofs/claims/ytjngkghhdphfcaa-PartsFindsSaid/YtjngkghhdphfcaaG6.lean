/- A part of the proof: words and contracts that the row is built on. -/
import Derived.Test.YtjngkghhdphfcaaSortE
namespace Go.Sl
open Go.RowKit Go.Proofs
set_option linter.unusedVariables false
set_option linter.unusedSimpArgs false
set_option maxRecDepth 10000
namespace Try
theorem el35 : elOf Try.prog 35 = some (54, 2) := by kernel_rfl
theorem en69 : entB Try.prog 69 = true := by kernel_rfl
theorem en70 : entB Try.prog 70 = true := by kernel_rfl
theorem fd54_1 : fldOf Try.prog 54 1 = some 1 := by kernel_rfl
theorem Norm_ok (w : World) (A : Option Addr) (xs : List (Int × Int)) (c : Nat) (hA : Has [] w A (enc xs)) (hb : xs.length ≤ 1000000000) :
    Ct Try.prog 44 [.slice A xs.length c] [] w (fun x : Option Nat × Nat => rowV x.1 (normF xs).length x.2) (fun _ => True) (fun x => [rowC x.1 (normF xs).length x.2 54 2 (enc (normF xs))]) := by
  refine Ct.of_st Try.func44 rfl rfl (L := [(0, .slice A xs.length c)]) ⟨rfl, trivial⟩ ?_
  refine st_seq ?_
  refine st_region rfl ?_
  refine sr_assign rfl rfl rfl rfl ?_
  refine sr_end ?_
  refine st_seq ?_
  refine st_region rfl ?_
  refine sr_move rfl rfl rfl rfl ?_
  refine sr_callM [] rfl rfl rfl rfl en69 rfl (fun w hh => Clone_ok w _ xs _ (hA.heap0 hh) (by omega)) ?_
  rintro ⟨o1, cap1⟩ -
  refine sr_assign rfl rfl rfl rfl ?_
  refine sr_end ?_
  refine st_seq ?_
  refine st_region rfl ?_
  refine sr_move rfl rfl rfl rfl ?_
  refine sr_callM [0] rfl rfl rfl rfl en70 rfl (fun w hh => SortE_ok w _ _ xs (by omega)) ?_
  rintro ys1 hs1
  have hl_ys1 : ys1.length = xs.length := hs1.1.length_eq
  refine sr_end ?_
  refine st_seq ?_
  refine st_region rfl ?_
  refine sr_assign rfl rfl rfl rfl ?_
  refine sr_end ?_
  refine st_seq ?_
  refine st_seq ?_
  refine st_region rfl ?_
  refine sr_move rfl rfl rfl rfl ?_
  refine sr_len rfl rfl rfl rfl el34 ?_
  refine sr_move rfl rfl rfl rfl ?_
  refine sr_end ?_
  refine st_block ?_
  refine st_nilrow 54 2 ?_
  refine st_loop3 [0, 0] (fun (k : Nat) (ro1 : Option Nat) (rc1 : Nat) => [(4, rowV ro1 ((mergeF (ys1.take k)).length) rc1), (12, rowV o1 xs.length cap1), (13, .int .i64 (xs.length : Int)), (14, .int .i64 (k : Int))]) (fun (k : Nat) (ro1 : Option Nat) (rc1 : Nat) => [rowC ro1 ((mergeF (ys1.take k)).length) rc1 54 2 (enc (mergeF (ys1.take k))), rowC o1 xs.length cap1 54 2 (enc ys1)]) (fun (k : Nat) (ro1 : Option Nat) (rc1 : Nat) => k ≤ xs.length) (fun (k : Nat) (ro1 : Option Nat) (rc1 : Nat) => xs.length - k) 0 none 0 (Nat.zero_le _) ⟨rfl, rfl, rfl, rfl, trivial⟩ rfl (fun k ro1 rc1 hI1 hk1 => ?_)
  have hlm := mergeF_len (ys1.take k)
  rw [List.length_take] at hlm
  refine st_seq ?_
  refine st_region rfl ?_
  refine sr_bin rfl rfl rfl rfl rfl b_lss ?_
  refine sr_end ?_
  refine st_seq ?_
  refine st_ifD rfl (fun q1 => ?_) (fun q1 => ?_)
  · have hk : k < ys1.length := (by omega)
    refine st_skip ?_
    refine st_seq ?_
    refine st_block ?_
    refine st_seq ?_
    refine st_region rfl ?_
    refine rk_open (q := 1) rfl (by (try simp only [List.length_append, List.length_cons, List.length_nil, List.length_set, List.length_replicate, List.length_take, List.length_drop, List.length_map, List.length_range, bytesN_length] at *); omega) (fun B1 eo1 => ?_)
    subst eo1
    refine sr_indexRowB rfl rfl rfl rfl rfl el34 (by (try simp only [List.length_append, List.length_cons, List.length_nil, List.length_set, List.length_replicate, List.length_take, List.length_drop, List.length_map, List.length_range, bytesN_length] at *); omega) (by (try simp only [List.length_append, List.length_cons, List.length_nil, List.length_set, List.length_replicate, List.length_take, List.length_drop, List.length_map, List.length_range, bytesN_length] at *); omega) ?_
    refine sr_loadRow (q := 1) (off := k * 2 + 0) rfl rfl rfl rfl rfl rfl (rdN (i := k) (j := 0) ag54 sz54 ((0, 0) : Int × Int) [.int .i64 ((ys1.getD k ((0, 0) : Int × Int)).1), .int .i64 ((ys1.getD k ((0, 0) : Int × Int)).2)] (by omega) rfl rfl) ?_
    refine sr_alloc rfl rfl rfl ze54 (fun b1 => ?_)
    refine sr_store (k := 0) rfl rfl rfl rfl rfl sz54 rfl rfl rfl rfl ?_
    refine sr_end ?_
    refine st_seq ?_
    refine st_seq ?_
    refine st_region rfl ?_
    refine sr_fieldAddr (m := 1) rfl rfl rfl rfl fd54_1 rfl ?_
    refine sr_load1 (k := 0) rfl rfl rfl rfl rfl ag2 rfl ?_
    refine sr_fieldAddr (m := 0) rfl rfl rfl rfl fd54_0 rfl ?_
    refine sr_load1 (k := 0) rfl rfl rfl rfl rfl ag2 rfl ?_
    refine sr_bin rfl rfl rfl rfl rfl b_leq ?_
    refine sr_end ?_
    refine st_ifD rfl (fun q2 => ?_) (fun q2 => ?_)
    · have hskip := q2
      refine st_exit rfl ?_
      refine st_region rfl ?_
      refine sr_bin rfl rfl rfl rfl rfl (b_addI (by (try simp only [List.length_append, List.length_cons, List.length_nil, List.length_set, List.length_replicate, List.length_take, List.length_drop, List.length_map, List.length_range, bytesN_length] at *); omega) (by (try simp only [List.length_append, List.length_cons, List.length_nil, List.length_set, List.length_replicate, List.length_take, List.length_drop, List.length_map, List.length_range, bytesN_length] at *); omega)) ?_
      refine sr_move rfl rfl rfl rfl ?_
      refine sr_end ?_
      have hstep : mergeF (ys1.take (k + 1)) = mergeF (ys1.take k) := (mergeF_succ hk).trans (stepM_skip hskip)
      refine st_row 1 ((mergeF (ys1.take (k + 1))).length) (enc (mergeF (ys1.take (k + 1)))) rfl (by rw [hstep]) (congrArg enc (by exact hstep.symm)) ?_
      refine st_val 4 rfl (congrArg (fun z => rowV ro1 z rc1) (by rw [hstep])) (v' := rowV ro1 ((mergeF (ys1.take (k + 1))).length) rc1) ?_
      exact st_go [1, 1] (hk1 (k + 1) ro1 rc1 (by omega) (by omega)) ⟨rfl, rfl, rfl, congrArg (fun z : Int => some (Value.int .i64 z)) (by omega), trivial⟩ rfl
    · have hne := q2
      refine st_skip ?_
      refine st_seq ?_
      refine st_seq ?_
      refine st_region rfl ?_
      refine sr_move rfl rfl rfl rfl ?_
      refine sr_len rfl rfl rfl rfl el35 ?_
      refine sr_assign rfl rfl rfl rfl ?_
      refine sr_end ?_
      refine st_seq ?_
      refine st_draw [] [cellsC b1 54 [.int .i64 ((ys1.getD k ((0, 0) : Int × Int)).1), .int .i64 ((ys1.getD k ((0, 0) : Int × Int)).2)], rowC ro1 ((mergeF (ys1.take k)).length) rc1 54 2 (enc (mergeF (ys1.take k)))] follows_mixed rfl ?_
      refine sd_take [0, 0] 0 rfl rfl rfl (fun _ => pv_move rfl) (by kernel_rfl) (by kernel_rfl) (by kernel_rfl) (by kernel_rfl) rfl ?_
      refine sd_take [0, 0] 1 rfl rfl rfl (fun _ => pv_bin rfl rfl b_gtr) (by kernel_rfl) (by kernel_rfl) (by kernel_rfl) (by kernel_rfl) rfl ?_
      refine sd_take [0, 0] 2 rfl rfl rfl (fun _ => pv_move rfl) (by kernel_rfl) (by kernel_rfl) (by kernel_rfl) (by kernel_rfl) rfl ?_
      refine sd_caseD (t := 27) rfl (fun g9 => ?_) (fun g9 => ?_)
      · have hj0 : 0 < (mergeF (ys1.take k)).length := (by omega)
        refine sd_take [0, 0] 3 rfl rfl rfl (fun _ => pv_fieldAddr (m := 0) rfl fd54_0 rfl) (by kernel_rfl) (by kernel_rfl) (by kernel_rfl) (by kernel_rfl) rfl ?_
        refine sd_take [0, 0] 4 rfl rfl rfl (fun _ => pv_load1 (k := 0) rfl rfl ag2 rfl) (by kernel_rfl) (by kernel_rfl) (by kernel_rfl) (by kernel_rfl) rfl ?_
        refine sd_take [0, 0] 5 rfl rfl rfl (fun _ => pv_move rfl) (by kernel_rfl) (by kernel_rfl) (by kernel_rfl) (by kernel_rfl) rfl ?_
        refine sd_take [0, 0] 6 rfl rfl rfl (fun _ => pv_move rfl) (by kernel_rfl) (by kernel_rfl) (by kernel_rfl) (by kernel_rfl) rfl ?_
        refine sd_take [0, 0] 7 rfl rfl rfl (fun _ => pv_bin rfl rfl (b_subI (by omega) (by omega))) (by kernel_rfl) (by kernel_rfl) (by kernel_rfl) (by kernel_rfl) rfl ?_
        refine rk_open (q := 1) rfl (by omega) (fun B2 eo2 => ?_)
        subst eo2
        refine sd_take [0, 0] 8 rfl rfl rfl (fun _ => pv_indexRow rfl rfl el35 (by omega) (by omega)) (by kernel_rfl) (by kernel_rfl) (by kernel_rfl) (by kernel_rfl) rfl ?_
        refine sd_take [0, 0] 9 rfl rfl rfl (fun _ => pv_fieldAddr (m := (((mergeF (ys1.take k)).length : Int) - 1).toNat * 2 + 1) rfl fd54_1 rfl) (by kernel_rfl) (by kernel_rfl) (by kernel_rfl) (by kernel_rfl) rfl ?_
        refine sd_take [0, 0] 10 rfl rfl rfl (fun _ => pv_loadRow (q := 1) (off := ((mergeF (ys1.take k)).length - 1) * 2 + 1) rfl rfl (by omega) (rd1 (i := (mergeF (ys1.take k)).length - 1) (j := 1) ag2 ((0, 0) : Int × Int) (by omega) rfl)) (by kernel_rfl) (by kernel_rfl) (by kernel_rfl) (by kernel_rfl) rfl ?_
        refine sd_take [0, 0] 11 rfl rfl rfl (fun _ => pv_bin rfl rfl b_leq) (by kernel_rfl) (by kernel_rfl) (by kernel_rfl) (by kernel_rfl) rfl ?_
        refine sd_take [0, 0] 12 rfl rfl rfl (fun _ => pv_pickT rfl rfl) (by kernel_rfl) (by kernel_rfl) (by kernel_rfl) (by kernel_rfl) rfl ?_
        refine sd_end (by kernel_rfl) ?_
        refine st_ifD rfl (fun q9 => ?_) (fun q9 => ?_)
        · have hj := q9
          refine st_seq ?_
          refine st_draw [14] [cellsC b1 54 [.int .i64 ((ys1.getD k ((0, 0) : Int × Int)).1), .int .i64 ((ys1.getD k ((0, 0) : Int × Int)).2)], rowC (some B2) ((mergeF (ys1.take k)).length) rc1 54 2 (enc (mergeF (ys1.take k)))] follows_mixed rfl ?_
          refine sd_take [0, 0] 0 rfl rfl rfl (fun _ => pv_move rfl) (by kernel_rfl) (by kernel_rfl) (by kernel_rfl) (by kernel_rfl) rfl ?_
          refine sd_take [0, 0] 1 rfl rfl rfl (fun _ => pv_move rfl) (by kernel_rfl) (by kernel_rfl) (by kernel_rfl) (by kernel_rfl) rfl ?_
          refine sd_take [0, 0] 2 rfl rfl rfl (fun _ => pv_bin rfl rfl (b_subI (by omega) (by omega))) (by kernel_rfl) (by kernel_rfl) (by kernel_rfl) (by kernel_rfl) rfl ?_
          refine sd_take [0, 0] 3 rfl rfl rfl (fun _ => pv_move rfl) (by kernel_rfl) (by kernel_rfl) (by kernel_rfl) (by kernel_rfl) rfl ?_
          refine sd_take [0, 0] 4 rfl rfl rfl (fun _ => pv_move rfl) (by kernel_rfl) (by kernel_rfl) (by kernel_rfl) (by kernel_rfl) rfl ?_
          refine sd_take [0, 0] 5 rfl rfl rfl (fun _ => pv_bin rfl rfl (b_subI (by omega) (by omega))) (by kernel_rfl) (by kernel_rfl) (by kernel_rfl) (by kernel_rfl) rfl ?_
          refine sd_take [0, 0] 6 rfl rfl rfl (fun _ => pv_indexRow rfl rfl el35 (by omega) (by omega)) (by kernel_rfl) (by kernel_rfl) (by kernel_rfl) (by kernel_rfl) rfl ?_
          refine sd_take [0, 0] 7 rfl rfl rfl (fun _ => pv_fieldAddr (m := (((mergeF (ys1.take k)).length : Int) - 1).toNat * 2 + 1) rfl fd54_1 rfl) (by kernel_rfl) (by kernel_rfl) (by kernel_rfl) (by kernel_rfl) rfl ?_
          refine sd_take [0, 0] 8 rfl rfl rfl (fun _ => pv_loadRow (q := 1) (off := ((mergeF (ys1.take k)).length - 1) * 2 + 1) rfl rfl (by omega) (rd1 (i := (mergeF (ys1.take k)).length - 1) (j := 1) ag2 ((0, 0) : Int × Int) (by omega) rfl)) (by kernel_rfl) (by kernel_rfl) (by kernel_rfl) (by kernel_rfl) rfl ?_
          refine sd_take [0, 0] 9 rfl rfl rfl (fun _ => pv_fieldAddr (m := 1) rfl fd54_1 rfl) (by kernel_rfl) (by kernel_rfl) (by kernel_rfl) (by kernel_rfl) rfl ?_
          refine sd_take [0, 0] 10 rfl rfl rfl (fun _ => pv_load1 (k := 0) rfl rfl ag2 rfl) (by kernel_rfl) (by kernel_rfl) (by kernel_rfl) (by kernel_rfl) rfl ?_
          refine sd_take [0, 0] 11 rfl rfl rfl (fun _ => pv_max rfl rfl) (by kernel_rfl) (by kernel_rfl) (by kernel_rfl) (by kernel_rfl) rfl ?_
          refine sd_one 12 (by kernel_rfl) ?_
          refine sr_indexRowB rfl rfl rfl rfl rfl el35 (by omega) (by omega) ?_
          refine sd_next [0, 0] rfl ?_
          refine sd_take [0, 0] 13 rfl rfl rfl (fun _ => pv_fieldAddr (m := (((mergeF (ys1.take k)).length : Int) - 1).toNat * 2 + 1) rfl fd54_1 rfl) (by kernel_rfl) (by kernel_rfl) (by kernel_rfl) (by kernel_rfl) rfl ?_
          refine sd_one 14 (by kernel_rfl) ?_
          refine sr_storeE (q := 1) (xs := mergeF (ys1.take k)) (off := (((mergeF (ys1.take k)).length : Int) - 1).toNat * 2 + 1) ((mergeF (ys1.take k)).length - 1) 1 ((0, 0) : Int × Int) (((mergeF (ys1.take k)).getD ((mergeF (ys1.take k)).length - 1) ((0, 0) : Int × Int)).1, max (((mergeF (ys1.take k)).getD ((mergeF (ys1.take k)).length - 1) ((0, 0) : Int × Int)).2) ((ys1.getD k ((0, 0) : Int × Int)).2)) rfl rfl rfl rfl (show (((mergeF (ys1.take k)).length : Int) - 1).toNat * 2 + 1 = ((mergeF (ys1.take k)).length - 1) * 2 + 1 from by omega) rfl sz2 rfl rfl rfl (by omega) rfl rfl ?_
          refine sd_nextE (by kernel_rfl) ?_
          refine sd_end (by kernel_rfl) ?_
          refine st_exit rfl ?_
          refine st_region rfl ?_
          refine sr_bin rfl rfl rfl rfl rfl (b_addI (by (try simp only [List.length_append, List.length_cons, List.length_nil, List.length_set, List.length_replicate, List.length_take, List.length_drop, List.length_map, List.length_range, bytesN_length] at *); omega) (by (try simp only [List.length_append, List.length_cons, List.length_nil, List.length_set, List.length_replicate, List.length_take, List.length_drop, List.length_map, List.length_range, bytesN_length] at *); omega)) ?_
          refine sr_move rfl rfl rfl rfl ?_
          refine sr_end ?_
          have hstep : mergeF (ys1.take (k + 1)) = (mergeF (ys1.take k)).set ((mergeF (ys1.take k)).length - 1) (((mergeF (ys1.take k)).getD ((mergeF (ys1.take k)).length - 1) ((0, 0) : Int × Int)).1, max (((mergeF (ys1.take k)).getD ((mergeF (ys1.take k)).length - 1) ((0, 0) : Int × Int)).2) ((ys1.getD k ((0, 0) : Int × Int)).2)) := (mergeF_succ hk).trans (stepM_join hne hj0 hj)
          refine st_row 1 ((mergeF (ys1.take (k + 1))).length) (enc (mergeF (ys1.take (k + 1)))) rfl (by rw [hstep, List.length_set]) (congrArg enc (by exact hstep.symm)) ?_
          refine st_val 4 rfl (congrArg (fun z => rowV (some B2) z rc1) (by rw [hstep, List.length_set])) (v' := rowV (some B2) ((mergeF (ys1.take (k + 1))).length) rc1) ?_
          exact st_go [1, 1] (hk1 (k + 1) (some B2) rc1 (by omega) (by omega)) ⟨rfl, rfl, rfl, congrArg (fun z : Int => some (Value.int .i64 z)) (by omega), trivial⟩ rfl
        · have hnew : ¬ (0 < (mergeF (ys1.take k)).length ∧ (ys1.getD k ((0, 0) : Int × Int)).1 ≤ ((mergeF (ys1.take k)).getD ((mergeF (ys1.take k)).length - 1) ((0, 0) : Int × Int)).2) := fun h => q9 h.2
          refine st_skip ?_
          refine st_region rfl ?_
          refine sr_move rfl rfl rfl rfl ?_
          refine sr_loadN (k := 0) (vs := [.int .i64 ((ys1.getD k ((0, 0) : Int × Int)).1), .int .i64 ((ys1.getD k ((0, 0) : Int × Int)).2)]) rfl rfl rfl rfl rfl ag54 sz54 rfl rfl ?_
          refine sr_buildSlice (vs := [.agg #[.int .i64 ((ys1.getD k ((0, 0) : Int × Int)).1), .int .i64 ((ys1.getD k ((0, 0) : Int × Int)).2)]]) (cs := enc ([((ys1.getD k ((0, 0) : Int × Int)).1, (ys1.getD k ((0, 0) : Int × Int)).2)] : List (Int × Int))) rfl rfl rfl rfl el35 rfl ze54 rfl (all_cons rfl all_nil) rfl rfl (fun b2 => ?_)
          refine sr_appendE (q := 2) (xs := mergeF (ys1.take k)) ([((ys1.getD k ((0, 0) : Int × Int)).1, (ys1.getD k ((0, 0) : Int × Int)).2)] : List (Int × Int)) rfl rfl rfl rfl rfl el35 el35 rfl ze54 rfl by54 rfl (fun w hh => (rowC_has (hh.hp.get (i := 0) rfl))) rfl rfl (by simp only [List.length_cons, List.length_nil]; omega) rfl (fun o2 cap2 => ?_)
          refine sr_assign rfl rfl rfl rfl ?_
          refine sr_end ?_
          refine st_inBlock ?_
          refine st_region rfl ?_
          refine sr_bin rfl rfl rfl rfl rfl (b_addI (by (try simp only [List.length_append, List.length_cons, List.length_nil, List.length_set, List.length_replicate, List.length_take, List.length_drop, List.length_map, List.length_range, bytesN_length] at *); omega) (by (try simp only [List.length_append, List.length_cons, List.length_nil, List.length_set, List.length_replicate, List.length_take, List.length_drop, List.length_map, List.length_range, bytesN_length] at *); omega)) ?_
          refine sr_move rfl rfl rfl rfl ?_
          refine sr_end ?_
          have hstep : mergeF (ys1.take (k + 1)) = (mergeF (ys1.take k)) ++ ([((ys1.getD k ((0, 0) : Int × Int)).1, (ys1.getD k ((0, 0) : Int × Int)).2)] : List (Int × Int)) := (mergeF_succ hk).trans (stepM_new hne hnew)
          refine st_row 0 ((mergeF (ys1.take (k + 1))).length) (enc (mergeF (ys1.take (k + 1)))) rfl (by rw [hstep]) (congrArg enc (by exact hstep.symm)) ?_
          refine st_val 4 rfl (congrArg (fun z => rowV o2 z cap2) (by rw [hstep])) (v' := rowV o2 ((mergeF (ys1.take (k + 1))).length) cap2) ?_
          exact st_go [0, 2] (hk1 (k + 1) o2 cap2 (by omega) (by omega)) ⟨rfl, rfl, rfl, congrArg (fun z : Int => some (Value.int .i64 z)) (by omega), trivial⟩ rfl
      · have hnew : ¬ (0 < (mergeF (ys1.take k)).length ∧ (ys1.getD k ((0, 0) : Int × Int)).1 ≤ ((mergeF (ys1.take k)).getD ((mergeF (ys1.take k)).length - 1) ((0, 0) : Int × Int)).2) := fun h => g9 (by omega)
        refine sd_off [0, 0] 3 rfl rfl rfl (by kernel_rfl) (by kernel_rfl) (by kernel_rfl) (by kernel_rfl) rfl ?_
        refine sd_off [0, 0] 4 rfl rfl rfl (by kernel_rfl) (by kernel_rfl) (by kernel_rfl) (by kernel_rfl) rfl ?_
        refine sd_off [0, 0] 5 rfl rfl rfl (by kernel_rfl) (by kernel_rfl) (by kernel_rfl) (by kernel_rfl) rfl ?_
        refine sd_off [0, 0] 6 rfl rfl rfl (by kernel_rfl) (by kernel_rfl) (by kernel_rfl) (by kernel_rfl) rfl ?_
        refine sd_off [0, 0] 7 rfl rfl rfl (by kernel_rfl) (by kernel_rfl) (by kernel_rfl) (by kernel_rfl) rfl ?_
        refine sd_off [0, 0] 8 rfl rfl rfl (by kernel_rfl) (by kernel_rfl) (by kernel_rfl) (by kernel_rfl) rfl ?_
        refine sd_off [0, 0] 9 rfl rfl rfl (by kernel_rfl) (by kernel_rfl) (by kernel_rfl) (by kernel_rfl) rfl ?_
        refine sd_off [0, 0] 10 rfl rfl rfl (by kernel_rfl) (by kernel_rfl) (by kernel_rfl) (by kernel_rfl) rfl ?_
        refine sd_off [0, 0] 11 rfl rfl rfl (by kernel_rfl) (by kernel_rfl) (by kernel_rfl) (by kernel_rfl) rfl ?_
        refine sd_take [0, 0] 12 rfl rfl rfl (fun _ => pv_pickF rfl rfl) (by kernel_rfl) (by kernel_rfl) (by kernel_rfl) (by kernel_rfl) rfl ?_
        refine sd_end (by kernel_rfl) ?_
        refine st_false rfl ?_
        refine st_skip ?_
        refine st_region rfl ?_
        refine sr_move rfl rfl rfl rfl ?_
        refine sr_loadN (k := 0) (vs := [.int .i64 ((ys1.getD k ((0, 0) : Int × Int)).1), .int .i64 ((ys1.getD k ((0, 0) : Int × Int)).2)]) rfl rfl rfl rfl rfl ag54 sz54 rfl rfl ?_
        refine sr_buildSlice (vs := [.agg #[.int .i64 ((ys1.getD k ((0, 0) : Int × Int)).1), .int .i64 ((ys1.getD k ((0, 0) : Int × Int)).2)]]) (cs := enc ([((ys1.getD k ((0, 0) : Int × Int)).1, (ys1.getD k ((0, 0) : Int × Int)).2)] : List (Int × Int))) rfl rfl rfl rfl el35 rfl ze54 rfl (all_cons rfl all_nil) rfl rfl (fun b3 => ?_)
        refine sr_appendE (q := 2) (xs := mergeF (ys1.take k)) ([((ys1.getD k ((0, 0) : Int × Int)).1, (ys1.getD k ((0, 0) : Int × Int)).2)] : List (Int × Int)) rfl rfl rfl rfl rfl el35 el35 rfl ze54 rfl by54 rfl (fun w hh => (rowC_has (hh.hp.get (i := 0) rfl))) rfl rfl (by simp only [List.length_cons, List.length_nil]; omega) rfl (fun o3 cap3 => ?_)
        refine sr_assign rfl rfl rfl rfl ?_
        refine sr_end ?_
        refine st_inBlock ?_
        refine st_region rfl ?_
        refine sr_bin rfl rfl rfl rfl rfl (b_addI (by (try simp only [List.length_append, List.length_cons, List.length_nil, List.length_set, List.length_replicate, List.length_take, List.length_drop, List.length_map, List.length_range, bytesN_length] at *); omega) (by (try simp only [List.length_append, List.length_cons, List.length_nil, List.length_set, List.length_replicate, List.length_take, List.length_drop, List.length_map, List.length_range, bytesN_length] at *); omega)) ?_
        refine sr_move rfl rfl rfl rfl ?_
        refine sr_end ?_
        have hstep : mergeF (ys1.take (k + 1)) = (mergeF (ys1.take k)) ++ ([((ys1.getD k ((0, 0) : Int × Int)).1, (ys1.getD k ((0, 0) : Int × Int)).2)] : List (Int × Int)) := (mergeF_succ hk).trans (stepM_new hne hnew)
        refine st_row 0 ((mergeF (ys1.take (k + 1))).length) (enc (mergeF (ys1.take (k + 1)))) rfl (by rw [hstep]) (congrArg enc (by exact hstep.symm)) ?_
        refine st_val 4 rfl (congrArg (fun z => rowV o3 z cap3) (by rw [hstep])) (v' := rowV o3 ((mergeF (ys1.take (k + 1))).length) cap3) ?_
        exact st_go [0, 2] (hk1 (k + 1) o3 cap3 (by omega) (by omega)) ⟨rfl, rfl, rfl, congrArg (fun z : Int => some (Value.int .i64 z)) (by omega), trivial⟩ rfl
  · skip
    refine st_exit rfl ?_
    refine st_seq ?_
    refine st_region rfl ?_
    refine sr_move rfl rfl rfl rfl ?_
    refine sr_assign rfl rfl rfl rfl ?_
    refine sr_end ?_
    have hfin : mergeF (ys1.take k) = normF xs := by rw [show k = ys1.length by omega, List.take_length]; exact normF_eq hs1.1 hs1.2
    refine st_row 0 ((normF xs).length) (enc (normF xs)) rfl (by rw [hfin]) (congrArg enc (by exact hfin)) ?_
    refine st_val 2 rfl (congrArg (fun z => rowV ro1 z rc1) (by rw [hfin])) (v' := rowV ro1 ((normF xs).length) rc1) ?_
    exact st_retC (ro1, rc1) [0] Try.func44 rfl rfl rfl trivial rfl

end Try
end Go.Sl
