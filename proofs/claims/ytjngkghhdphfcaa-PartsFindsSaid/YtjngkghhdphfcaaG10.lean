/- A part of the proof: words and contracts that the row is built on. -/
import Derived.Test.YtjngkghhdphfcaaG9
namespace Go.Sl
open Go.RowKit Go.Proofs
set_option linter.unusedVariables false
set_option linter.unusedSimpArgs false
set_option maxRecDepth 10000
namespace Try
theorem ze34 : zeroOf Try.prog 34 = some (.slice none 0 0) := by kernel_rfl
theorem ze35 : zeroOf Try.prog 35 = some (.slice none 0 0) := by kernel_rfl
theorem Minus_ok (w : World) (A : Option Addr) (xs : List (Int × Int)) (c : Nat) (B : Option Addr) (ys : List (Int × Int)) (d : Nat) (hA : Has [] w A (enc xs)) (hB : Has [] w B (enc ys)) (hb : xs.length ≤ 1000) (hb2 : ys.length ≤ 1000) :
    Ct Try.prog 56 [.slice A xs.length c, .slice B ys.length d] [] w (fun x : Option Nat × Nat => rowV x.1 (minusF xs ys).length x.2) (fun _ => True) (fun x => [rowC x.1 (minusF xs ys).length x.2 54 2 (enc (minusF xs ys))]) := by
  refine Ct.of_st Try.func56 rfl rfl (L := [(0, .slice A xs.length c), (1, .slice B ys.length d)]) ⟨rfl, rfl, trivial⟩ ?_
  refine st_seq ?_
  refine st_region rfl ?_
  refine sr_assign rfl rfl rfl rfl ?_
  refine sr_end ?_
  refine st_seq ?_
  refine st_region rfl ?_
  refine sr_alloc rfl rfl rfl ze34 (fun b1 => ?_)
  refine sr_end ?_
  refine st_seq ?_
  have hlx := normF_len xs
  have hly := normF_len ys
  refine st_region rfl ?_
  refine sr_move rfl rfl rfl rfl ?_
  refine sr_callM [] rfl rfl rfl rfl en44 rfl (fun w hh => Norm_ok w _ ys _ (hB.heap0 hh) (by omega)) ?_
  rintro ⟨o1, cap1⟩ -
  refine sr_alloc rfl rfl rfl ze35 (fun b2 => ?_)
  refine sr_store (k := 0) rfl rfl rfl rfl rfl sz35 rfl rfl rfl rfl ?_
  refine sr_end ?_
  refine st_seq ?_
  refine st_seq ?_
  refine st_region rfl ?_
  refine sr_move rfl rfl rfl rfl ?_
  refine sr_callM [] rfl rfl rfl rfl en45 rfl (fun w hh => All_ok w _ _ _) ?_
  rintro bx1 -
  refine sr_end ?_
  refine st_block ?_
  refine st_nilrow 54 2 ?_
  refine st_rangeFunc (lb := [.pointer (some ⟨bx1, 0, none⟩)]) (fun s : ((Option Nat × Nat) × List (Int × Int)) => [cellsC b1 34 [rowV s.1.1 s.2.length s.1.2], rowC s.1.1 s.2.length s.1.2 54 2 (enc s.2), cellsC b2 35 [rowV o1 ((normF ys).length) cap1], rowC o1 ((normF ys).length) cap1 54 2 (enc (normF ys))]) (fun i s => s.2 = outsF ((normF xs).take i) (normF ys) ∧ s.2.length ≤ i * 1001) (itE (normF xs)) ((none, 0), []) [4, 0, 1, 1] rfl rfl rfl en72 ⟨by simp [outsF], by simp⟩ rfl rfl (fun i hi => by rw [itE_get (by simpa using hi)]; rfl) (fun l rec w1 hh => All1_ok _ _ _ l rec w1 _ _ _ xs (Heap.cellsG hh (k := 0) rfl) (hA.heapG hh) (by omega) ⟨by simp [outsF], by simp⟩) (fun l rec i s w' hrs hrp hi hI hh => ?_) (fun s r hI => ?_)
  · rw [itE_length] at hi
    rw [itE_get hi]
    have hIl := hI.2
    refine st_to [0, 0, 0, 0, 0] (L' := [(5, .pointer (some ⟨b1, 0, none⟩)), (6, .pointer (some ⟨b2, 0, none⟩)), (16, .int .i64 (i : Int)), (17, .agg #[.int .i64 (((normF xs).getD i ((0, 0) : Int × Int)).1), .int .i64 (((normF xs).getD i ((0, 0) : Int × Int)).2)])]) ⟨rfl, rfl, rfl, rfl, trivial⟩ rfl ?_
    refine st_region rfl ?_
    refine sr_alloc rfl rfl rfl ze54 (fun b3 => ?_)
    refine sr_store (k := 0) rfl rfl rfl rfl rfl sz54 rfl rfl rfl rfl ?_
    refine sr_end ?_
    refine st_beginRound (k := 1) rfl rfl hrs ?_
    refine st_block ?_
    refine st_seq ?_
    refine st_region rfl ?_
    refine sr_fieldAddr (m := 0) rfl rfl rfl rfl fd54_0 rfl ?_
    refine sr_load1 (k := 0) rfl rfl rfl rfl rfl ag2 rfl ?_
    refine sr_assign rfl rfl rfl rfl ?_
    refine sr_end ?_
    refine st_seq ?_
    refine st_seq ?_
    refine st_region rfl ?_
    refine sr_load1 (k := 4) rfl rfl rfl rfl rfl ag35 rfl ?_
    refine sr_len rfl rfl rfl rfl el35 ?_
    refine sr_move rfl rfl rfl rfl ?_
    refine sr_end ?_
    refine st_block ?_
    refine st_loop3 [0, 1, 1, 2, 0, 0] (fun (k : Nat) (ro1 : Option Nat) (rc1 : Nat) => [(5, .pointer (some ⟨b1, 0, none⟩)), (8, .pointer (some ⟨b3, 0, none⟩)), (9, .int .i64 ((innerF ((normF xs).getD i ((0, 0) : Int × Int)) s.2 ((normF ys).take k)).1)), (20, rowV o1 ((normF ys).length) cap1), (21, .int .i64 ((normF ys).length : Int)), (22, .int .i64 (k : Int))]) (fun (k : Nat) (ro1 : Option Nat) (rc1 : Nat) => [cellsC b3 54 [.int .i64 (((normF xs).getD i ((0, 0) : Int × Int)).1), .int .i64 (((normF xs).getD i ((0, 0) : Int × Int)).2)], cellsC b1 34 [rowV ro1 (((innerF ((normF xs).getD i ((0, 0) : Int × Int)) s.2 ((normF ys).take k)).2).length) rc1], rowC ro1 (((innerF ((normF xs).getD i ((0, 0) : Int × Int)) s.2 ((normF ys).take k)).2).length) rc1 54 2 (enc ((innerF ((normF xs).getD i ((0, 0) : Int × Int)) s.2 ((normF ys).take k)).2)), rowC o1 ((normF ys).length) cap1 54 2 (enc (normF ys)), loopC l { rec with state := .busy }, cellsC b2 35 [rowV o1 ((normF ys).length) cap1]]) (fun (k : Nat) (ro1 : Option Nat) (rc1 : Nat) => k ≤ (normF ys).length) (fun (k : Nat) (ro1 : Option Nat) (rc1 : Nat) => (normF ys).length - k) 0 s.1.1 s.1.2 (Nat.zero_le _) ⟨rfl, rfl, congrArg (fun z : Int => some (Value.int .i64 z)) (by simp [innerF]), rfl, rfl, rfl, trivial⟩ rfl (fun k ro1 rc1 hI1 hk1 => ?_)
    have hil := innerF_len ((normF xs).getD i ((0, 0) : Int × Int)) s.2 ((normF ys).take k)
    rw [List.length_take] at hil
    refine st_seq ?_
    refine st_region rfl ?_
    refine sr_bin rfl rfl rfl rfl rfl b_lss ?_
    refine sr_end ?_
    refine st_seq ?_
    refine st_ifD rfl (fun q1 => ?_) (fun q1 => ?_)
    · skip
      refine st_skip ?_
      refine st_seq ?_
      refine st_block ?_
      refine st_seq ?_
      refine st_region rfl ?_
      refine rk_open (q := 3) rfl (by (try simp only [List.length_append, List.length_cons, List.length_nil, List.length_set, List.length_replicate, List.length_take, List.length_drop, List.length_map, List.length_range, bytesN_length, List.length_singleton] at *); omega) (fun B1 eo1 => ?_)
      subst eo1
      refine sr_indexRowB rfl rfl rfl rfl rfl el35 (by (try simp only [List.length_append, List.length_cons, List.length_nil, List.length_set, List.length_replicate, List.length_take, List.length_drop, List.length_map, List.length_range, bytesN_length, List.length_singleton] at *); omega) (by (try simp only [List.length_append, List.length_cons, List.length_nil, List.length_set, List.length_replicate, List.length_take, List.length_drop, List.length_map, List.length_range, bytesN_length, List.length_singleton] at *); omega) ?_
      refine sr_loadRow (q := 3) (off := k * 2 + 0) rfl rfl rfl rfl rfl rfl (rdN (i := k) (j := 0) ag54 sz54 ((0, 0) : Int × Int) [.int .i64 (((normF ys).getD k ((0, 0) : Int × Int)).1), .int .i64 (((normF ys).getD k ((0, 0) : Int × Int)).2)] (by (try simp only [List.length_append, List.length_cons, List.length_nil, List.length_set, List.length_replicate, List.length_take, List.length_drop, List.length_map, List.length_range, bytesN_length, List.length_singleton] at *); omega) rfl rfl) ?_
      refine sr_alloc rfl rfl rfl ze54 (fun b4 => ?_)
      refine sr_store (k := 0) rfl rfl rfl rfl rfl sz54 rfl rfl rfl rfl ?_
      refine sr_end ?_
      refine st_seq ?_
      refine st_seq ?_
      refine st_region rfl ?_
      refine sr_fieldAddr (m := 1) rfl rfl rfl rfl fd54_1 rfl ?_
      refine sr_load1 (k := 0) rfl rfl rfl rfl rfl ag2 rfl ?_
      refine sr_move rfl rfl rfl rfl ?_
      refine sr_bin rfl rfl rfl rfl rfl b_leq ?_
      refine sr_move rfl rfl rfl rfl ?_
      refine sr_caseD (t := 30) rfl (fun g30 => ?_) (fun g30 => ?_)
      · have hsk : ((normF ys).getD k ((0, 0) : Int × Int)).2 ≤ (innerF ((normF xs).getD i ((0, 0) : Int × Int)) s.2 ((normF ys).take k)).1 ∨ ((normF xs).getD i ((0, 0) : Int × Int)).2 ≤ ((normF ys).getD k ((0, 0) : Int × Int)).1 := .inl g30
        refine sr_off rfl rfl rfl ?_
        refine sr_off rfl rfl rfl ?_
        refine sr_off rfl rfl rfl ?_
        refine sr_off rfl rfl rfl ?_
        refine sr_off rfl rfl rfl ?_
        refine sr_pickT rfl rfl rfl rfl rfl ?_
        refine sr_end ?_
        refine st_true rfl ?_
        refine st_exit rfl ?_
        refine st_region rfl ?_
        refine sr_bin rfl rfl rfl rfl rfl (b_addI (by (try simp only [List.length_append, List.length_cons, List.length_nil, List.length_set, List.length_replicate, List.length_take, List.length_drop, List.length_map, List.length_range, bytesN_length, List.length_singleton] at *); omega) (by (try simp only [List.length_append, List.length_cons, List.length_nil, List.length_set, List.length_replicate, List.length_take, List.length_drop, List.length_map, List.length_range, bytesN_length, List.length_singleton] at *); omega)) ?_
        refine sr_move rfl rfl rfl rfl ?_
        refine sr_end ?_
        have hky : k < (normF ys).length := (by omega)
        have hstep : innerF ((normF xs).getD i ((0, 0) : Int × Int)) s.2 ((normF ys).take (k + 1)) = innerF ((normF xs).getD i ((0, 0) : Int × Int)) s.2 ((normF ys).take k) := by rw [innerF_succ hky, stepI, if_pos hsk]
        refine st_row 3 (((innerF ((normF xs).getD i ((0, 0) : Int × Int)) s.2 ((normF ys).take (k + 1))).2).length) (enc ((innerF ((normF xs).getD i ((0, 0) : Int × Int)) s.2 ((normF ys).take (k + 1))).2)) rfl (by rw [hstep]) (congrArg enc (by rw [hstep])) ?_
        refine st_cells 2 [rowV ro1 (((innerF ((normF xs).getD i ((0, 0) : Int × Int)) s.2 ((normF ys).take (k + 1))).2).length) rc1] rfl (by rw [hstep] <;> rfl) ?_
        exact st_go [1, 1, 1, 1, 1, 1] (hk1 (k + 1) ro1 rc1 (by omega) (by omega)) ⟨rfl, rfl, congrArg (fun z : Int => some (Value.int .i64 z)) (by rw [hstep]), rfl, rfl, congrArg (fun z : Int => some (Value.int .i64 z)) (by omega), trivial⟩ rfl
      · skip
        refine sr_fieldAddr (m := 0) rfl rfl rfl rfl fd54_0 rfl ?_
        refine sr_load1 (k := 0) rfl rfl rfl rfl rfl ag2 rfl ?_
        refine sr_fieldAddr (m := 1) rfl rfl rfl rfl fd54_1 rfl ?_
        refine sr_load1 (k := 1) rfl rfl rfl rfl rfl ag2 rfl ?_
        refine sr_bin rfl rfl rfl rfl rfl b_geq ?_
        refine sr_pickF rfl rfl rfl rfl rfl ?_
        refine sr_end ?_
        refine st_ifD rfl (fun q36 => ?_) (fun q36 => ?_)
        · have hsk : ((normF ys).getD k ((0, 0) : Int × Int)).2 ≤ (innerF ((normF xs).getD i ((0, 0) : Int × Int)) s.2 ((normF ys).take k)).1 ∨ ((normF xs).getD i ((0, 0) : Int × Int)).2 ≤ ((normF ys).getD k ((0, 0) : Int × Int)).1 := .inr q36
          refine st_exit rfl ?_
          refine st_region rfl ?_
          refine sr_bin rfl rfl rfl rfl rfl (b_addI (by (try simp only [List.length_append, List.length_cons, List.length_nil, List.length_set, List.length_replicate, List.length_take, List.length_drop, List.length_map, List.length_range, bytesN_length, List.length_singleton] at *); omega) (by (try simp only [List.length_append, List.length_cons, List.length_nil, List.length_set, List.length_replicate, List.length_take, List.length_drop, List.length_map, List.length_range, bytesN_length, List.length_singleton] at *); omega)) ?_
          refine sr_move rfl rfl rfl rfl ?_
          refine sr_end ?_
          have hky : k < (normF ys).length := (by omega)
          have hstep : innerF ((normF xs).getD i ((0, 0) : Int × Int)) s.2 ((normF ys).take (k + 1)) = innerF ((normF xs).getD i ((0, 0) : Int × Int)) s.2 ((normF ys).take k) := by rw [innerF_succ hky, stepI, if_pos hsk]
          refine st_row 3 (((innerF ((normF xs).getD i ((0, 0) : Int × Int)) s.2 ((normF ys).take (k + 1))).2).length) (enc ((innerF ((normF xs).getD i ((0, 0) : Int × Int)) s.2 ((normF ys).take (k + 1))).2)) rfl (by rw [hstep]) (congrArg enc (by rw [hstep])) ?_
          refine st_cells 2 [rowV ro1 (((innerF ((normF xs).getD i ((0, 0) : Int × Int)) s.2 ((normF ys).take (k + 1))).2).length) rc1] rfl (by rw [hstep] <;> rfl) ?_
          exact st_go [1, 1, 1, 1, 1, 1] (hk1 (k + 1) ro1 rc1 (by omega) (by omega)) ⟨rfl, rfl, congrArg (fun z : Int => some (Value.int .i64 z)) (by rw [hstep]), rfl, rfl, congrArg (fun z : Int => some (Value.int .i64 z)) (by omega), trivial⟩ rfl
        · have hns : ¬ (((normF ys).getD k ((0, 0) : Int × Int)).2 ≤ (innerF ((normF xs).getD i ((0, 0) : Int × Int)) s.2 ((normF ys).take k)).1 ∨ ((normF xs).getD i ((0, 0) : Int × Int)).2 ≤ ((normF ys).getD k ((0, 0) : Int × Int)).1) := fun h => h.elim g30 q36
          refine st_skip ?_
          refine st_seq ?_
          refine st_region rfl ?_
          refine sr_load1 (k := 2) rfl rfl rfl rfl rfl ag34 rfl ?_
          refine sr_move rfl rfl rfl rfl ?_
          refine sr_fieldAddr (m := 0) rfl rfl rfl rfl fd54_0 rfl ?_
          refine sr_load1 (k := 0) rfl rfl rfl rfl rfl ag2 rfl ?_
          refine sr_build (cs := [.int .i64 ((innerF ((normF xs).getD i ((0, 0) : Int × Int)) s.2 ((normF ys).take k)).1), .int .i64 (((normF ys).getD k ((0, 0) : Int × Int)).1)]) rfl rfl rfl rfl (fun _ => by kernel_rfl) ?_
          refine sr_buildSlice (vs := [.agg #[.int .i64 ((innerF ((normF xs).getD i ((0, 0) : Int × Int)) s.2 ((normF ys).take k)).1), .int .i64 (((normF ys).getD k ((0, 0) : Int × Int)).1)]]) (cs := enc ([((innerF ((normF xs).getD i ((0, 0) : Int × Int)) s.2 ((normF ys).take k)).1, ((normF ys).getD k ((0, 0) : Int × Int)).1)] : List (Int × Int))) rfl rfl rfl rfl el34 rfl ze54 rfl (all_cons rfl all_nil) rfl rfl (fun b5 => ?_)
          refine sr_appendE (q := 4) (xs := (innerF ((normF xs).getD i ((0, 0) : Int × Int)) s.2 ((normF ys).take k)).2) ([((innerF ((normF xs).getD i ((0, 0) : Int × Int)) s.2 ((normF ys).take k)).1, ((normF ys).getD k ((0, 0) : Int × Int)).1)] : List (Int × Int)) rfl rfl rfl rfl rfl el34 el34 rfl ze54 rfl by54 rfl (fun w hh => (rowC_has (hh.hp.get (i := 0) rfl))) rfl rfl (by simp only [List.length_cons, List.length_nil]; omega) rfl (fun o2 cap2 => ?_)
          refine sr_store (k := 4) rfl rfl rfl rfl rfl sz34 rfl rfl rfl rfl ?_
          refine sr_end ?_
          refine st_region rfl ?_
          refine sr_fieldAddr (m := 1) rfl rfl rfl rfl fd54_1 rfl ?_
          refine sr_load1 (k := 2) rfl rfl rfl rfl rfl ag2 rfl ?_
          refine sr_assign rfl rfl rfl rfl ?_
          refine sr_end ?_
          refine st_inBlock ?_
          refine st_region rfl ?_
          refine sr_bin rfl rfl rfl rfl rfl (b_addI (by (try simp only [List.length_append, List.length_cons, List.length_nil, List.length_set, List.length_replicate, List.length_take, List.length_drop, List.length_map, List.length_range, bytesN_length, List.length_singleton] at *); omega) (by (try simp only [List.length_append, List.length_cons, List.length_nil, List.length_set, List.length_replicate, List.length_take, List.length_drop, List.length_map, List.length_range, bytesN_length, List.length_singleton] at *); omega)) ?_
          refine sr_move rfl rfl rfl rfl ?_
          refine sr_end ?_
          have hky : k < (normF ys).length := (by omega)
          have hstep : innerF ((normF xs).getD i ((0, 0) : Int × Int)) s.2 ((normF ys).take (k + 1)) = (((normF ys).getD k ((0, 0) : Int × Int)).2, ((innerF ((normF xs).getD i ((0, 0) : Int × Int)) s.2 ((normF ys).take k)).2) ++ ([((innerF ((normF xs).getD i ((0, 0) : Int × Int)) s.2 ((normF ys).take k)).1, ((normF ys).getD k ((0, 0) : Int × Int)).1)] : List (Int × Int))) := by rw [innerF_succ hky, stepI, if_neg hns]
          refine st_row 0 (((innerF ((normF xs).getD i ((0, 0) : Int × Int)) s.2 ((normF ys).take (k + 1))).2).length) (enc ((innerF ((normF xs).getD i ((0, 0) : Int × Int)) s.2 ((normF ys).take (k + 1))).2)) rfl (by rw [hstep]) (congrArg enc (by rw [hstep])) ?_
          refine st_cells 4 [rowV o2 (((innerF ((normF xs).getD i ((0, 0) : Int × Int)) s.2 ((normF ys).take (k + 1))).2).length) cap2] rfl (by rw [hstep] <;> rfl) ?_
          exact st_go [3, 3, 0, 2, 2, 2] (hk1 (k + 1) o2 cap2 (by omega) (by omega)) ⟨rfl, rfl, congrArg (fun z : Int => some (Value.int .i64 z)) (by rw [hstep]), rfl, rfl, congrArg (fun z : Int => some (Value.int .i64 z)) (by omega), trivial⟩ rfl
    · skip
      refine st_exit rfl ?_
      refine st_region rfl ?_
      refine sr_load1 (k := 1) rfl rfl rfl rfl rfl ag34 rfl ?_
      refine sr_move rfl rfl rfl rfl ?_
      refine sr_fieldAddr (m := 1) rfl rfl rfl rfl fd54_1 rfl ?_
      refine sr_load1 (k := 0) rfl rfl rfl rfl rfl ag2 rfl ?_
      refine sr_build (cs := [.int .i64 ((innerF ((normF xs).getD i ((0, 0) : Int × Int)) s.2 ((normF ys).take k)).1), .int .i64 (((normF xs).getD i ((0, 0) : Int × Int)).2)]) rfl rfl rfl rfl (fun _ => by kernel_rfl) ?_
      refine sr_buildSlice (vs := [.agg #[.int .i64 ((innerF ((normF xs).getD i ((0, 0) : Int × Int)) s.2 ((normF ys).take k)).1), .int .i64 (((normF xs).getD i ((0, 0) : Int × Int)).2)]]) (cs := enc ([((innerF ((normF xs).getD i ((0, 0) : Int × Int)) s.2 ((normF ys).take k)).1, ((normF xs).getD i ((0, 0) : Int × Int)).2)] : List (Int × Int))) rfl rfl rfl rfl el34 rfl ze54 rfl (all_cons rfl all_nil) rfl rfl (fun b6 => ?_)
      refine sr_appendE (q := 3) (xs := (innerF ((normF xs).getD i ((0, 0) : Int × Int)) s.2 ((normF ys).take k)).2) ([((innerF ((normF xs).getD i ((0, 0) : Int × Int)) s.2 ((normF ys).take k)).1, ((normF xs).getD i ((0, 0) : Int × Int)).2)] : List (Int × Int)) rfl rfl rfl rfl rfl el34 el34 rfl ze54 rfl by54 rfl (fun w hh => (rowC_has (hh.hp.get (i := 0) rfl))) rfl rfl (by simp only [List.length_cons, List.length_nil]; omega) rfl (fun o3 cap3 => ?_)
      refine sr_store (k := 3) rfl rfl rfl rfl rfl sz34 rfl rfl rfl rfl ?_
      refine sr_end ?_
      refine st_inBlock ?_
      have hke : (normF ys).take k = normF ys := by rw [show k = (normF ys).length by omega, List.take_length]
      have hnext : ((innerF ((normF xs).getD i ((0, 0) : Int × Int)) s.2 ((normF ys).take k)).2) ++ ([((innerF ((normF xs).getD i ((0, 0) : Int × Int)) s.2 ((normF ys).take k)).1, ((normF xs).getD i ((0, 0) : Int × Int)).2)] : List (Int × Int)) = outsF ((normF xs).take (i + 1)) (normF ys) := by rw [outsF_succ hi, ← hI.1, perX, hke]
      have hlen2 : (((innerF ((normF xs).getD i ((0, 0) : Int × Int)) s.2 ((normF ys).take k)).2) ++ ([((innerF ((normF xs).getD i ((0, 0) : Int × Int)) s.2 ((normF ys).take k)).1, ((normF xs).getD i ((0, 0) : Int × Int)).2)] : List (Int × Int))).length ≤ (i + 1) * 1001 := by rw [List.length_append, List.length_cons, List.length_nil]; omega
      exact st_roundEnd (k := 5) rfl rfl (fun w hw => ⟨((o3, cap3), ((innerF ((normF xs).getD i ((0, 0) : Int × Int)) s.2 ((normF ys).take k)).2) ++ ([((innerF ((normF xs).getD i ((0, 0) : Int × Int)) s.2 ((normF ys).take k)).1, ((normF xs).getD i ((0, 0) : Int × Int)).2)] : List (Int × Int))), rfl, ⟨hnext, hlen2⟩, by rw [rec_back hrs hrp] at hw; exact hw.gives [5, 3, 0, 3, 2] rfl⟩)
  · rw [itE_length] at hI
    obtain ⟨hI, hIl⟩ := hI
    rw [show (normF xs).take (normF xs).length = normF xs from List.take_length] at hI
    refine st_inBlock ?_
    refine st_seq ?_
    refine st_region rfl ?_
    refine sr_load1 (k := 1) rfl rfl rfl rfl rfl ag34 rfl ?_
    refine sr_callM [] rfl rfl rfl rfl en44 rfl (fun w hh => Norm_ok w _ s.2 _ (rowC_has (hh.hp.get (i := 2) rfl)) (by omega)) ?_
    rintro ⟨o4, cap4⟩ -
    refine sr_assign rfl rfl rfl rfl ?_
    refine sr_end ?_
    refine st_retD (k := 1) rfl rfl (fun w h => by obtain ⟨x, h, _⟩ := h; cases h) rfl ?_
    have hfin : normF s.2 = minusF xs ys := by rw [hI]; rfl
    refine st_row 0 ((minusF xs ys).length) (enc (minusF xs ys)) rfl (by rw [hfin]) (congrArg enc (by exact hfin)) ?_
    refine st_val 4 rfl (congrArg (fun z => rowV o4 z cap4) (by rw [hfin])) (v' := rowV o4 ((minusF xs ys).length) cap4) ?_
    exact st_retC (o4, cap4) [0] Try.func56 rfl rfl rfl trivial rfl

end Try
end Go.Sl
