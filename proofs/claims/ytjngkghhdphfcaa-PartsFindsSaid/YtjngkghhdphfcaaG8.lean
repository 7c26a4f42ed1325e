/- A part of the proof: words and contracts that the row is built on. -/
import Derived.Test.YtjngkghhdphfcaaG7
namespace Go.Sl
open Go.RowKit Go.Proofs
set_option linter.unusedVariables false
set_option linter.unusedSimpArgs false
set_option maxRecDepth 10000
namespace Try
theorem en45 : entB Try.prog 45 = true := by kernel_rfl
theorem en72 : entB Try.prog 72 = true := by kernel_rfl
theorem ze2 : zeroOf Try.prog 2 = some (.int .i64 0) := by kernel_rfl
theorem Bytes_set_ok (w : World) (A : Option Addr) (xs : List (Int × Int)) (c : Nat) (hA : Has [] w A (enc xs)) (hb : xs.length ≤ 1000000000) (hw : Within (-1125899906842624) 1125899906842624 xs) :
    Ct Try.prog 11 [.slice A xs.length c] [] w (fun _ : Unit => .int .i64 (sumE (normF xs))) (fun _ => True) (fun _ => []) := by
  refine Ct.of_st Try.func11 rfl rfl (L := [(0, .slice A xs.length c)]) ⟨rfl, trivial⟩ ?_
  refine st_seq ?_
  refine st_region rfl ?_
  refine sr_assign rfl rfl rfl rfl ?_
  refine sr_end ?_
  refine st_seq ?_
  refine st_region rfl ?_
  refine sr_alloc rfl rfl rfl ze2 (fun b1 => ?_)
  refine sr_store (k := 0) rfl rfl rfl rfl rfl sz2 rfl rfl rfl rfl ?_
  refine sr_end ?_
  refine st_seq ?_
  refine st_seq ?_
  refine st_region rfl ?_
  refine sr_move rfl rfl rfl rfl ?_
  refine sr_callM [] rfl rfl rfl rfl en45 rfl (fun w hh => All_ok w _ _ _) ?_
  rintro bx1 -
  refine sr_end ?_
  refine st_block ?_
  refine st_rangeFunc (lb := [.pointer (some ⟨bx1, 0, none⟩)]) (fun s : Int => [cellsC b1 2 [.int .i64 s]]) (fun i s => s = sumE ((normF xs).take i)) (itE (normF xs)) 0 [1] rfl rfl rfl en72 (by simp [sumE]) rfl rfl (fun i hi => by rw [itE_get (by simpa using hi)]; rfl) (fun l rec w1 hh => All1_ok _ _ _ l rec w1 _ _ _ xs (Heap.cellsG hh (k := 0) rfl) (hA.heapG hh) hb (by simp [sumE])) (fun l rec i s w' hrs hrp hi hI hh => ?_) (fun s r hI => ?_)
  · rw [itE_length] at hi
    rw [itE_get hi]
    have hb1 := sumE_bound ((normF_canon xs).take i) ((normF_within hw).take i) (by omega)
    have hb2 := normF_within hw _ (getD_mem hi)
    have hb3 := (normF_canon xs).1 _ (getD_mem hi)
    rw [← hI] at hb1
    refine st_to [0, 0] (L' := [(3, .pointer (some ⟨b1, 0, none⟩)), (8, .int .i64 (i : Int)), (9, .agg #[.int .i64 (((normF xs).getD i ((0, 0) : Int × Int)).1), .int .i64 (((normF xs).getD i ((0, 0) : Int × Int)).2)])]) ⟨rfl, rfl, rfl, trivial⟩ rfl ?_
    refine st_region rfl ?_
    refine sr_alloc rfl rfl rfl ze54 (fun b2 => ?_)
    refine sr_store (k := 0) rfl rfl rfl rfl rfl sz54 rfl rfl rfl rfl ?_
    refine sr_end ?_
    refine st_beginRound (k := 1) rfl rfl hrs ?_
    refine st_block ?_
    refine st_region rfl ?_
    refine sr_load1 (k := 2) rfl rfl rfl rfl rfl ag2 rfl ?_
    refine sr_fieldAddr (m := 1) rfl rfl rfl rfl fd54_1 rfl ?_
    refine sr_load1 (k := 0) rfl rfl rfl rfl rfl ag2 rfl ?_
    refine sr_fieldAddr (m := 0) rfl rfl rfl rfl fd54_0 rfl ?_
    refine sr_load1 (k := 0) rfl rfl rfl rfl rfl ag2 rfl ?_
    refine sr_bin rfl rfl rfl rfl rfl (b_subI (by (try simp only [List.length_append, List.length_cons, List.length_nil, List.length_set, List.length_replicate, List.length_take, List.length_drop, List.length_map, List.length_range, bytesN_length, List.length_singleton] at *); omega) (by (try simp only [List.length_append, List.length_cons, List.length_nil, List.length_set, List.length_replicate, List.length_take, List.length_drop, List.length_map, List.length_range, bytesN_length, List.length_singleton] at *); omega)) ?_
    refine sr_bin rfl rfl rfl rfl rfl (b_addI (by (try simp only [List.length_append, List.length_cons, List.length_nil, List.length_set, List.length_replicate, List.length_take, List.length_drop, List.length_map, List.length_range, bytesN_length, List.length_singleton] at *); omega) (by (try simp only [List.length_append, List.length_cons, List.length_nil, List.length_set, List.length_replicate, List.length_take, List.length_drop, List.length_map, List.length_range, bytesN_length, List.length_singleton] at *); omega)) ?_
    refine sr_store (k := 2) rfl rfl rfl rfl rfl sz2 rfl rfl rfl rfl ?_
    refine sr_end ?_
    refine st_inBlock ?_
    have hnext : s + ((((normF xs).getD i ((0, 0) : Int × Int)).2) - (((normF xs).getD i ((0, 0) : Int × Int)).1)) = sumE ((normF xs).take (i + 1)) := (by rw [sumE_succ hi, ← hI])
    exact st_roundEnd (k := 1) rfl rfl (fun w hw => ⟨_, rfl, hnext, by rw [rec_back hrs hrp] at hw; exact hw.gives [1, 1] rfl⟩)
  · rw [itE_length] at hI
    rw [show (normF xs).take (normF xs).length = normF xs from List.take_length] at hI
    refine st_inBlock ?_
    refine st_seq ?_
    refine st_region rfl ?_
    refine sr_load1 (k := 1) rfl rfl rfl rfl rfl ag2 rfl ?_
    refine sr_assign rfl rfl rfl rfl ?_
    refine sr_end ?_
    refine st_retD (k := 0) rfl rfl (fun w h => by obtain ⟨x, h, _⟩ := h; cases h) rfl ?_
    exact st_retC (()) [] Try.func11 rfl rfl (by rw [hI]) trivial rfl

end Try
end Go.Sl
