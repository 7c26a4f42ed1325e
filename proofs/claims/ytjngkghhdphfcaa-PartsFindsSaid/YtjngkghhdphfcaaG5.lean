/- A part of the proof: words and contracts that the row is built on. -/
import Derived.Test.YtjngkghhdphfcaaG4
import Derived.Test.YtjngkghhdphfcaaSlRange
namespace Go.Sl
open Go.RowKit Go.Proofs
set_option linter.unusedVariables false
set_option linter.unusedSimpArgs false
set_option maxRecDepth 10000
namespace Try
theorem en55 : entB Try.prog 55 = true := by kernel_rfl
theorem en86 : entB Try.prog 86 = true := by kernel_rfl
theorem fd54_0 : fldOf Try.prog 54 0 = some 0 := by kernel_rfl
theorem sl34 : (match (Try.prog).underlying 34 with | some (.slice _) => true | _ => false) = true := by kernel_rfl
theorem isNaN_ok (w : World) (x : Int) :
    Ct Try.prog 86 [.int .i64 x] [] w (fun _ : Unit => .bool false) (fun _ => True) (fun _ => []) := by
  refine Ct.of_st Try.func86 rfl rfl (L := [(0, .int .i64 x)]) ⟨rfl, trivial⟩ ?_
  refine st_seq ?_
  refine st_region rfl ?_
  refine sr_assign rfl rfl rfl rfl ?_
  refine sr_end ?_
  refine st_seq ?_
  refine st_region rfl ?_
  refine sr_move rfl rfl rfl rfl ?_
  refine sr_move rfl rfl rfl rfl ?_
  refine sr_bin rfl rfl rfl rfl rfl (b_fold (v' := .bool false) b_neq (by simp)) ?_
  refine sr_assign rfl rfl rfl rfl ?_
  refine sr_end ?_
  exact st_retC (()) [] Try.func86 rfl rfl rfl trivial rfl

def cmpI (x y : Int) : Int := if x < y then -1 else if y < x then 1 else 0
theorem Compare_ok (w : World) (x y : Int) :
    Ct Try.prog 55 [.int .i64 x, .int .i64 y] [] w (fun _ : Unit => .int .i64 (cmpI x y)) (fun _ => True) (fun _ => []) := by
  refine Ct.of_st Try.func55 rfl rfl (L := [(0, .int .i64 x), (1, .int .i64 y)]) ⟨rfl, rfl, trivial⟩ ?_
  refine st_seq ?_
  refine st_region rfl ?_
  refine sr_assign rfl rfl rfl rfl ?_
  refine sr_end ?_
  refine st_seq ?_
  refine st_region rfl ?_
  refine sr_move rfl rfl rfl rfl ?_
  refine sr_callM [] rfl rfl rfl rfl en86 rfl (fun w hh => isNaN_ok w _) ?_
  rintro ⟨⟩ -
  refine sr_assign rfl rfl rfl rfl ?_
  refine sr_end ?_
  refine st_seq ?_
  refine st_region rfl ?_
  refine sr_move rfl rfl rfl rfl ?_
  refine sr_callM [] rfl rfl rfl rfl en86 rfl (fun w hh => isNaN_ok w _) ?_
  rintro ⟨⟩ -
  refine sr_assign rfl rfl rfl rfl ?_
  refine sr_end ?_
  refine st_seq ?_
  refine st_seq ?_
  refine st_region rfl ?_
  refine sr_move rfl rfl rfl rfl ?_
  refine sr_end ?_
  refine st_false rfl ?_
  refine st_skip ?_
  refine st_seq ?_
  refine st_seq ?_
  refine st_region rfl ?_
  refine sr_move rfl rfl rfl rfl ?_
  refine sr_end ?_
  refine st_false rfl ?_
  refine st_skip ?_
  refine st_seq ?_
  refine st_seq ?_
  refine st_region rfl ?_
  refine sr_move rfl rfl rfl rfl ?_
  refine sr_move rfl rfl rfl rfl ?_
  refine sr_bin rfl rfl rfl rfl rfl b_lss ?_
  refine sr_end ?_
  refine st_ifD rfl (fun q1 => ?_) (fun q1 => ?_)
  · skip
    refine st_seq ?_
    refine st_region rfl ?_
    refine sr_assign rfl rfl rfl rfl ?_
    refine sr_end ?_
    exact st_retC () [] Try.func55 rfl rfl (by simp only [cmpI]; rw [if_pos (by omega)]) trivial rfl
  · skip
    refine st_skip ?_
    refine st_seq ?_
    refine st_seq ?_
    refine st_region rfl ?_
    refine sr_move rfl rfl rfl rfl ?_
    refine sr_move rfl rfl rfl rfl ?_
    refine sr_bin rfl rfl rfl rfl rfl b_gtr ?_
    refine sr_end ?_
    refine st_ifD rfl (fun q2 => ?_) (fun q2 => ?_)
    · skip
      refine st_seq ?_
      refine st_region rfl ?_
      refine sr_assign rfl rfl rfl rfl ?_
      refine sr_end ?_
      exact st_retC () [] Try.func55 rfl rfl (by simp only [cmpI]; rw [if_neg (by omega), if_pos (by omega)]) trivial rfl
    · skip
      refine st_skip ?_
      refine st_seq ?_
      refine st_region rfl ?_
      refine sr_assign rfl rfl rfl rfl ?_
      refine sr_end ?_
      exact st_retC () [] Try.func55 rfl rfl (by simp only [cmpI]; rw [if_neg (by omega), if_neg (by omega)]) trivial rfl

theorem NormLess_ok (w : World) (x y : Int × Int) :
    Ct Try.prog 71 [.agg #[.int .i64 x.1, .int .i64 x.2], .agg #[.int .i64 y.1, .int .i64 y.2]] [] w (fun _ : Unit => .int .i64 (cmpI x.1 y.1)) (fun _ => True) (fun _ => []) := by
  refine Ct.of_st Try.func71 rfl rfl (L := [(0, .agg #[.int .i64 x.1, .int .i64 x.2]), (1, .agg #[.int .i64 y.1, .int .i64 y.2])]) ⟨rfl, rfl, trivial⟩ ?_
  refine st_seq ?_
  refine st_region rfl ?_
  refine sr_box rfl rfl rfl rfl (fun b1 => ?_)
  refine sr_box rfl rfl rfl rfl (fun b2 => ?_)
  refine sr_assign rfl rfl rfl rfl ?_
  refine sr_end ?_
  refine st_seq ?_
  refine st_region rfl ?_
  refine sr_fieldAddr (m := 0) rfl rfl rfl rfl fd54_0 rfl ?_
  refine sr_load1 (k := 1) rfl rfl rfl rfl rfl ag2 rfl ?_
  refine sr_fieldAddr (m := 0) rfl rfl rfl rfl fd54_0 rfl ?_
  refine sr_load1 (k := 0) rfl rfl rfl rfl rfl ag2 rfl ?_
  refine sr_callM [] rfl rfl rfl rfl en55 rfl (fun w hh => Compare_ok w _ _) ?_
  rintro ⟨⟩ -
  refine sr_assign rfl rfl rfl rfl ?_
  refine sr_end ?_
  exact st_retC (()) [] Try.func71 rfl rfl rfl trivial rfl

theorem Clone_ok (w : World) (A : Option Addr) (xs : List (Int × Int)) (c : Nat) (hA : Has [] w A (enc xs)) (hb : xs.length ≤ 1000000000000) :
    Ct Try.prog 69 [.slice A xs.length c] [] w (fun x : Option Nat × Nat => rowV x.1 (xs).length x.2) (fun _ => True) (fun x => [rowC x.1 (xs).length x.2 54 2 (enc (xs))]) := by
  refine Ct.of_st Try.func69 rfl rfl (L := [(0, .slice A xs.length c)]) ⟨rfl, trivial⟩ ?_
  refine st_seq ?_
  refine st_region rfl ?_
  refine sr_assign rfl rfl rfl rfl ?_
  refine sr_end ?_
  refine st_seq ?_
  refine st_seq ?_
  refine st_region rfl ?_
  refine sr_move rfl rfl rfl rfl ?_
  refine sr_bin rfl rfl rfl rfl rfl (b_sliceNil sl34) ?_
  refine sr_end ?_
  refine st_if rfl (fun q1 => ?_) (fun q1 => ?_)
  · have hx : xs = [] := (by cases xs with | nil => rfl | cons y ys => obtain ⟨b, o, e, _⟩ := hA (enc_ne (by simp)); rw [e] at q1; cases q1)
    subst hx
    refine st_seq ?_
    refine st_region rfl ?_
    refine sr_assign rfl rfl rfl rfl ?_
    refine sr_end ?_
    refine st_nilrow 54 2 ?_
    exact st_retC (none, 0) [0] Try.func69 rfl rfl rfl trivial rfl
  · skip
    refine st_skip ?_
    refine st_seq ?_
    refine st_region rfl ?_
    refine sr_buildSlice (vs := []) (cs := enc ([] : List (Int × Int))) rfl rfl rfl rfl el34 rfl ze54 rfl all_nil rfl rfl (fun b1 => ?_)
    refine sr_move rfl rfl rfl rfl ?_
    refine sr_appendE (q := 0) (xs := ([] : List (Int × Int))) xs rfl rfl rfl rfl rfl el34 el34 rfl ze54 rfl by54 rfl (fun w hh => (hA.heap0 hh)) rfl rfl (by (try simp only [List.length_append, List.length_cons, List.length_nil, List.length_set, List.length_replicate, List.length_take, List.length_drop, List.length_map, List.length_range, bytesN_length] at *); omega) rfl (fun o1 cap1 => ?_)
    refine sr_assign rfl rfl rfl rfl ?_
    refine sr_end ?_
    exact st_retC (o1, cap1) [0] Try.func69 rfl rfl rfl trivial rfl

end Try
end Go.Sl
