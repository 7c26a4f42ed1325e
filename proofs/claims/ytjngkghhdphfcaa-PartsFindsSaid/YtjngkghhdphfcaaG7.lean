/- A part of the proof: words and contracts that the row is built on. -/
import Derived.Test.YtjngkghhdphfcaaG6
namespace Go.Sl
open Go.RowKit Go.Proofs
set_option linter.unusedVariables false
set_option linter.unusedSimpArgs false
set_option maxRecDepth 10000
namespace Try
theorem ag35 : aggB Try.prog 35 = some false := by kernel_rfl
theorem en44 : entB Try.prog 44 = true := by kernel_rfl
theorem All_ok (w : World) (A : Option Addr) (n c : Nat) :
    Ct Try.prog 45 [.slice A n c] [] w (fun b : Nat => .func (.func 72) #[] #[.pointer (some ⟨b, 0, none⟩)]) (fun _ => True) (fun b => [cellsC b 35 [.slice A n c]]) := by
  refine Ct.of_st Try.func45 rfl rfl (L := [(0, .slice A n c)]) ⟨rfl, trivial⟩ ?_
  refine st_seq ?_
  refine st_region rfl ?_
  refine sr_box rfl rfl rfl rfl (fun b1 => ?_)
  refine sr_assign rfl rfl rfl rfl ?_
  refine sr_end ?_
  refine st_seq ?_
  refine st_region rfl ?_
  refine sr_makeFunc rfl rfl rfl rfl trivial ?_
  refine sr_assign rfl rfl rfl rfl ?_
  refine sr_end ?_
  exact st_retC b1 [0] Try.func45 rfl rfl rfl trivial rfl

theorem All1_ok {σ : Type} (Hf : σ → List Chunk) (I : Nat → σ → Prop) (s0 : σ) (l : Nat) (rec : Loop) (w : World) (b : Nat) (A : Option Addr) (c : Nat) (xs : List (Int × Int)) (hbx : Has (bl (loopC l rec :: Hf s0)) w (some ⟨b, 0, none⟩) [.slice A xs.length c]) (hA : Has (bl (loopC l rec :: Hf s0)) w A (enc xs)) (hb : xs.length ≤ 1000000000) (h0 : I 0 s0) :
    Iter Try.prog 72 [.pointer (some ⟨b, 0, none⟩)] (itE (normF xs)) w Hf I s0 l rec := fun hY => by
  obtain ⟨b', o', e, hgb, hcb⟩ := hbx (by simp)
  cases e
  refine Ct.of_st Try.func72 rfl rfl (L := [(0, .func (.yield l) #[] #[]), (1, .pointer (some ⟨b, 0, none⟩))]) ⟨rfl, rfl, trivial⟩ ?_
  refine st_seq ?_
  refine st_region rfl ?_
  refine sr_loadAt (p := 0) (off := 0) rfl rfl rfl rfl rfl (has_cells hgb hcb) (rdV_one ag35 rfl) ?_
  refine sr_callM [] rfl rfl rfl rfl en44 rfl (fun w hh => Norm_ok w _ xs _ (hA.heap0 hh) (by omega)) ?_
  rintro ⟨o1, cap1⟩ -
  refine sr_len rfl rfl rfl rfl el35 ?_
  refine sr_move rfl rfl rfl rfl ?_
  refine sr_end ?_
  refine st_block ?_
  refine st_loopT 1 [0] (fun x : Nat × σ => [(0, .func (.yield l) #[] #[]), (6, rowV o1 ((normF xs).length) cap1), (7, .int .i64 ((normF xs).length : Int)), (8, .int .i64 (x.1 : Int))]) (fun x => rowC o1 ((normF xs).length) cap1 54 2 (enc (normF xs)) :: loopC l rec :: Hf x.2) (fun x => x.1 ≤ (normF xs).length ∧ I x.1 x.2) (fun x => (normF xs).length - x.1) (0, s0) ⟨Nat.zero_le _, h0⟩ ⟨rfl, rfl, rfl, rfl, trivial⟩ rfl (fun x hI hk => ?_)
  obtain ⟨k, s⟩ := x
  simp only at hI
  obtain ⟨hI0, hI⟩ := hI
  have hnl := normF_len xs
  refine st_seq ?_
  refine st_region rfl ?_
  refine sr_bin rfl rfl rfl rfl rfl b_lss ?_
  refine sr_end ?_
  refine st_seq ?_
  refine st_ifD rfl (fun q1 => ?_) (fun q1 => ?_)
  · skip
    refine st_skip ?_
    refine st_seq ?_
    refine st_block ?_
    refine st_seq ?_
    refine st_region rfl ?_
    refine sr_move rfl rfl rfl rfl ?_
    refine rk_open (q := 0) rfl (by (try simp only [List.length_append, List.length_cons, List.length_nil, List.length_set, List.length_replicate, List.length_take, List.length_drop, List.length_map, List.length_range, bytesN_length, List.length_singleton] at *); omega) (fun B1 eo1 => ?_)
    subst eo1
    refine sr_indexRowB rfl rfl rfl rfl rfl el35 (by omega) (by omega) ?_
    refine sr_loadRow (q := 0) (off := k * 2 + 0) rfl rfl rfl rfl rfl rfl (rdN (i := k) (j := 0) ag54 sz54 ((0, 0) : Int × Int) [.int .i64 (((normF xs).getD k ((0, 0) : Int × Int)).1), .int .i64 (((normF xs).getD k ((0, 0) : Int × Int)).2)] (by omega) rfl rfl) ?_
    refine sr_alloc rfl rfl rfl ze54 (fun b1 => ?_)
    refine sr_assign rfl rfl rfl rfl ?_
    refine sr_store (k := 0) rfl rfl rfl rfl rfl sz54 rfl rfl rfl rfl ?_
    refine sr_end ?_
    refine st_seq ?_
    refine st_inRegion ?_
    refine st_step rfl ?_
    refine sr_move rfl rfl rfl rfl ?_
    refine st_step rfl ?_
    refine sr_move rfl rfl rfl rfl ?_
    refine st_step rfl ?_
    refine sr_loadN (k := 0) (vs := [.int .i64 (((normF xs).getD k ((0, 0) : Int × Int)).1), .int .i64 (((normF xs).getD k ((0, 0) : Int × Int)).2)]) rfl rfl rfl rfl rfl ag54 sz54 rfl rfl ?_
    refine st_yield (n := 2) (X := σ) (val := fun _ => .bool true) (Q := I (k + 1)) (Hn := fun s' => loopC l rec :: Hf s') rfl rfl rfl rfl rfl rfl (fun w' hh => ?_) (fun s' hs' => ?_)
    · have hy := hY k s w' (by rw [itE_length]; omega) hI (hh.tail 2)
      rw [itE_get (by omega)] at hy
      exact hy.mono (by rintro v w'' ⟨rfl, s', hs', hu⟩; exact ⟨s', rfl, hs', hu⟩)
    refine st_step rfl ?_
    refine sr_un rfl rfl rfl rfl u_not ?_
    refine st_inEnd ?_
    refine st_false rfl ?_
    refine st_skip ?_
    refine st_inBlock ?_
    refine st_region rfl ?_
    refine sr_bin rfl rfl rfl rfl rfl (b_addI (by (try simp only [List.length_append, List.length_cons, List.length_nil, List.length_set, List.length_replicate, List.length_take, List.length_drop, List.length_map, List.length_range, bytesN_length, List.length_singleton] at *); omega) (by (try simp only [List.length_append, List.length_cons, List.length_nil, List.length_set, List.length_replicate, List.length_take, List.length_drop, List.length_map, List.length_range, bytesN_length, List.length_singleton] at *); omega)) ?_
    refine sr_move rfl rfl rfl rfl ?_
    refine sr_end ?_
    exact st_goT 2 [1] (hk (k + 1, s') ⟨by omega, hs'⟩ (by simp only; omega)) ⟨rfl, rfl, rfl, congrArg (fun z : Int => some (Value.int .i64 z)) (by simp only; omega), trivial⟩ rfl
  · skip
    refine st_exit rfl ?_
    obtain rfl : k = (normF xs).length := (by omega)
    exact st_goT 1 [] (L' := []) (H' := loopC l rec :: Hf s) (st_endC0T s Try.func72 rfl rfl (by rw [itE_length]; exact hI) rfl) trivial rfl

end Try
end Go.Sl
