/- A part of the proof: words and contracts that the row is built on. -/
import Derived.Test.YtjngkghhdphfcaaG3
namespace Go.Sl
open Go.RowKit Go.Proofs
set_option linter.unusedVariables false
set_option linter.unusedSimpArgs false
set_option maxRecDepth 10000
namespace Try
theorem ag34 : aggB Try.prog 34 = some false := by kernel_rfl
theorem ag43 : aggB Try.prog 43 = some false := by kernel_rfl
theorem ag52 : aggB Try.prog 52 = some false := by kernel_rfl
theorem ag54 : aggB Try.prog 54 = some true := by kernel_rfl
theorem by111 : byOf Try.prog 111 = some 32 := by kernel_rfl
theorem by54 : byOf Try.prog 54 = some 16 := by kernel_rfl
theorem el34 : elOf Try.prog 34 = some (54, 2) := by kernel_rfl
theorem el52 : elOf Try.prog 52 = some (111, 4) := by kernel_rfl
theorem en146 : entB Try.prog 146 = true := by kernel_rfl
theorem en76 : entB Try.prog 76 = true := by kernel_rfl
theorem fd151_0 : fldOf Try.prog 151 0 = some 0 := by kernel_rfl
theorem fd151_1 : fldOf Try.prog 151 1 = some 1 := by kernel_rfl
theorem fd156_1 : fldOf Try.prog 156 1 = some 1 := by kernel_rfl
theorem fd56_0 : fldOf Try.prog 56 0 = some 0 := by kernel_rfl
theorem fd56_1 : fldOf Try.prog 56 1 = some 1 := by kernel_rfl
theorem meRead (v : Value) (w : World) : (method ((Try.prog).types.size + Made.depth) 33 v "Read").run Try.prog w = .ok (146, v) w := by kernel_rfl
theorem meSize (v : Value) (w : World) : (method ((Try.prog).types.size + Made.depth) 33 v "Size").run Try.prog w = .ok (147, v) w := by kernel_rfl
theorem sz34 : szOf Try.prog 34 = some 1 := by kernel_rfl
theorem sz43 : szOf Try.prog 43 = some 1 := by kernel_rfl
theorem sz52 : szOf Try.prog 52 = some 1 := by kernel_rfl
theorem sz54 : szOf Try.prog 54 = some 2 := by kernel_rfl
theorem ze111 : zeroOf Try.prog 111 = some (.agg #[.int .i64 0, .int .i64 0, .int .i64 0, .int .i64 0]) := by kernel_rfl
theorem ze54 : zeroOf Try.prog 54 = some (.agg #[.int .i64 0, .int .i64 0]) := by kernel_rfl
def sectF (bs : List UInt8) (n : Int) (held : List (Int × Int)) : (List UInt8 × Int) × List (Int × Int) := if n < 0 ∨ (bs.length : Int) - 512 < n * 512 then (([], 4), held) else (((bs.drop (n * 512).toNat).take 512, 0), held ++ [(n * 512, n * 512 + 512)])
theorem memR_in {bs : List UInt8} {a n : Int} (h0 : 0 ≤ a) (h1 : 0 ≤ n) (h2 : a + n ≤ bs.length) : memR bs a n = ((bs.drop a.toNat).take n.toNat, 0) := by unfold memR; rw [if_neg (by omega)]
def extF (len base : Int) (x : EntryV) : (Int × Int) × Int := if (base + x.first) * 512 < 512 ∨ len < (base + x.first + x.count) * 512 then ((0, 0), 4) else (((base + x.first) * 512, (base + x.first + x.count) * 512), 0)
def addF (len base : Int) (x : EntryV) (slot : Int) (parts : List PartV) : Int × List PartV := if (extF len base x).2 ≠ 0 then ((extF len base x).2, parts) else if 32 ≤ parts.length then (3, parts) else (0, parts ++ [⟨(extF len base x).1, x.type, slot⟩])
theorem sector_ok (w : World) (br : Nat) (A : Option Addr) (bs : List UInt8) (c : Nat) (vP : Value) (oH : Option Nat) (cH : Nat) (i1 i2 : Int) (gd : Bool) (held : List (Int × Int)) (n : Int) (hA : Has (bl [cellsC br 151 [.iface 33 (.slice A bs.length c), vP, rowV oH held.length cH, .int .i64 i1, .int .i64 i2, .bool gd], rowC oH held.length cH 54 2 (enc held)]) w A (enc bs)) (hb : bs.length ≤ 1000000000000) (hc : bs.length ≤ c) (hn : -1000000000000 ≤ n) (hn2 : n ≤ 1000000000000) (hl : held.length ≤ 1000000) (res : (List UInt8 × Int) × List (Int × Int)) (hres : res = sectF bs n held) :
    Ct Try.prog 73 [.pointer (some ⟨br, 0, none⟩), .int .i64 n] [cellsC br 151 [.iface 33 (.slice A bs.length c), vP, rowV oH held.length cH, .int .i64 i1, .int .i64 i2, .bool gd], rowC oH held.length cH 54 2 (enc held)] w (fun x : (Option Nat × Nat) × (Option Nat × Nat) => .tuple #[rowV x.1.1 res.1.1.length x.1.2, .int .i64 res.1.2]) (fun _ => True) (fun x => [rowC x.1.1 res.1.1.length x.1.2 5 1 (enc res.1.1), cellsC br 151 [.iface 33 (.slice A bs.length c), vP, rowV x.2.1 res.2.length x.2.2, .int .i64 i1, .int .i64 i2, .bool gd], rowC x.2.1 res.2.length x.2.2 54 2 (enc res.2)]) := by
  refine Ct.of_st Try.func73 rfl rfl (L := [(0, .pointer (some ⟨br, 0, none⟩)), (1, .int .i64 n)]) ⟨rfl, rfl, trivial⟩ ?_
  refine st_seq ?_
  refine st_region rfl ?_
  refine sr_assign rfl rfl rfl rfl ?_
  refine sr_assign rfl rfl rfl rfl ?_
  refine sr_end ?_
  refine st_seq ?_
  refine st_region rfl ?_
  refine sr_move rfl rfl rfl rfl ?_
  refine sr_bin rfl rfl rfl rfl rfl (b_mulI (by omega) (by omega)) ?_
  refine sr_assign rfl rfl rfl rfl ?_
  refine sr_end ?_
  refine st_seq ?_
  refine st_seq ?_
  refine st_region rfl ?_
  refine sr_move rfl rfl rfl rfl ?_
  refine sr_bin rfl rfl rfl rfl rfl b_lss ?_
  refine sr_move rfl rfl rfl rfl ?_
  refine sr_caseD (t := 11) rfl (fun g1 => ?_) (fun g1 => ?_)
  · skip
    refine sr_off rfl rfl rfl ?_
    refine sr_off rfl rfl rfl ?_
    refine sr_off rfl rfl rfl ?_
    refine sr_off rfl rfl rfl ?_
    refine sr_off rfl rfl rfl ?_
    refine sr_off rfl rfl rfl ?_
    refine sr_off rfl rfl rfl ?_
    refine sr_off rfl rfl rfl ?_
    refine sr_pickT rfl rfl rfl rfl rfl ?_
    refine sr_end ?_
    refine st_true rfl ?_
    refine st_seq ?_
    refine st_region rfl ?_
    refine sr_assign rfl rfl rfl rfl ?_
    refine sr_assign rfl rfl rfl rfl ?_
    refine sr_end ?_
    obtain rfl : res = (([], 4), held) := hres.trans (by unfold sectF; rw [if_pos (by omega)])
    refine st_nilrow 5 1 ?_
    exact st_retC2 (((none, 0), (oH, cH))) [0, 0, 0] Try.func73 rfl rfl rfl rfl trivial rfl
  · skip
    refine sr_move rfl rfl rfl rfl ?_
    refine sr_move rfl rfl rfl rfl ?_
    refine sr_nilCheck rfl rfl rfl rfl ?_
    refine sr_fieldAddr (m := 0) rfl rfl rfl rfl fd151_0 rfl ?_
    refine sr_load1 (k := 0) rfl rfl rfl rfl rfl ag43 rfl ?_
    refine sr_invokeM [] rfl rfl rfl rfl rfl (meSize _) en147 rfl (fun w hh => Size_ok w _ _ _) ?_
    rintro ⟨⟩ -
    refine sr_bin rfl rfl rfl rfl rfl (b_subI (by (try simp only [List.length_append, List.length_cons, List.length_nil, List.length_set, List.length_replicate, List.length_take, List.length_drop, List.length_map, List.length_range, bytesN_length] at *); omega) (by (try simp only [List.length_append, List.length_cons, List.length_nil, List.length_set, List.length_replicate, List.length_take, List.length_drop, List.length_map, List.length_range, bytesN_length] at *); omega)) ?_
    refine sr_bin rfl rfl rfl rfl rfl b_gtr ?_
    refine sr_pickF rfl rfl rfl rfl rfl ?_
    refine sr_end ?_
    refine st_ifD rfl (fun q1 => ?_) (fun q1 => ?_)
    · skip
      refine st_seq ?_
      refine st_region rfl ?_
      refine sr_assign rfl rfl rfl rfl ?_
      refine sr_assign rfl rfl rfl rfl ?_
      refine sr_end ?_
      obtain rfl : res = (([], 4), held) := hres.trans (by unfold sectF; rw [if_pos (by omega)])
      refine st_nilrow 5 1 ?_
      exact st_retC2 (((none, 0), (oH, cH))) [0, 0, 0] Try.func73 rfl rfl rfl rfl trivial rfl
    · skip
      refine st_skip ?_
      refine st_seq ?_
      refine st_region rfl ?_
      refine sr_move rfl rfl rfl rfl ?_
      refine sr_move rfl rfl rfl rfl ?_
      refine sr_nilCheck rfl rfl rfl rfl ?_
      refine sr_fieldAddr (m := 1) rfl rfl rfl rfl fd151_1 rfl ?_
      refine sr_fieldAddr (m := 2) rfl rfl rfl rfl fd56_1 rfl ?_
      refine sr_load1 (k := 0) rfl rfl rfl rfl rfl ag34 rfl ?_
      refine sr_move rfl rfl rfl rfl ?_
      refine sr_move rfl rfl rfl rfl ?_
      refine sr_bin rfl rfl rfl rfl rfl (b_addI (by (try simp only [List.length_append, List.length_cons, List.length_nil, List.length_set, List.length_replicate, List.length_take, List.length_drop, List.length_map, List.length_range, bytesN_length] at *); omega) (by (try simp only [List.length_append, List.length_cons, List.length_nil, List.length_set, List.length_replicate, List.length_take, List.length_drop, List.length_map, List.length_range, bytesN_length] at *); omega)) ?_
      refine sr_build (cs := [.int .i64 (n * 512), .int .i64 ((n * 512) + 512)]) rfl rfl rfl rfl (fun _ => by kernel_rfl) ?_
      refine sr_buildSlice (vs := [.agg #[.int .i64 (n * 512), .int .i64 ((n * 512) + 512)]]) (cs := enc ([(n * 512, (n * 512) + 512)] : List (Int × Int))) rfl rfl rfl rfl el34 rfl ze54 rfl (all_cons rfl all_nil) rfl rfl (fun b1 => ?_)
      refine sr_appendE (q := 2) (xs := held) ([(n * 512, (n * 512) + 512)] : List (Int × Int)) rfl rfl rfl rfl rfl el34 el34 rfl ze54 rfl by54 rfl (fun w hh => (rowC_has (hh.hp.get (i := 0) rfl))) rfl rfl (by (try simp only [List.length_append, List.length_cons, List.length_nil, List.length_set, List.length_replicate, List.length_take, List.length_drop, List.length_map, List.length_range, bytesN_length] at *); omega) rfl (fun o1 cap1 => ?_)
      refine sr_nilCheck rfl rfl rfl rfl ?_
      refine sr_fieldAddr (m := 1) rfl rfl rfl rfl fd151_1 rfl ?_
      refine sr_fieldAddr (m := 2) rfl rfl rfl rfl fd56_1 rfl ?_
      refine sr_store (k := 2) rfl rfl rfl rfl rfl sz34 rfl rfl rfl rfl ?_
      refine sr_end ?_
      refine st_seq ?_
      refine st_region rfl ?_
      refine sr_move rfl rfl rfl rfl ?_
      refine sr_nilCheck rfl rfl rfl rfl ?_
      refine sr_fieldAddr (m := 0) rfl rfl rfl rfl fd151_0 rfl ?_
      refine sr_load1 (k := 2) rfl rfl rfl rfl rfl ag43 rfl ?_
      refine sr_move rfl rfl rfl rfl ?_
      refine sr_invokeM [] rfl rfl rfl rfl rfl (meRead _) en146 rfl (fun w hh => Read_ok w _ bs _ _ _ (hA.heap0 hh) (by omega) (by omega) (by omega) (by omega) (by omega) (by omega)) ?_
      rintro ⟨o2, cap2⟩ -
      refine sr_extract rfl rfl rfl rfl rfl ?_
      refine sr_extract rfl rfl rfl rfl rfl ?_
      refine sr_assign rfl rfl rfl rfl ?_
      refine sr_assign rfl rfl rfl rfl ?_
      refine sr_end ?_
      obtain rfl : res = (((bs.drop (n * 512).toNat).take 512, 0), held ++ [(n * 512, n * 512 + 512)]) := hres.trans (by unfold sectF; rw [if_neg (by omega)])
      have hm := memR_in (bs := bs) (a := n * 512) (n := 512) (by omega) (by omega) (by omega)
      rw [hm]
      exact st_retC2 (((o2, cap2), (o1, cap1))) [0, 2, 0] Try.func73 rfl rfl rfl rfl trivial rfl

theorem ext_ok (w : World) (br : Nat) (A : Option Addr) (bs : List UInt8) (c : Nat) (vP vH : Value) (i1 i2 : Int) (gd : Bool) (base : Int) (x : EntryV) (hb : bs.length ≤ 1000000000000) (hx1 : -1000000000000 ≤ x.first) (hx2 : x.first ≤ 1000000000000) (hx3 : 0 ≤ x.count) (hx4 : x.count ≤ 1000000000000) (hB : -1000000000000 ≤ base) (hB2 : base ≤ 1000000000000) (res : (Int × Int) × Int) (hres : res = extF bs.length base x) :
    Ct Try.prog 76 [.pointer (some ⟨br, 0, none⟩), .int .i64 base, .agg #[.int .i64 x.type, .int .i64 x.first, .int .i64 x.count]] [cellsC br 151 [.iface 33 (.slice A bs.length c), vP, vH, .int .i64 i1, .int .i64 i2, .bool gd]] w (fun _ : Unit => .tuple #[.agg #[.int .i64 res.1.1, .int .i64 res.1.2], .int .i64 res.2]) (fun _ => True) (fun _ => [cellsC br 151 [.iface 33 (.slice A bs.length c), vP, vH, .int .i64 i1, .int .i64 i2, .bool gd]]) := by
  refine Ct.of_st Try.func76 rfl rfl (L := [(0, .pointer (some ⟨br, 0, none⟩)), (1, .int .i64 base), (2, .agg #[.int .i64 x.type, .int .i64 x.first, .int .i64 x.count])]) ⟨rfl, rfl, rfl, trivial⟩ ?_
  refine st_seq ?_
  refine st_region rfl ?_
  refine sr_box rfl rfl rfl rfl (fun b1 => ?_)
  refine sr_alloc rfl rfl rfl ze54 (fun b2 => ?_)
  refine sr_assign rfl rfl rfl rfl ?_
  refine sr_end ?_
  refine st_seq ?_
  refine st_draw [] [cellsC b1 156 [.int .i64 x.type, .int .i64 x.first, .int .i64 x.count]] follows_mixed rfl ?_
  refine sd_take [1] 0 rfl rfl rfl (fun _ => pv_move rfl) (by kernel_rfl) (by kernel_rfl) (by kernel_rfl) (by kernel_rfl) rfl ?_
  refine sd_take [1] 1 rfl rfl rfl (fun _ => pv_fieldAddr (m := 1) rfl fd156_1 rfl) (by kernel_rfl) (by kernel_rfl) (by kernel_rfl) (by kernel_rfl) rfl ?_
  refine sd_take [1] 2 rfl rfl rfl (fun _ => pv_load1 (k := 0) rfl rfl ag2 rfl) (by kernel_rfl) (by kernel_rfl) (by kernel_rfl) (by kernel_rfl) rfl ?_
  refine sd_take [1] 3 rfl rfl rfl (fun _ => pv_bin rfl rfl (b_addI (by omega) (by omega))) (by kernel_rfl) (by kernel_rfl) (by kernel_rfl) (by kernel_rfl) rfl ?_
  refine sd_take [1] 4 rfl rfl rfl (fun _ => pv_bin rfl rfl (b_mulI (by (try simp only [List.length_append, List.length_cons, List.length_nil, List.length_set, List.length_replicate, List.length_take, List.length_drop, List.length_map, List.length_range, bytesN_length] at *); omega) (by (try simp only [List.length_append, List.length_cons, List.length_nil, List.length_set, List.length_replicate, List.length_take, List.length_drop, List.length_map, List.length_range, bytesN_length] at *); omega))) (by kernel_rfl) (by kernel_rfl) (by kernel_rfl) (by kernel_rfl) rfl ?_
  refine sd_take [1] 5 rfl rfl rfl (fun _ => pv_move rfl) (by kernel_rfl) (by kernel_rfl) (by kernel_rfl) (by kernel_rfl) rfl ?_
  refine sd_take [1] 6 rfl rfl rfl (fun _ => pv_fieldAddr (m := 1) rfl fd156_1 rfl) (by kernel_rfl) (by kernel_rfl) (by kernel_rfl) (by kernel_rfl) rfl ?_
  refine sd_take [1] 7 rfl rfl rfl (fun _ => pv_load1 (k := 0) rfl rfl ag2 rfl) (by kernel_rfl) (by kernel_rfl) (by kernel_rfl) (by kernel_rfl) rfl ?_
  refine sd_take [1] 8 rfl rfl rfl (fun _ => pv_bin rfl rfl (b_addI (by omega) (by omega))) (by kernel_rfl) (by kernel_rfl) (by kernel_rfl) (by kernel_rfl) rfl ?_
  refine sd_take [1] 9 rfl rfl rfl (fun _ => pv_fieldAddr (m := 2) rfl fd156_2 rfl) (by kernel_rfl) (by kernel_rfl) (by kernel_rfl) (by kernel_rfl) rfl ?_
  refine sd_take [1] 10 rfl rfl rfl (fun _ => pv_load1 (k := 0) rfl rfl ag2 rfl) (by kernel_rfl) (by kernel_rfl) (by kernel_rfl) (by kernel_rfl) rfl ?_
  refine sd_take [1] 11 rfl rfl rfl (fun _ => pv_bin rfl rfl (b_addI (by (try simp only [List.length_append, List.length_cons, List.length_nil, List.length_set, List.length_replicate, List.length_take, List.length_drop, List.length_map, List.length_range, bytesN_length] at *); omega) (by (try simp only [List.length_append, List.length_cons, List.length_nil, List.length_set, List.length_replicate, List.length_take, List.length_drop, List.length_map, List.length_range, bytesN_length] at *); omega))) (by kernel_rfl) (by kernel_rfl) (by kernel_rfl) (by kernel_rfl) rfl ?_
  refine sd_take [1] 12 rfl rfl rfl (fun _ => pv_bin rfl rfl (b_mulI (by (try simp only [List.length_append, List.length_cons, List.length_nil, List.length_set, List.length_replicate, List.length_take, List.length_drop, List.length_map, List.length_range, bytesN_length] at *); omega) (by (try simp only [List.length_append, List.length_cons, List.length_nil, List.length_set, List.length_replicate, List.length_take, List.length_drop, List.length_map, List.length_range, bytesN_length] at *); omega))) (by kernel_rfl) (by kernel_rfl) (by kernel_rfl) (by kernel_rfl) rfl ?_
  refine sd_take [1] 13 rfl rfl rfl (fun _ => pv_assign rfl) (by kernel_rfl) (by kernel_rfl) (by kernel_rfl) (by kernel_rfl) rfl ?_
  refine sd_take [1] 14 rfl rfl rfl (fun _ => pv_assign rfl) (by kernel_rfl) (by kernel_rfl) (by kernel_rfl) (by kernel_rfl) rfl ?_
  refine sd_end (by kernel_rfl) ?_
  refine st_seq ?_
  refine st_seq ?_
  refine st_region rfl ?_
  refine sr_move rfl rfl rfl rfl ?_
  refine sr_bin rfl rfl rfl rfl rfl b_lss ?_
  refine sr_move rfl rfl rfl rfl ?_
  refine sr_caseD (t := 25) rfl (fun g1 => ?_) (fun g1 => ?_)
  · skip
    refine sr_off rfl rfl rfl ?_
    refine sr_off rfl rfl rfl ?_
    refine sr_off rfl rfl rfl ?_
    refine sr_off rfl rfl rfl ?_
    refine sr_off rfl rfl rfl ?_
    refine sr_off rfl rfl rfl ?_
    refine sr_off rfl rfl rfl ?_
    refine sr_pickT rfl rfl rfl rfl rfl ?_
    refine sr_end ?_
    refine st_true rfl ?_
    refine st_seq ?_
    refine st_region rfl ?_
    refine sr_build (cs := [.int .i64 0, .int .i64 0]) rfl rfl rfl rfl (fun _ => by kernel_rfl) ?_
    refine sr_store (k := 0) rfl rfl rfl rfl rfl sz54 rfl rfl rfl rfl ?_
    refine sr_assign rfl rfl rfl rfl ?_
    refine sr_end ?_
    obtain rfl : res = ((0, 0), 4) := hres.trans (by unfold extF; rw [if_pos (by omega)])
    exact st_retX2 () 0 [2] Try.func76 rfl rfl rfl rfl ag54 sz54 rfl rfl rfl trivial rfl
  · skip
    refine sr_move rfl rfl rfl rfl ?_
    refine sr_move rfl rfl rfl rfl ?_
    refine sr_nilCheck rfl rfl rfl rfl ?_
    refine sr_fieldAddr (m := 0) rfl rfl rfl rfl fd151_0 rfl ?_
    refine sr_load1 (k := 2) rfl rfl rfl rfl rfl ag43 rfl ?_
    refine sr_invokeM [] rfl rfl rfl rfl rfl (meSize _) en147 rfl (fun w hh => Size_ok w _ _ _) ?_
    rintro ⟨⟩ -
    refine sr_bin rfl rfl rfl rfl rfl b_gtr ?_
    refine sr_pickF rfl rfl rfl rfl rfl ?_
    refine sr_end ?_
    refine st_ifD rfl (fun q1 => ?_) (fun q1 => ?_)
    · skip
      refine st_seq ?_
      refine st_region rfl ?_
      refine sr_build (cs := [.int .i64 0, .int .i64 0]) rfl rfl rfl rfl (fun _ => by kernel_rfl) ?_
      refine sr_store (k := 0) rfl rfl rfl rfl rfl sz54 rfl rfl rfl rfl ?_
      refine sr_assign rfl rfl rfl rfl ?_
      refine sr_end ?_
      obtain rfl : res = ((0, 0), 4) := hres.trans (by unfold extF; rw [if_pos (by omega)])
      exact st_retX2 () 0 [2] Try.func76 rfl rfl rfl rfl ag54 sz54 rfl rfl rfl trivial rfl
    · skip
      refine st_skip ?_
      refine st_seq ?_
      refine st_region rfl ?_
      refine sr_move rfl rfl rfl rfl ?_
      refine sr_move rfl rfl rfl rfl ?_
      refine sr_build (cs := [.int .i64 ((base + x.first) * 512), .int .i64 (((base + x.first) + x.count) * 512)]) rfl rfl rfl rfl (fun _ => by kernel_rfl) ?_
      refine sr_store (k := 0) rfl rfl rfl rfl rfl sz54 rfl rfl rfl rfl ?_
      refine sr_assign rfl rfl rfl rfl ?_
      refine sr_end ?_
      obtain rfl : res = (((base + x.first) * 512, (base + x.first + x.count) * 512), 0) := hres.trans (by unfold extF; rw [if_neg (by omega)])
      exact st_retX2 () 0 [2] Try.func76 rfl rfl rfl rfl ag54 sz54 rfl rfl rfl trivial rfl

theorem add_ok (w : World) (br : Nat) (A : Option Addr) (bs : List UInt8) (c : Nat) (oP : Option Nat) (cP : Nat) (vH : Value) (i1 i2 : Int) (gd : Bool) (parts : List PartV) (base : Int) (x : EntryV) (slot : Int) (hb : bs.length ≤ 1000000000000) (hp : parts.length ≤ 1000000) (hx1 : -1000000000000 ≤ x.first) (hx2 : x.first ≤ 1000000000000) (hx3 : 0 ≤ x.count) (hx4 : x.count ≤ 1000000000000) (hB : -1000000000000 ≤ base) (hB2 : base ≤ 1000000000000) (res : Int × List PartV) (hres : res = addF bs.length base x slot parts) :
    Ct Try.prog 75 [.pointer (some ⟨br, 0, none⟩), .int .i64 base, .agg #[.int .i64 x.type, .int .i64 x.first, .int .i64 x.count], .int .i64 slot] [cellsC br 151 [.iface 33 (.slice A bs.length c), rowV oP parts.length cP, vH, .int .i64 i1, .int .i64 i2, .bool gd], rowC oP parts.length cP 111 4 (enc parts)] w (fun _ : Option Nat × Nat => .int .i64 res.1) (fun _ => True) (fun y => [cellsC br 151 [.iface 33 (.slice A bs.length c), rowV y.1 res.2.length y.2, vH, .int .i64 i1, .int .i64 i2, .bool gd], rowC y.1 res.2.length y.2 111 4 (enc res.2)]) := by
  refine Ct.of_st Try.func75 rfl rfl (L := [(0, .pointer (some ⟨br, 0, none⟩)), (1, .int .i64 base), (2, .agg #[.int .i64 x.type, .int .i64 x.first, .int .i64 x.count]), (3, .int .i64 slot)]) ⟨rfl, rfl, rfl, rfl, trivial⟩ ?_
  refine st_seq ?_
  refine st_region rfl ?_
  refine sr_box rfl rfl rfl rfl (fun b1 => ?_)
  refine sr_assign rfl rfl rfl rfl ?_
  refine sr_end ?_
  refine st_seq ?_
  refine st_region rfl ?_
  refine sr_move rfl rfl rfl rfl ?_
  refine sr_move rfl rfl rfl rfl ?_
  refine sr_loadN (k := 0) (vs := [.int .i64 x.type, .int .i64 x.first, .int .i64 x.count]) rfl rfl rfl rfl rfl ag156 sz156 rfl rfl ?_
  refine sr_callM [1] rfl rfl rfl rfl en76 rfl (fun w hh => ext_ok w _ _ bs _ _ _ _ _ _ base (⟨x.type, x.first, x.count⟩ : EntryV) (by omega) (by omega) (by omega) (by omega) (by omega) (by omega) (by omega) _ rfl) ?_
  rintro ⟨⟩ -
  refine sr_move rfl rfl rfl rfl ?_
  refine sr_extract rfl rfl rfl rfl rfl ?_
  refine sr_extract rfl rfl rfl rfl rfl ?_
  refine sr_alloc rfl rfl rfl ze54 (fun b2 => ?_)
  refine sr_store (k := 0) rfl rfl rfl rfl rfl sz54 rfl rfl rfl rfl ?_
  refine sr_assign rfl rfl rfl rfl ?_
  refine sr_end ?_
  refine st_seq ?_
  refine st_seq ?_
  refine st_region rfl ?_
  refine sr_move rfl rfl rfl rfl ?_
  refine sr_bin rfl rfl rfl rfl rfl b_neq ?_
  refine sr_end ?_
  refine st_if rfl (fun q1 => ?_) (fun q1 => ?_)
  · have he0 : (extF bs.length base x).2 ≠ 0 := (by rw [Bool.not_eq_true', decide_eq_false_iff_not] at q1; exact q1)
    refine st_seq ?_
    refine st_region rfl ?_
    refine sr_move rfl rfl rfl rfl ?_
    refine sr_assign rfl rfl rfl rfl ?_
    refine sr_end ?_
    obtain rfl : res = ((extF bs.length base x).2, parts) := hres.trans (by unfold addF; rw [if_pos he0])
    exact st_retC (oP, cP) [1, 2] Try.func75 rfl rfl rfl trivial rfl
  · have he0 : ¬ (extF bs.length base x).2 ≠ 0 := (by rw [Bool.not_eq_false', decide_eq_true_iff] at q1; exact fun h => h q1)
    refine st_skip ?_
    refine st_seq ?_
    refine st_seq ?_
    refine st_region rfl ?_
    refine sr_move rfl rfl rfl rfl ?_
    refine sr_nilCheck rfl rfl rfl rfl ?_
    refine sr_fieldAddr (m := 1) rfl rfl rfl rfl fd151_1 rfl ?_
    refine sr_fieldAddr (m := 1) rfl rfl rfl rfl fd56_0 rfl ?_
    refine sr_load1 (k := 1) rfl rfl rfl rfl rfl ag52 rfl ?_
    refine sr_len rfl rfl rfl rfl el52 ?_
    refine sr_bin rfl rfl rfl rfl rfl b_geq ?_
    refine sr_end ?_
    refine st_ifD rfl (fun q2 => ?_) (fun q2 => ?_)
    · skip
      refine st_seq ?_
      refine st_region rfl ?_
      refine sr_assign rfl rfl rfl rfl ?_
      refine sr_end ?_
      obtain rfl : res = (3, parts) := hres.trans (by unfold addF; rw [if_neg he0, if_pos (by omega)])
      exact st_retC (oP, cP) [1, 2] Try.func75 rfl rfl rfl trivial rfl
    · skip
      refine st_skip ?_
      refine st_seq ?_
      refine st_draw [16] [cellsC b2 54 [.int .i64 ((extF (bs.length : Int) base (⟨x.type, x.first, x.count⟩ : EntryV)).1.1), .int .i64 ((extF (bs.length : Int) base (⟨x.type, x.first, x.count⟩ : EntryV)).1.2)], cellsC br 151 [.iface 33 (.slice A bs.length c), rowV oP parts.length cP, vH, .int .i64 i1, .int .i64 i2, .bool gd], cellsC b1 156 [.int .i64 x.type, .int .i64 x.first, .int .i64 x.count]] follows_mixed rfl ?_
      refine sd_take [0, 0, 0] 0 rfl rfl rfl (fun _ => pv_move rfl) (by kernel_rfl) (by kernel_rfl) (by kernel_rfl) (by kernel_rfl) rfl ?_
      refine sd_take [0, 0, 0] 1 rfl rfl rfl (fun _ => pv_move rfl) (by kernel_rfl) (by kernel_rfl) (by kernel_rfl) (by kernel_rfl) rfl ?_
      refine sd_take [0, 0, 0] 2 rfl rfl rfl (fun _ => pv_nilCheck rfl) (by kernel_rfl) (by kernel_rfl) (by kernel_rfl) (by kernel_rfl) rfl ?_
      refine sd_take [0, 0, 0] 3 rfl rfl rfl (fun _ => pv_fieldAddr (m := 1) rfl fd151_1 rfl) (by kernel_rfl) (by kernel_rfl) (by kernel_rfl) (by kernel_rfl) rfl ?_
      refine sd_take [0, 0, 0] 4 rfl rfl rfl (fun _ => pv_fieldAddr (m := 1) rfl fd56_0 rfl) (by kernel_rfl) (by kernel_rfl) (by kernel_rfl) (by kernel_rfl) rfl ?_
      refine sd_take [0, 0, 0] 5 rfl rfl rfl (fun _ => pv_load1 (k := 1) rfl rfl ag52 rfl) (by kernel_rfl) (by kernel_rfl) (by kernel_rfl) (by kernel_rfl) rfl ?_
      refine sd_take [0, 0, 0] 6 rfl rfl rfl (fun _ => pv_loadN (k := 0) (vs := [.int .i64 ((extF (bs.length : Int) base (⟨x.type, x.first, x.count⟩ : EntryV)).1.1), .int .i64 ((extF (bs.length : Int) base (⟨x.type, x.first, x.count⟩ : EntryV)).1.2)]) rfl rfl ag54 sz54 rfl rfl) (by kernel_rfl) (by kernel_rfl) (by kernel_rfl) (by kernel_rfl) rfl ?_
      refine sd_take [0, 0, 0] 7 rfl rfl rfl (fun _ => pv_fieldAddr (m := 0) rfl fd156_0 rfl) (by kernel_rfl) (by kernel_rfl) (by kernel_rfl) (by kernel_rfl) rfl ?_
      refine sd_take [0, 0, 0] 8 rfl rfl rfl (fun _ => pv_load1 (k := 2) rfl rfl ag3 rfl) (by kernel_rfl) (by kernel_rfl) (by kernel_rfl) (by kernel_rfl) rfl ?_
      refine sd_take [0, 0, 0] 9 rfl rfl rfl (fun _ => pv_move rfl) (by kernel_rfl) (by kernel_rfl) (by kernel_rfl) (by kernel_rfl) rfl ?_
      refine sd_take [0, 0, 0] 10 rfl rfl rfl (fun _ => pv_build (cs := [.int .i64 ((extF (bs.length : Int) base (⟨x.type, x.first, x.count⟩ : EntryV)).1.1), .int .i64 ((extF (bs.length : Int) base (⟨x.type, x.first, x.count⟩ : EntryV)).1.2), .int .i64 x.type, .int .i64 slot]) rfl (fun _ => by kernel_rfl)) (by kernel_rfl) (by kernel_rfl) (by kernel_rfl) (by kernel_rfl) rfl ?_
      refine sd_one 11 (by kernel_rfl) ?_
      refine sr_buildSlice (vs := [.agg #[.int .i64 ((extF (bs.length : Int) base (⟨x.type, x.first, x.count⟩ : EntryV)).1.1), .int .i64 ((extF (bs.length : Int) base (⟨x.type, x.first, x.count⟩ : EntryV)).1.2), .int .i64 x.type, .int .i64 slot]]) (cs := enc ([(⟨((extF (bs.length : Int) base (⟨x.type, x.first, x.count⟩ : EntryV)).1.1, (extF (bs.length : Int) base (⟨x.type, x.first, x.count⟩ : EntryV)).1.2), x.type, slot⟩ : PartV)] : List PartV)) rfl rfl rfl rfl el52 rfl ze111 rfl (all_cons rfl all_nil) rfl rfl (fun b3 => ?_)
      refine sd_next [1, 1, 1] rfl ?_
      refine sd_one 12 (by kernel_rfl) ?_
      refine sr_appendE (q := 4) (xs := parts) ([(⟨((extF (bs.length : Int) base (⟨x.type, x.first, x.count⟩ : EntryV)).1.1, (extF (bs.length : Int) base (⟨x.type, x.first, x.count⟩ : EntryV)).1.2), x.type, slot⟩ : PartV)] : List PartV) rfl rfl rfl rfl rfl el52 el52 rfl ze111 rfl by111 rfl (fun w hh => (rowC_has (hh.hp.get (i := 0) rfl))) rfl rfl (by (try simp only [List.length_append, List.length_cons, List.length_nil, List.length_set, List.length_replicate, List.length_take, List.length_drop, List.length_map, List.length_range, bytesN_length] at *); omega) rfl (fun o1 cap1 => ?_)
      refine sd_next [2, 2, 2] rfl ?_
      refine sd_one 13 (by kernel_rfl) ?_
      refine sr_nilCheck rfl rfl rfl rfl ?_
      refine sd_next [2, 2, 2] rfl ?_
      refine sd_one 14 (by kernel_rfl) ?_
      refine sr_fieldAddr (m := 1) rfl rfl rfl rfl fd151_1 rfl ?_
      refine sd_next [2, 2, 2] rfl ?_
      refine sd_take [2, 2, 2] 15 rfl rfl rfl (fun _ => pv_fieldAddr (m := 1) rfl fd56_0 rfl) (by kernel_rfl) (by kernel_rfl) (by kernel_rfl) (by kernel_rfl) rfl ?_
      refine sd_one 16 (by kernel_rfl) ?_
      refine sr_store (k := 3) rfl rfl rfl rfl rfl sz52 rfl rfl rfl rfl ?_
      refine sd_nextE (by kernel_rfl) ?_
      refine sd_end (by kernel_rfl) ?_
      refine st_seq ?_
      refine st_region rfl ?_
      refine sr_assign rfl rfl rfl rfl ?_
      refine sr_end ?_
      obtain rfl : res = (0, parts ++ [⟨(extF bs.length base x).1, x.type, slot⟩]) := hres.trans (by unfold addF; rw [if_neg he0, if_neg (by omega)])
      exact st_retC (o1, cap1) [3, 0] Try.func75 rfl rfl rfl trivial rfl

end Try
end Go.Sl
