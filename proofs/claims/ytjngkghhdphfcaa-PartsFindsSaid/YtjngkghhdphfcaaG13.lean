/- A part of the proof: words and contracts that the row is built on. -/
import Derived.Test.YtjngkghhdphfcaaG12
namespace Go.Sl
open Go.RowKit Go.Proofs
set_option linter.unusedVariables false
set_option linter.unusedSimpArgs false
set_option maxRecDepth 10000
namespace Try
theorem ag4 : aggB Try.prog 4 = some false := by kernel_rfl
theorem en48 : entB Try.prog 48 = true := by kernel_rfl
theorem en51 : entB Try.prog 51 = true := by kernel_rfl
theorem en53 : entB Try.prog 53 = true := by kernel_rfl
theorem en56 : entB Try.prog 56 = true := by kernel_rfl
theorem fd62_3 : fldOf Try.prog 62 3 = some 3 := by kernel_rfl
theorem two_has {a b : SetV} {w : World} (ha : Has [] w a.A (enc a.xs)) (hb : Has [] w b.A (enc b.xs)) : ∀ i, i < ([a, b] : List SetV).length → Has [] w (([a, b] : List SetV).getD i (⟨none, [], 0⟩ : SetV)).A (enc (([a, b] : List SetV).getD i (⟨none, [], 0⟩ : SetV)).xs) := by
  intro i hi
  match i, hi with
  | 0, _ => exact ha
  | 1, _ => exact hb
theorem norm_append (a b : List (Int × Int)) : normF (normF a ++ normF b) = normF (a ++ b) :=
  canon_unique (normF_canon _) (normF_canon _) fun z => by rw [normF_cover, normF_cover, cover_append, cover_append, normF_cover, normF_cover]
theorem norm_perm {a b : List (Int × Int)} (h : a.Perm b) : normF a = normF b :=
  canon_unique (normF_canon _) (normF_canon _) fun z => by rw [normF_cover, normF_cover, cover_perm h]
theorem used_step {held : List (Int × Int)} {ys : List PartV} {k : Nat} {A B : Option Addr} {c d : Nat} (h : k < ys.length) : normF (([⟨A, normF (held ++ (ys.take k).map PartV.ext), c⟩, ⟨B, normF [((ys.getD k (⟨(0, 0), 0, 0⟩ : PartV)).ext.1, (ys.getD k (⟨(0, 0), 0, 0⟩ : PartV)).ext.2)], d⟩] : List SetV).flatMap SetV.xs) = normF (held ++ (ys.take (k + 1)).map PartV.ext) := by
  simp only [List.flatMap_cons, List.flatMap_nil, List.append_nil]
  rw [norm_append, part_succ h, List.append_assoc]
theorem used_first {held : List (Int × Int)} {ys : List PartV} {A B : Option Addr} {c d : Nat} (h : 0 < ys.length) : normF (([⟨A, normF held, c⟩, ⟨B, normF [((ys.getD 0 (⟨(0, 0), 0, 0⟩ : PartV)).ext.1, (ys.getD 0 (⟨(0, 0), 0, 0⟩ : PartV)).ext.2)], d⟩] : List SetV).flatMap SetV.xs) = normF (held ++ (ys.take 1).map PartV.ext) := by
  have := used_step (held := held) (ys := ys) (k := 0) (A := A) (B := B) (c := c) (d := d) h
  simpa using this
theorem scanF_len (len : Int) : ∀ (l : List EntryV) (i : Int) (ps : List PartV) (g : Bool), (scanF len l i ps g).2.1.length ≤ ps.length + l.length
  | [], i, ps, g => by simp [scanF]
  | x :: l, i, ps, g => by
    have h1 := scanF_len len l (i + 1) ps g
    have h2 := scanF_len len l (i + 1) ps true
    have h3 := scanF_len len l (i + 1) (addF len 0 x i ps).2 g
    have h4 := addF_len (len := len) (base := 0) (slot := i) (x := x) (ps := ps)
    unfold scanF
    split
    · simp only [List.length_cons]; omega
    · split
      · simp only [List.length_cons]; omega
      · split
        · simp only [List.length_cons]; omega
        · simp only [List.length_cons]; omega
theorem entriesL_le (bs : List UInt8) : (entriesL bs).1.length ≤ 4 := by
  unfold entriesL
  split
  · simp
  · split
    · simp
    · split <;> simp
theorem mbr0F_len (bs : List UInt8) : (mbr0F bs).1.parts.length ≤ 4 ∧ (mbr0F bs).1.held.length ≤ 1 := by
  unfold mbr0F
  split
  · simp [zeroT]
  · rename_i h0
    have h0' : (sectF bs 0 []).1.2 = 0 := by omega
    split
    · simp [zeroT]
    · split
      · simp [zeroT]
      · split
        · have h1 := scanF_len bs.length (entriesL (sectF bs 0 []).1.1).1 0 [] false
          have h2 := entriesL_le (sectF bs 0 []).1.1
          have h3 := (sectF_zero h0').2.1
          simp only [List.length_nil] at h1
          exact ⟨by simp only; omega, by simp only; rw [h3]; simp⟩
        · simp [zeroT]
theorem mbr0F_bad {bs : List UInt8} (h : (mbr0F bs).2 ≠ 0) : (mbr0F bs).1 = zeroT := by
  unfold mbr0F at h ⊢
  split
  · rfl
  · rename_i h0; rw [if_neg h0] at h
    split
    · rfl
    · rename_i h1; rw [if_neg h1] at h
      split
      · rfl
      · rename_i h2; rw [if_neg h2] at h
        split
        · rename_i h3; rw [if_pos h3] at h; simp at h
        · rfl
def kindM (t : TableV × Int) : Int := if t.2 = 0 then 1 else 0
def heldM (t : TableV × Int) : List (Int × Int) := if t.2 = 0 then normF t.1.held else []
def gapsM (len : Int) (t : TableV × Int) : List (Int × Int) := if t.2 = 0 then minusF (normF [(0, len)]) (normF (t.1.held ++ t.1.parts.map PartV.ext)) else []
theorem partsParse_ok (w : World) (A : Option Addr) (bs : List UInt8) (c : Nat) (hA : Has [] w A (enc bs)) (hb : bs.length ≤ 1000000000000) (hc : bs.length ≤ c) (nox : ∀ x ∈ (entriesL (sectF bs 0 []).1.1).1, x.type ≠ 5 ∧ x.type ≠ 15) (tb : TableV × Int) (htb : tb = mbr0F bs) (hng : tb.1.guard = false) :
    Ct Try.prog 14 [.iface 33 (.slice A bs.length c)] [] w (fun x : ((Option Nat × Nat) × (Option Nat × Nat)) × ((Option Nat × Nat) × (Option Nat × Nat)) × List PartV => .tuple #[.agg #[.int .i64 (kindM tb), rowV x.1.1.1 tb.1.parts.length x.1.1.2, rowV x.1.2.1 (heldM tb).length x.1.2.2, rowV x.2.1.1.1 (gapsM bs.length tb).length x.2.1.1.2, rowV x.1.1.1 tb.1.parts.length x.1.1.2, rowV x.2.1.2.1 tb.1.held.length x.2.1.2.2, .int .i64 tb.1.inner.1, .int .i64 tb.1.inner.2, .bool tb.1.guard, .int .i64 0, .int .i64 0, .int .i64 0, .int .u8 0, .int .u8 0, .int .u8 0, .int .u8 0, .int .u8 0, .int .u8 0, .int .u8 0, .int .u8 0, .int .u8 0, .int .u8 0, .int .u8 0, .int .u8 0, .int .u8 0, .int .u8 0, .int .u8 0, .int .u8 0, .slice none 0 0, .int .i64 0, .int .i64 0], .int .i64 tb.2]) (fun x : ((Option Nat × Nat) × (Option Nat × Nat)) × ((Option Nat × Nat) × (Option Nat × Nat)) × List PartV => x.2.2.Perm tb.1.parts ∧ x.2.2.Pairwise fun p q => p.ext.1 ≤ q.ext.1) (fun x : ((Option Nat × Nat) × (Option Nat × Nat)) × ((Option Nat × Nat) × (Option Nat × Nat)) × List PartV => [rowC x.1.1.1 tb.1.parts.length x.1.1.2 111 4 (enc x.2.2), rowC x.1.2.1 (heldM tb).length x.1.2.2 54 2 (enc (heldM tb)), rowC x.2.1.1.1 (gapsM bs.length tb).length x.2.1.1.2 54 2 (enc (gapsM bs.length tb)), rowC x.2.1.2.1 tb.1.held.length x.2.1.2.2 54 2 (enc tb.1.held)]) := by
  refine Ct.of_st Try.func14 rfl rfl (L := [(0, .iface 33 (.slice A bs.length c))]) ⟨rfl, trivial⟩ ?_
  have htl := mbr0F_len bs
  rw [← htb] at htl
  obtain ⟨htl1, htl2⟩ := htl
  refine st_seq ?_
  refine st_region rfl ?_
  refine sr_alloc rfl rfl rfl ze62 (fun b1 => ?_)
  refine sr_assign rfl rfl rfl rfl ?_
  refine sr_end ?_
  refine st_seq ?_
  refine st_seq ?_
  refine st_region rfl ?_
  refine sr_move rfl rfl rfl rfl ?_
  refine sr_bin rfl rfl rfl rfl rfl (b_ifaceNil if43) ?_
  refine sr_end ?_
  refine st_false rfl ?_
  refine st_skip ?_
  refine st_seq ?_
  refine st_region rfl ?_
  refine sr_move rfl rfl rfl rfl ?_
  refine sr_callM [] rfl rfl rfl rfl en48 rfl (fun w hh => mbrParse_ok w _ bs _ (hA.heap0 hh) hb (by omega) nox tb htb) ?_
  rintro ⟨⟨op1, cp1⟩, ⟨oh1, ch1⟩⟩ -
  refine sr_move rfl rfl rfl rfl ?_
  refine sr_extract rfl rfl rfl rfl rfl ?_
  refine sr_extract rfl rfl rfl rfl rfl ?_
  refine sr_alloc rfl rfl rfl ze56 (fun b2 => ?_)
  refine sr_store (k := 0) rfl rfl rfl rfl rfl sz56 rfl rfl rfl rfl ?_
  refine sr_assign rfl rfl rfl rfl ?_
  refine sr_end ?_
  refine st_seq ?_
  refine st_seq ?_
  refine st_region rfl ?_
  refine sr_move rfl rfl rfl rfl ?_
  refine sr_bin rfl rfl rfl rfl rfl b_neq ?_
  refine sr_end ?_
  refine st_if rfl (fun hq1 => ?_) (fun hq1 => ?_)
  · have hn1 : tb.2 ≠ 0 := (by simpa using hq1)
    clear hq1
    refine st_seq ?_
    refine st_region rfl ?_
    refine sr_build (cs := [.int .i64 0, .slice none 0 0, .slice none 0 0, .slice none 0 0, .slice none 0 0, .slice none 0 0, .int .i64 0, .int .i64 0, .bool false, .int .i64 0, .int .i64 0, .int .i64 0, .int .u8 0, .int .u8 0, .int .u8 0, .int .u8 0, .int .u8 0, .int .u8 0, .int .u8 0, .int .u8 0, .int .u8 0, .int .u8 0, .int .u8 0, .int .u8 0, .int .u8 0, .int .u8 0, .int .u8 0, .int .u8 0, .slice none 0 0, .int .i64 0, .int .i64 0]) rfl rfl rfl rfl (fun _ => by kernel_rfl) ?_
    refine sr_move rfl rfl rfl rfl ?_
    refine sr_store (k := 3) rfl rfl rfl rfl rfl sz62 rfl rfl rfl rfl ?_
    refine sr_assign rfl rfl rfl rfl ?_
    refine sr_end ?_
    refine st_nilrow 111 4 ?_
    refine st_nilrow 54 2 ?_
    refine st_nilrow 54 2 ?_
    refine st_nilrow 54 2 ?_
    have hz : tb.1 = zeroT := by rw [htb]; exact mbr0F_bad (by rw [← htb]; exact hn1)
    obtain ⟨t, e⟩ := tb
    simp only at hz hn1
    subst hz
    have hk : kindM (zeroT, e) = 0 := by unfold kindM; rw [if_neg hn1]
    have hh1 : heldM (zeroT, e) = [] := by unfold heldM; rw [if_neg hn1]
    have hh2 : gapsM bs.length (zeroT, e) = [] := by unfold gapsM; rw [if_neg hn1]
    simp only [hk, hh1, hh2]
    exact st_retX2 (((none, 0), (none, 0)), ((none, 0), (none, 0)), []) 7 [3, 2, 1, 0] Try.func14 rfl rfl rfl rfl ag62 sz62 rfl rfl rfl ⟨.refl _, .nil⟩ rfl
  · have hn1 : tb.2 = 0 := (by simpa using hq1)
    refine st_skip ?_
    refine st_seq ?_
    refine st_draw [] [cellsC b2 56 [rowV op1 tb.1.parts.length cp1, rowV oh1 tb.1.held.length ch1, .int .i64 tb.1.inner.1, .int .i64 tb.1.inner.2, .bool tb.1.guard]] follows_mixed rfl ?_
    refine sd_take [0] 0 rfl rfl rfl (fun _ => pv_fieldAddr (m := 0) rfl fd56_0 rfl) (by kernel_rfl) (by kernel_rfl) (by kernel_rfl) (by kernel_rfl) rfl ?_
    refine sd_take [0] 1 rfl rfl rfl (fun _ => pv_load1 (k := 0) rfl rfl ag52 rfl) (by kernel_rfl) (by kernel_rfl) (by kernel_rfl) (by kernel_rfl) rfl ?_
    refine sd_take [0] 2 rfl rfl rfl (fun _ => pv_fieldAddr (m := 1) rfl fd56_1 rfl) (by kernel_rfl) (by kernel_rfl) (by kernel_rfl) (by kernel_rfl) rfl ?_
    refine sd_take [0] 3 rfl rfl rfl (fun _ => pv_load1 (k := 0) rfl rfl ag34 rfl) (by kernel_rfl) (by kernel_rfl) (by kernel_rfl) (by kernel_rfl) rfl ?_
    refine sd_take [0] 5 rfl rfl rfl (fun _ => pv_loadN (k := 0) (vs := [rowV op1 tb.1.parts.length cp1, rowV oh1 tb.1.held.length ch1, .int .i64 tb.1.inner.1, .int .i64 tb.1.inner.2, .bool tb.1.guard]) rfl rfl ag56 sz56 rfl rfl) (by kernel_rfl) (by kernel_rfl) (by kernel_rfl) (by kernel_rfl) rfl ?_
    refine sd_two 4 7 (by kernel_rfl) ?_ ?_
    · skip
      refine sr_callM [] rfl rfl rfl rfl en44 rfl (fun w hh => Norm_ok w _ tb.1.held _ (rowC_has (hh.hp.get (i := 2) rfl)) (by omega)) ?_
      rintro ⟨o1, cap1⟩ -
      refine sd_next [1] rfl ?_
      refine sd_take [1] 6 rfl rfl rfl (fun _ => pv_build (cs := [.int .i64 1, rowV op1 tb.1.parts.length cp1, rowV o1 ((normF tb.1.held).length) cap1, .slice none 0 0, rowV op1 tb.1.parts.length cp1, rowV oh1 tb.1.held.length ch1, .int .i64 tb.1.inner.1, .int .i64 tb.1.inner.2, .bool tb.1.guard, .int .i64 0, .int .i64 0, .int .i64 0, .int .u8 0, .int .u8 0, .int .u8 0, .int .u8 0, .int .u8 0, .int .u8 0, .int .u8 0, .int .u8 0, .int .u8 0, .int .u8 0, .int .u8 0, .int .u8 0, .int .u8 0, .int .u8 0, .int .u8 0, .int .u8 0, .slice none 0 0, .int .i64 0, .int .i64 0]) rfl (fun _ => by kernel_rfl)) (by kernel_rfl) (by kernel_rfl) (by kernel_rfl) (by kernel_rfl) rfl ?_
      refine sd_one 7 (by kernel_rfl) ?_
      refine sr_alloc rfl rfl rfl ze62 (fun b3 => ?_)
      refine sd_next [2] rfl ?_
      refine sd_one 8 (by kernel_rfl) ?_
      refine sr_store (k := 0) rfl rfl rfl rfl rfl sz62 rfl rfl rfl rfl ?_
      refine sd_next [2] rfl ?_
      refine sd_end (by kernel_rfl) ?_
      refine st_seq ?_
      refine st_seq ?_
      refine st_region rfl ?_
      refine sr_fieldAddr (m := 4) rfl rfl rfl rfl fd56_3 rfl ?_
      refine sr_load1 (k := 2) rfl rfl rfl rfl rfl ag4 rfl ?_
      refine sr_end ?_
      refine st_if rfl (fun h => absurd h (by rw [hng]; simp)) (fun _h => ?_)
      refine st_skip ?_
      refine st_seq ?_
      refine st_region rfl ?_
      refine sr_fieldAddr (m := 1) rfl rfl rfl rfl fd62_1 rfl ?_
      refine sr_load1 (k := 0) rfl rfl rfl rfl rfl ag52 rfl ?_
      refine sr_callM [3] rfl rfl rfl rfl en53 rfl (fun w hh => SortP_ok w _ _ tb.1.parts (by omega)) ?_
      rintro ys1 hs1
      have hl_ys1 : ys1.length = tb.1.parts.length := hs1.1.length_eq
      refine sr_end ?_
      refine st_seq ?_
      refine st_region rfl ?_
      refine sr_fieldAddr (m := 2) rfl rfl rfl rfl fd62_2 rfl ?_
      refine sr_load1 (k := 1) rfl rfl rfl rfl rfl ag35 rfl ?_
      refine sr_assign rfl rfl rfl rfl ?_
      refine sr_end ?_
      refine st_seq ?_
      refine st_seq ?_
      refine st_region rfl ?_
      refine sr_fieldAddr (m := 1) rfl rfl rfl rfl fd62_1 rfl ?_
      refine sr_load1 (k := 1) rfl rfl rfl rfl rfl ag52 rfl ?_
      refine sr_len rfl rfl rfl rfl el52 ?_
      refine sr_move rfl rfl rfl rfl ?_
      refine sr_end ?_
      refine st_block ?_
      refine st_loop0 ?_
      refine st_seq ?_
      refine st_region rfl ?_
      refine sr_bin rfl rfl rfl rfl rfl b_lss ?_
      refine sr_end ?_
      refine st_seq ?_
      refine st_ifD rfl (fun q1 => ?_) (fun q1 => ?_)
      · skip
        refine st_skip ?_
        refine st_seq ?_
        refine st_block ?_
        refine st_seq ?_
        refine st_region rfl ?_
        refine rk_open (q := 0) rfl (by omega) (fun B1 eo1 => ?_)
        subst eo1
        refine sr_indexRowB rfl rfl rfl rfl rfl el52 (by omega) (by omega) ?_
        refine sr_loadRow (q := 0) (off := 0 * 4 + 0) rfl rfl rfl rfl rfl rfl (rdN (i := 0) (j := 0) ag111 sz111 (⟨(0, 0), 0, 0⟩ : PartV) [.int .i64 ((ys1.getD 0 (⟨(0, 0), 0, 0⟩ : PartV)).ext.1), .int .i64 ((ys1.getD 0 (⟨(0, 0), 0, 0⟩ : PartV)).ext.2), .int .i64 ((ys1.getD 0 (⟨(0, 0), 0, 0⟩ : PartV)).type), .int .i64 ((ys1.getD 0 (⟨(0, 0), 0, 0⟩ : PartV)).slot)] (by omega) rfl rfl) ?_
        refine sr_alloc rfl rfl rfl ze111 (fun b4 => ?_)
        refine sr_store (k := 0) rfl rfl rfl rfl rfl sz111 rfl rfl rfl rfl ?_
        refine sr_end ?_
        have hn3 := normF_len tb.1.held
        refine st_region rfl ?_
        refine sr_move rfl rfl rfl rfl ?_
        refine sr_fieldAddr (m := 0) rfl rfl rfl rfl fd111_0 rfl ?_
        refine sr_loadN (k := 0) (vs := [.int .i64 ((ys1.getD 0 (⟨(0, 0), 0, 0⟩ : PartV)).ext.1), .int .i64 ((ys1.getD 0 (⟨(0, 0), 0, 0⟩ : PartV)).ext.2)]) rfl rfl rfl rfl rfl ag54 sz54 rfl rfl ?_
        refine sr_buildSlice (vs := [.agg #[.int .i64 ((ys1.getD 0 (⟨(0, 0), 0, 0⟩ : PartV)).ext.1), .int .i64 ((ys1.getD 0 (⟨(0, 0), 0, 0⟩ : PartV)).ext.2)]]) (cs := enc ([((ys1.getD 0 (⟨(0, 0), 0, 0⟩ : PartV)).ext.1, (ys1.getD 0 (⟨(0, 0), 0, 0⟩ : PartV)).ext.2)] : List (Int × Int))) rfl rfl rfl rfl el34 rfl ze54 rfl (all_cons rfl all_nil) rfl rfl (fun b5 => ?_)
        refine sr_callM [] rfl rfl rfl rfl en44 rfl (fun w hh => Norm_ok w _ ([((ys1.getD 0 (⟨(0, 0), 0, 0⟩ : PartV)).ext.1, (ys1.getD 0 (⟨(0, 0), 0, 0⟩ : PartV)).ext.2)] : List (Int × Int)) _ (rowC_has (hh.hp.get (i := 0) rfl)) (by (try simp only [List.length_append, List.length_cons, List.length_nil, List.length_set, List.length_replicate, List.length_take, List.length_drop, List.length_map, List.length_range, bytesN_length, List.length_singleton] at *); omega)) ?_
        rintro ⟨o2, cap2⟩ -
        refine sr_buildSlice (vs := [rowV o1 ((normF tb.1.held).length) cap1, rowV o2 ((normF ([((ys1.getD 0 (⟨(0, 0), 0, 0⟩ : PartV)).ext.1, (ys1.getD 0 (⟨(0, 0), 0, 0⟩ : PartV)).ext.2)] : List (Int × Int))).length) cap2]) (cs := enc ([(⟨(o1).map fun g => ⟨g, 0, none⟩, normF tb.1.held, cap1⟩ : SetV), (⟨(o2).map fun g => ⟨g, 0, none⟩, normF ([((ys1.getD 0 (⟨(0, 0), 0, 0⟩ : PartV)).ext.1, (ys1.getD 0 (⟨(0, 0), 0, 0⟩ : PartV)).ext.2)] : List (Int × Int)), cap2⟩ : SetV)] : List SetV)) rfl rfl rfl rfl el169 rfl ze35 rfl (all_cons rfl (all_cons rfl all_nil)) rfl rfl (fun b6 => ?_)
        have hU1 := normF_len tb.1.held
        (try simp only [List.length_append, List.length_map, List.length_take, List.length_cons, List.length_nil] at hU1)
        have hU2 := normF_len ([((ys1.getD 0 (⟨(0, 0), 0, 0⟩ : PartV)).ext.1, (ys1.getD 0 (⟨(0, 0), 0, 0⟩ : PartV)).ext.2)] : List (Int × Int))
        (try simp only [List.length_append, List.length_map, List.length_take, List.length_cons, List.length_nil] at hU2)
        refine sr_callM [] rfl rfl rfl rfl en51 rfl (fun w hh => Union_ok w _ ([(⟨(o1).map fun g => ⟨g, 0, none⟩, normF tb.1.held, cap1⟩ : SetV), (⟨(o2).map fun g => ⟨g, 0, none⟩, normF ([((ys1.getD 0 (⟨(0, 0), 0, 0⟩ : PartV)).ext.1, (ys1.getD 0 (⟨(0, 0), 0, 0⟩ : PartV)).ext.2)] : List (Int × Int)), cap2⟩ : SetV)] : List SetV) _ (rowC_has (hh.hp.get (i := 0) rfl)) (two_has (rowC_has (hh.hp.get (i := 6) rfl)) (rowC_has (hh.hp.get (i := 1) rfl))) (by simp) (by simp only [List.flatMap_cons, List.flatMap_nil, List.append_nil, List.length_append]; omega)) ?_
        rintro ⟨o3, cap3⟩ -
        refine sr_assign rfl rfl rfl rfl ?_
        refine sr_end ?_
        refine st_inBlock ?_
        refine st_region rfl ?_
        refine sr_bin rfl rfl rfl rfl rfl (b_add (r := 1) (by decide)) ?_
        refine sr_move rfl rfl rfl rfl ?_
        refine sr_end ?_
        refine st_row 0 ((normF (tb.1.held ++ (ys1.take 1).map PartV.ext)).length) (enc (normF (tb.1.held ++ (ys1.take 1).map PartV.ext))) rfl (by rw [used_first (by omega)]) (congrArg enc (by rw [used_first (by omega)])) ?_
        refine st_val 9 rfl (congrArg (fun z => rowV o3 z cap3) (by rw [used_first (by omega)])) (v' := rowV o3 ((normF (tb.1.held ++ (ys1.take 1).map PartV.ext)).length) cap3) ?_
        refine st_inLoop3 [0, 4, 4, 4, 5, 5] (fun (k : Nat) (ro1 : Option Nat) (rc1 : Nat) => [(0, .iface 33 (.slice A bs.length c)), (2, .pointer (some ⟨b1, 0, none⟩)), (6, .pointer (some ⟨b3, 0, none⟩)), (9, rowV ro1 ((normF (tb.1.held ++ (ys1.take k).map PartV.ext)).length) rc1), (73, rowV (some B1) tb.1.parts.length cp1), (74, .int .i64 (tb.1.parts.length : Int)), (75, .int .i64 (k : Int))]) (fun (k : Nat) (ro1 : Option Nat) (rc1 : Nat) => [rowC ro1 ((normF (tb.1.held ++ (ys1.take k).map PartV.ext)).length) rc1 54 2 (enc (normF (tb.1.held ++ (ys1.take k).map PartV.ext))), rowC (some B1) tb.1.parts.length cp1 111 4 (enc ys1), cellsC b3 62 [.int .i64 1, rowV (some B1) tb.1.parts.length cp1, rowV o1 ((normF tb.1.held).length) cap1, .slice none 0 0, rowV (some B1) tb.1.parts.length cp1, rowV oh1 tb.1.held.length ch1, .int .i64 tb.1.inner.1, .int .i64 tb.1.inner.2, .bool tb.1.guard, .int .i64 0, .int .i64 0, .int .i64 0, .int .u8 0, .int .u8 0, .int .u8 0, .int .u8 0, .int .u8 0, .int .u8 0, .int .u8 0, .int .u8 0, .int .u8 0, .int .u8 0, .int .u8 0, .int .u8 0, .int .u8 0, .int .u8 0, .int .u8 0, .int .u8 0, .slice none 0 0, .int .i64 0, .int .i64 0], rowC o1 ((normF tb.1.held).length) cap1 54 2 (enc (normF tb.1.held)), rowC oh1 tb.1.held.length ch1 54 2 (enc tb.1.held), cellsC b1 62 [.int .i64 0, .slice none 0 0, .slice none 0 0, .slice none 0 0, .slice none 0 0, .slice none 0 0, .int .i64 0, .int .i64 0, .bool false, .int .i64 0, .int .i64 0, .int .i64 0, .int .u8 0, .int .u8 0, .int .u8 0, .int .u8 0, .int .u8 0, .int .u8 0, .int .u8 0, .int .u8 0, .int .u8 0, .int .u8 0, .int .u8 0, .int .u8 0, .int .u8 0, .int .u8 0, .int .u8 0, .int .u8 0, .slice none 0 0, .int .i64 0, .int .i64 0]]) (fun (k : Nat) (ro1 : Option Nat) (rc1 : Nat) => 1 ≤ k ∧ k ≤ ys1.length) (fun (k : Nat) (ro1 : Option Nat) (rc1 : Nat) => ys1.length - k) 1 o3 cap3 ⟨Nat.le_refl _, by omega⟩ ⟨rfl, rfl, rfl, rfl, rfl, rfl, rfl, trivial⟩ rfl (fun k ro1 rc1 hI1 hk1 => ?_)
        have hnu := normF_len (tb.1.held ++ (ys1.take k).map PartV.ext)
        rw [List.length_append, List.length_map, List.length_take] at hnu
        have hnx := normF_len [((ys1.getD k (⟨(0, 0), 0, 0⟩ : PartV)).ext.1, (ys1.getD k (⟨(0, 0), 0, 0⟩ : PartV)).ext.2)]
        rw [List.length_singleton] at hnx
        refine st_seq ?_
        refine st_region rfl ?_
        refine sr_bin rfl rfl rfl rfl rfl b_lss ?_
        refine sr_end ?_
        refine st_seq ?_
        refine st_ifD rfl (fun q2 => ?_) (fun q2 => ?_)
        · skip
          refine st_skip ?_
          refine st_seq ?_
          refine st_block ?_
          refine st_seq ?_
          refine st_region rfl ?_
          refine sr_indexRowB rfl rfl rfl rfl rfl el52 (by (try simp only [List.length_append, List.length_cons, List.length_nil, List.length_set, List.length_replicate, List.length_take, List.length_drop, List.length_map, List.length_range, bytesN_length, List.length_singleton] at *); omega) (by (try simp only [List.length_append, List.length_cons, List.length_nil, List.length_set, List.length_replicate, List.length_take, List.length_drop, List.length_map, List.length_range, bytesN_length, List.length_singleton] at *); omega) ?_
          refine sr_loadRow (q := 1) (off := k * 4 + 0) rfl rfl rfl rfl rfl rfl (rdN (i := k) (j := 0) ag111 sz111 (⟨(0, 0), 0, 0⟩ : PartV) [.int .i64 ((ys1.getD k (⟨(0, 0), 0, 0⟩ : PartV)).ext.1), .int .i64 ((ys1.getD k (⟨(0, 0), 0, 0⟩ : PartV)).ext.2), .int .i64 ((ys1.getD k (⟨(0, 0), 0, 0⟩ : PartV)).type), .int .i64 ((ys1.getD k (⟨(0, 0), 0, 0⟩ : PartV)).slot)] (by omega) rfl rfl) ?_
          refine sr_alloc rfl rfl rfl ze111 (fun b7 => ?_)
          refine sr_store (k := 0) rfl rfl rfl rfl rfl sz111 rfl rfl rfl rfl ?_
          refine sr_end ?_
          have hn3 := normF_len tb.1.held
          refine st_region rfl ?_
          refine sr_move rfl rfl rfl rfl ?_
          refine sr_fieldAddr (m := 0) rfl rfl rfl rfl fd111_0 rfl ?_
          refine sr_loadN (k := 0) (vs := [.int .i64 ((ys1.getD k (⟨(0, 0), 0, 0⟩ : PartV)).ext.1), .int .i64 ((ys1.getD k (⟨(0, 0), 0, 0⟩ : PartV)).ext.2)]) rfl rfl rfl rfl rfl ag54 sz54 rfl rfl ?_
          refine sr_buildSlice (vs := [.agg #[.int .i64 ((ys1.getD k (⟨(0, 0), 0, 0⟩ : PartV)).ext.1), .int .i64 ((ys1.getD k (⟨(0, 0), 0, 0⟩ : PartV)).ext.2)]]) (cs := enc ([((ys1.getD k (⟨(0, 0), 0, 0⟩ : PartV)).ext.1, (ys1.getD k (⟨(0, 0), 0, 0⟩ : PartV)).ext.2)] : List (Int × Int))) rfl rfl rfl rfl el34 rfl ze54 rfl (all_cons rfl all_nil) rfl rfl (fun b8 => ?_)
          refine sr_callM [] rfl rfl rfl rfl en44 rfl (fun w hh => Norm_ok w _ ([((ys1.getD k (⟨(0, 0), 0, 0⟩ : PartV)).ext.1, (ys1.getD k (⟨(0, 0), 0, 0⟩ : PartV)).ext.2)] : List (Int × Int)) _ (rowC_has (hh.hp.get (i := 0) rfl)) (by (try simp only [List.length_append, List.length_cons, List.length_nil, List.length_set, List.length_replicate, List.length_take, List.length_drop, List.length_map, List.length_range, bytesN_length, List.length_singleton] at *); omega)) ?_
          rintro ⟨o4, cap4⟩ -
          refine sr_buildSlice (vs := [rowV ro1 ((normF (tb.1.held ++ (ys1.take k).map PartV.ext)).length) rc1, rowV o4 ((normF ([((ys1.getD k (⟨(0, 0), 0, 0⟩ : PartV)).ext.1, (ys1.getD k (⟨(0, 0), 0, 0⟩ : PartV)).ext.2)] : List (Int × Int))).length) cap4]) (cs := enc ([(⟨(ro1).map fun g => ⟨g, 0, none⟩, normF (tb.1.held ++ (ys1.take k).map PartV.ext), rc1⟩ : SetV), (⟨(o4).map fun g => ⟨g, 0, none⟩, normF ([((ys1.getD k (⟨(0, 0), 0, 0⟩ : PartV)).ext.1, (ys1.getD k (⟨(0, 0), 0, 0⟩ : PartV)).ext.2)] : List (Int × Int)), cap4⟩ : SetV)] : List SetV)) rfl rfl rfl rfl el169 rfl ze35 rfl (all_cons rfl (all_cons rfl all_nil)) rfl rfl (fun b9 => ?_)
          have hU3 := normF_len (tb.1.held ++ (ys1.take k).map PartV.ext)
          (try simp only [List.length_append, List.length_map, List.length_take, List.length_cons, List.length_nil] at hU3)
          have hU4 := normF_len ([((ys1.getD k (⟨(0, 0), 0, 0⟩ : PartV)).ext.1, (ys1.getD k (⟨(0, 0), 0, 0⟩ : PartV)).ext.2)] : List (Int × Int))
          (try simp only [List.length_append, List.length_map, List.length_take, List.length_cons, List.length_nil] at hU4)
          refine sr_callM [] rfl rfl rfl rfl en51 rfl (fun w hh => Union_ok w _ ([(⟨(ro1).map fun g => ⟨g, 0, none⟩, normF (tb.1.held ++ (ys1.take k).map PartV.ext), rc1⟩ : SetV), (⟨(o4).map fun g => ⟨g, 0, none⟩, normF ([((ys1.getD k (⟨(0, 0), 0, 0⟩ : PartV)).ext.1, (ys1.getD k (⟨(0, 0), 0, 0⟩ : PartV)).ext.2)] : List (Int × Int)), cap4⟩ : SetV)] : List SetV) _ (rowC_has (hh.hp.get (i := 0) rfl)) (two_has (rowC_has (hh.hp.get (i := 4) rfl)) (rowC_has (hh.hp.get (i := 1) rfl))) (by simp) (by simp only [List.flatMap_cons, List.flatMap_nil, List.append_nil, List.length_append]; omega)) ?_
          rintro ⟨o5, cap5⟩ -
          refine sr_assign rfl rfl rfl rfl ?_
          refine sr_end ?_
          refine st_inBlock ?_
          refine st_region rfl ?_
          refine sr_bin rfl rfl rfl rfl rfl (b_addI (by (try simp only [List.length_append, List.length_cons, List.length_nil, List.length_set, List.length_replicate, List.length_take, List.length_drop, List.length_map, List.length_range, bytesN_length, List.length_singleton] at *); omega) (by (try simp only [List.length_append, List.length_cons, List.length_nil, List.length_set, List.length_replicate, List.length_take, List.length_drop, List.length_map, List.length_range, bytesN_length, List.length_singleton] at *); omega)) ?_
          refine sr_move rfl rfl rfl rfl ?_
          refine sr_end ?_
          have hks : k < ys1.length := (by omega)
          refine st_row 0 ((normF (tb.1.held ++ (ys1.take (k + 1)).map PartV.ext)).length) (enc (normF (tb.1.held ++ (ys1.take (k + 1)).map PartV.ext))) rfl (by rw [used_step hks]) (congrArg enc (by rw [used_step hks])) ?_
          refine st_val 9 rfl (congrArg (fun z => rowV o5 z cap5) (by rw [used_step hks])) (v' := rowV o5 ((normF (tb.1.held ++ (ys1.take (k + 1)).map PartV.ext)).length) cap5) ?_
          exact st_go [0, 5, 5, 5, 5, 5] (hk1 (k + 1) o5 cap5 (by omega) (by omega)) ⟨rfl, rfl, rfl, rfl, rfl, rfl, congrArg (fun z : Int => some (Value.int .i64 z)) (by omega), trivial⟩ rfl
        · skip
          refine st_exit rfl ?_
          refine st_seq ?_
          have hnu2 := normF_len tb.1.held
          have hnu3 := normF_len (tb.1.held ++ (ys1.take k).map PartV.ext)
          (try rw [List.length_append, List.length_map, List.length_take] at hnu3)
          have hn2 := normF_len [((0 : Int), (bs.length : Int))]
          rw [List.length_singleton] at hn2
          refine st_region rfl ?_
          refine sr_move rfl rfl rfl rfl ?_
          refine sr_invokeM [] rfl rfl rfl rfl rfl (meSize _) en147 rfl (fun w hh => Size_ok w _ _ _) ?_
          rintro ⟨⟩ -
          refine sr_build (cs := [.int .i64 0, .int .i64 (bs.length : Int)]) rfl rfl rfl rfl (fun _ => by kernel_rfl) ?_
          refine sr_buildSlice (vs := [.agg #[.int .i64 0, .int .i64 (bs.length : Int)]]) (cs := enc ([(0, (bs.length : Int))] : List (Int × Int))) rfl rfl rfl rfl el34 rfl ze54 rfl (all_cons rfl all_nil) rfl rfl (fun b10 => ?_)
          refine sr_callM [] rfl rfl rfl rfl en44 rfl (fun w hh => Norm_ok w _ ([(0, (bs.length : Int))] : List (Int × Int)) _ (rowC_has (hh.hp.get (i := 0) rfl)) (by (try simp only [List.length_append, List.length_cons, List.length_nil, List.length_set, List.length_replicate, List.length_take, List.length_drop, List.length_map, List.length_range, bytesN_length, List.length_singleton] at *); omega)) ?_
          rintro ⟨o6, cap6⟩ -
          refine sr_move rfl rfl rfl rfl ?_
          refine sr_callM [] rfl rfl rfl rfl en56 rfl (fun w hh => Minus_ok w _ (normF ([(0, (bs.length : Int))] : List (Int × Int))) _ _ (normF (tb.1.held ++ (ys1.take k).map PartV.ext)) _ (rowC_has (hh.hp.get (i := 0) rfl)) (rowC_has (hh.hp.get (i := 2) rfl)) (by omega) (by omega)) ?_
          rintro ⟨o7, cap7⟩ -
          refine sr_fieldAddr (m := 3) rfl rfl rfl rfl fd62_3 rfl ?_
          refine sr_store (k := 5) rfl rfl rfl rfl rfl sz35 rfl rfl rfl rfl ?_
          refine sr_end ?_
          refine st_seq ?_
          refine st_region rfl ?_
          refine sr_loadN (k := 5) (vs := [.int .i64 1, rowV (some B1) tb.1.parts.length cp1, rowV o1 ((normF tb.1.held).length) cap1, rowV o7 ((minusF (normF ([(0, (bs.length : Int))] : List (Int × Int))) (normF (tb.1.held ++ (ys1.take k).map PartV.ext))).length) cap7, rowV (some B1) tb.1.parts.length cp1, rowV oh1 tb.1.held.length ch1, .int .i64 tb.1.inner.1, .int .i64 tb.1.inner.2, .bool tb.1.guard, .int .i64 0, .int .i64 0, .int .i64 0, .int .u8 0, .int .u8 0, .int .u8 0, .int .u8 0, .int .u8 0, .int .u8 0, .int .u8 0, .int .u8 0, .int .u8 0, .int .u8 0, .int .u8 0, .int .u8 0, .int .u8 0, .int .u8 0, .int .u8 0, .int .u8 0, .slice none 0 0, .int .i64 0, .int .i64 0]) rfl rfl rfl rfl rfl ag62 sz62 rfl rfl ?_
          refine sr_store (k := 8) rfl rfl rfl rfl rfl sz62 rfl rfl rfl rfl ?_
          refine sr_assign rfl rfl rfl rfl ?_
          refine sr_end ?_
          have hk : kindM tb = 1 := by unfold kindM; rw [if_pos hn1]
          have hh1 : heldM tb = normF tb.1.held := by unfold heldM; rw [if_pos hn1]
          have hh2 : gapsM bs.length tb = minusF (normF ([(0, (bs.length : Int))] : List (Int × Int))) (normF (tb.1.held ++ (ys1.take k).map PartV.ext)) := by unfold gapsM; rw [if_pos hn1, ← norm_perm (List.Perm.append_left tb.1.held (hs1.1.map PartV.ext))]; rw [show k = ys1.length by omega, List.take_length]
          simp only [hk, hh1, hh2, hn1]
          exact st_retX2 ((((some B1), cp1), (o1, cap1)), ((o7, cap7), (oh1, ch1)), ys1) 8 [4, 5, 0, 4] Try.func14 rfl rfl rfl rfl ag62 sz62 rfl rfl rfl hs1 rfl
      · skip
        refine st_exit rfl ?_
        refine st_seq ?_
        have hnu2 := normF_len tb.1.held
        have hnu3 := normF_len (tb.1.held)
        (try rw [List.length_append, List.length_map, List.length_take] at hnu3)
        have hn2 := normF_len [((0 : Int), (bs.length : Int))]
        rw [List.length_singleton] at hn2
        refine st_region rfl ?_
        refine sr_move rfl rfl rfl rfl ?_
        refine sr_invokeM [] rfl rfl rfl rfl rfl (meSize _) en147 rfl (fun w hh => Size_ok w _ _ _) ?_
        rintro ⟨⟩ -
        refine sr_build (cs := [.int .i64 0, .int .i64 (bs.length : Int)]) rfl rfl rfl rfl (fun _ => by kernel_rfl) ?_
        refine sr_buildSlice (vs := [.agg #[.int .i64 0, .int .i64 (bs.length : Int)]]) (cs := enc ([(0, (bs.length : Int))] : List (Int × Int))) rfl rfl rfl rfl el34 rfl ze54 rfl (all_cons rfl all_nil) rfl rfl (fun b11 => ?_)
        refine sr_callM [] rfl rfl rfl rfl en44 rfl (fun w hh => Norm_ok w _ ([(0, (bs.length : Int))] : List (Int × Int)) _ (rowC_has (hh.hp.get (i := 0) rfl)) (by (try simp only [List.length_append, List.length_cons, List.length_nil, List.length_set, List.length_replicate, List.length_take, List.length_drop, List.length_map, List.length_range, bytesN_length, List.length_singleton] at *); omega)) ?_
        rintro ⟨o8, cap8⟩ -
        refine sr_move rfl rfl rfl rfl ?_
        refine sr_callM [] rfl rfl rfl rfl en56 rfl (fun w hh => Minus_ok w _ (normF ([(0, (bs.length : Int))] : List (Int × Int))) _ _ (normF tb.1.held) _ (rowC_has (hh.hp.get (i := 0) rfl)) (rowC_has (hh.hp.get (i := 4) rfl)) (by omega) (by omega)) ?_
        rintro ⟨o9, cap9⟩ -
        refine sr_fieldAddr (m := 3) rfl rfl rfl rfl fd62_3 rfl ?_
        refine sr_store (k := 4) rfl rfl rfl rfl rfl sz35 rfl rfl rfl rfl ?_
        refine sr_end ?_
        refine st_seq ?_
        refine st_region rfl ?_
        refine sr_loadN (k := 4) (vs := [.int .i64 1, rowV op1 tb.1.parts.length cp1, rowV o1 ((normF tb.1.held).length) cap1, rowV o9 ((minusF (normF ([(0, (bs.length : Int))] : List (Int × Int))) (normF tb.1.held)).length) cap9, rowV op1 tb.1.parts.length cp1, rowV oh1 tb.1.held.length ch1, .int .i64 tb.1.inner.1, .int .i64 tb.1.inner.2, .bool tb.1.guard, .int .i64 0, .int .i64 0, .int .i64 0, .int .u8 0, .int .u8 0, .int .u8 0, .int .u8 0, .int .u8 0, .int .u8 0, .int .u8 0, .int .u8 0, .int .u8 0, .int .u8 0, .int .u8 0, .int .u8 0, .int .u8 0, .int .u8 0, .int .u8 0, .int .u8 0, .slice none 0 0, .int .i64 0, .int .i64 0]) rfl rfl rfl rfl rfl ag62 sz62 rfl rfl ?_
        refine sr_store (k := 8) rfl rfl rfl rfl rfl sz62 rfl rfl rfl rfl ?_
        refine sr_assign rfl rfl rfl rfl ?_
        refine sr_end ?_
        have hk : kindM tb = 1 := by unfold kindM; rw [if_pos hn1]
        have hh1 : heldM tb = normF tb.1.held := by unfold heldM; rw [if_pos hn1]
        have hh2 : gapsM bs.length tb = minusF (normF ([(0, (bs.length : Int))] : List (Int × Int))) (normF tb.1.held) := by unfold gapsM; rw [if_pos hn1, ← norm_perm (List.Perm.append_left tb.1.held (hs1.1.map PartV.ext))]; rw [show ys1 = [] from List.length_eq_zero_iff.1 (by omega)]; simp
        simp only [hk, hh1, hh2, hn1]
        exact st_retX2 (((op1, cp1), (o1, cap1)), ((o9, cap9), (oh1, ch1)), ys1) 8 [3, 4, 0, 4] Try.func14 rfl rfl rfl rfl ag62 sz62 rfl rfl rfl hs1 rfl
    · skip
      refine sr_alloc rfl rfl rfl ze62 (fun b12 => ?_)
      refine sd_next [1] rfl ?_
      refine sd_one 4 (by kernel_rfl) ?_
      refine sr_callM [] rfl rfl rfl rfl en44 rfl (fun w hh => Norm_ok w _ tb.1.held _ (rowC_has (hh.hp.get (i := 3) rfl)) (by omega)) ?_
      rintro ⟨o10, cap10⟩ -
      refine sd_next [2] rfl ?_
      refine sd_take [2] 6 rfl rfl rfl (fun _ => pv_build (cs := [.int .i64 1, rowV op1 tb.1.parts.length cp1, rowV o10 ((normF tb.1.held).length) cap10, .slice none 0 0, rowV op1 tb.1.parts.length cp1, rowV oh1 tb.1.held.length ch1, .int .i64 tb.1.inner.1, .int .i64 tb.1.inner.2, .bool tb.1.guard, .int .i64 0, .int .i64 0, .int .i64 0, .int .u8 0, .int .u8 0, .int .u8 0, .int .u8 0, .int .u8 0, .int .u8 0, .int .u8 0, .int .u8 0, .int .u8 0, .int .u8 0, .int .u8 0, .int .u8 0, .int .u8 0, .int .u8 0, .int .u8 0, .int .u8 0, .slice none 0 0, .int .i64 0, .int .i64 0]) rfl (fun _ => by kernel_rfl)) (by kernel_rfl) (by kernel_rfl) (by kernel_rfl) (by kernel_rfl) rfl ?_
      refine sd_one 8 (by kernel_rfl) ?_
      refine sr_store (k := 1) rfl rfl rfl rfl rfl sz62 rfl rfl rfl rfl ?_
      refine sd_next [2] rfl ?_
      refine sd_end (by kernel_rfl) ?_
      refine st_seq ?_
      refine st_seq ?_
      refine st_region rfl ?_
      refine sr_fieldAddr (m := 4) rfl rfl rfl rfl fd56_3 rfl ?_
      refine sr_load1 (k := 2) rfl rfl rfl rfl rfl ag4 rfl ?_
      refine sr_end ?_
      refine st_if rfl (fun h => absurd h (by rw [hng]; simp)) (fun _h => ?_)
      refine st_skip ?_
      refine st_seq ?_
      refine st_region rfl ?_
      refine sr_fieldAddr (m := 1) rfl rfl rfl rfl fd62_1 rfl ?_
      refine sr_load1 (k := 1) rfl rfl rfl rfl rfl ag52 rfl ?_
      refine sr_callM [3] rfl rfl rfl rfl en53 rfl (fun w hh => SortP_ok w _ _ tb.1.parts (by omega)) ?_
      rintro ys1 hs1
      have hl_ys1 : ys1.length = tb.1.parts.length := hs1.1.length_eq
      refine sr_end ?_
      refine st_seq ?_
      refine st_region rfl ?_
      refine sr_fieldAddr (m := 2) rfl rfl rfl rfl fd62_2 rfl ?_
      refine sr_load1 (k := 2) rfl rfl rfl rfl rfl ag35 rfl ?_
      refine sr_assign rfl rfl rfl rfl ?_
      refine sr_end ?_
      refine st_seq ?_
      refine st_seq ?_
      refine st_region rfl ?_
      refine sr_fieldAddr (m := 1) rfl rfl rfl rfl fd62_1 rfl ?_
      refine sr_load1 (k := 2) rfl rfl rfl rfl rfl ag52 rfl ?_
      refine sr_len rfl rfl rfl rfl el52 ?_
      refine sr_move rfl rfl rfl rfl ?_
      refine sr_end ?_
      refine st_block ?_
      refine st_loop0 ?_
      refine st_seq ?_
      refine st_region rfl ?_
      refine sr_bin rfl rfl rfl rfl rfl b_lss ?_
      refine sr_end ?_
      refine st_seq ?_
      refine st_ifD rfl (fun q3 => ?_) (fun q3 => ?_)
      · skip
        refine st_skip ?_
        refine st_seq ?_
        refine st_block ?_
        refine st_seq ?_
        refine st_region rfl ?_
        refine rk_open (q := 0) rfl (by omega) (fun B2 eo2 => ?_)
        subst eo2
        refine sr_indexRowB rfl rfl rfl rfl rfl el52 (by omega) (by omega) ?_
        refine sr_loadRow (q := 0) (off := 0 * 4 + 0) rfl rfl rfl rfl rfl rfl (rdN (i := 0) (j := 0) ag111 sz111 (⟨(0, 0), 0, 0⟩ : PartV) [.int .i64 ((ys1.getD 0 (⟨(0, 0), 0, 0⟩ : PartV)).ext.1), .int .i64 ((ys1.getD 0 (⟨(0, 0), 0, 0⟩ : PartV)).ext.2), .int .i64 ((ys1.getD 0 (⟨(0, 0), 0, 0⟩ : PartV)).type), .int .i64 ((ys1.getD 0 (⟨(0, 0), 0, 0⟩ : PartV)).slot)] (by omega) rfl rfl) ?_
        refine sr_alloc rfl rfl rfl ze111 (fun b13 => ?_)
        refine sr_store (k := 0) rfl rfl rfl rfl rfl sz111 rfl rfl rfl rfl ?_
        refine sr_end ?_
        have hn3 := normF_len tb.1.held
        refine st_region rfl ?_
        refine sr_move rfl rfl rfl rfl ?_
        refine sr_fieldAddr (m := 0) rfl rfl rfl rfl fd111_0 rfl ?_
        refine sr_loadN (k := 0) (vs := [.int .i64 ((ys1.getD 0 (⟨(0, 0), 0, 0⟩ : PartV)).ext.1), .int .i64 ((ys1.getD 0 (⟨(0, 0), 0, 0⟩ : PartV)).ext.2)]) rfl rfl rfl rfl rfl ag54 sz54 rfl rfl ?_
        refine sr_buildSlice (vs := [.agg #[.int .i64 ((ys1.getD 0 (⟨(0, 0), 0, 0⟩ : PartV)).ext.1), .int .i64 ((ys1.getD 0 (⟨(0, 0), 0, 0⟩ : PartV)).ext.2)]]) (cs := enc ([((ys1.getD 0 (⟨(0, 0), 0, 0⟩ : PartV)).ext.1, (ys1.getD 0 (⟨(0, 0), 0, 0⟩ : PartV)).ext.2)] : List (Int × Int))) rfl rfl rfl rfl el34 rfl ze54 rfl (all_cons rfl all_nil) rfl rfl (fun b14 => ?_)
        refine sr_callM [] rfl rfl rfl rfl en44 rfl (fun w hh => Norm_ok w _ ([((ys1.getD 0 (⟨(0, 0), 0, 0⟩ : PartV)).ext.1, (ys1.getD 0 (⟨(0, 0), 0, 0⟩ : PartV)).ext.2)] : List (Int × Int)) _ (rowC_has (hh.hp.get (i := 0) rfl)) (by (try simp only [List.length_append, List.length_cons, List.length_nil, List.length_set, List.length_replicate, List.length_take, List.length_drop, List.length_map, List.length_range, bytesN_length, List.length_singleton] at *); omega)) ?_
        rintro ⟨o11, cap11⟩ -
        refine sr_buildSlice (vs := [rowV o10 ((normF tb.1.held).length) cap10, rowV o11 ((normF ([((ys1.getD 0 (⟨(0, 0), 0, 0⟩ : PartV)).ext.1, (ys1.getD 0 (⟨(0, 0), 0, 0⟩ : PartV)).ext.2)] : List (Int × Int))).length) cap11]) (cs := enc ([(⟨(o10).map fun g => ⟨g, 0, none⟩, normF tb.1.held, cap10⟩ : SetV), (⟨(o11).map fun g => ⟨g, 0, none⟩, normF ([((ys1.getD 0 (⟨(0, 0), 0, 0⟩ : PartV)).ext.1, (ys1.getD 0 (⟨(0, 0), 0, 0⟩ : PartV)).ext.2)] : List (Int × Int)), cap11⟩ : SetV)] : List SetV)) rfl rfl rfl rfl el169 rfl ze35 rfl (all_cons rfl (all_cons rfl all_nil)) rfl rfl (fun b15 => ?_)
        have hU5 := normF_len tb.1.held
        (try simp only [List.length_append, List.length_map, List.length_take, List.length_cons, List.length_nil] at hU5)
        have hU6 := normF_len ([((ys1.getD 0 (⟨(0, 0), 0, 0⟩ : PartV)).ext.1, (ys1.getD 0 (⟨(0, 0), 0, 0⟩ : PartV)).ext.2)] : List (Int × Int))
        (try simp only [List.length_append, List.length_map, List.length_take, List.length_cons, List.length_nil] at hU6)
        refine sr_callM [] rfl rfl rfl rfl en51 rfl (fun w hh => Union_ok w _ ([(⟨(o10).map fun g => ⟨g, 0, none⟩, normF tb.1.held, cap10⟩ : SetV), (⟨(o11).map fun g => ⟨g, 0, none⟩, normF ([((ys1.getD 0 (⟨(0, 0), 0, 0⟩ : PartV)).ext.1, (ys1.getD 0 (⟨(0, 0), 0, 0⟩ : PartV)).ext.2)] : List (Int × Int)), cap11⟩ : SetV)] : List SetV) _ (rowC_has (hh.hp.get (i := 0) rfl)) (two_has (rowC_has (hh.hp.get (i := 5) rfl)) (rowC_has (hh.hp.get (i := 1) rfl))) (by simp) (by simp only [List.flatMap_cons, List.flatMap_nil, List.append_nil, List.length_append]; omega)) ?_
        rintro ⟨o12, cap12⟩ -
        refine sr_assign rfl rfl rfl rfl ?_
        refine sr_end ?_
        refine st_inBlock ?_
        refine st_region rfl ?_
        refine sr_bin rfl rfl rfl rfl rfl (b_add (r := 1) (by decide)) ?_
        refine sr_move rfl rfl rfl rfl ?_
        refine sr_end ?_
        refine st_row 0 ((normF (tb.1.held ++ (ys1.take 1).map PartV.ext)).length) (enc (normF (tb.1.held ++ (ys1.take 1).map PartV.ext))) rfl (by rw [used_first (by omega)]) (congrArg enc (by rw [used_first (by omega)])) ?_
        refine st_val 9 rfl (congrArg (fun z => rowV o12 z cap12) (by rw [used_first (by omega)])) (v' := rowV o12 ((normF (tb.1.held ++ (ys1.take 1).map PartV.ext)).length) cap12) ?_
        refine st_inLoop3 [0, 4, 4, 4, 5, 5] (fun (k : Nat) (ro2 : Option Nat) (rc2 : Nat) => [(0, .iface 33 (.slice A bs.length c)), (2, .pointer (some ⟨b1, 0, none⟩)), (6, .pointer (some ⟨b12, 0, none⟩)), (9, rowV ro2 ((normF (tb.1.held ++ (ys1.take k).map PartV.ext)).length) rc2), (73, rowV (some B2) tb.1.parts.length cp1), (74, .int .i64 (tb.1.parts.length : Int)), (75, .int .i64 (k : Int))]) (fun (k : Nat) (ro2 : Option Nat) (rc2 : Nat) => [rowC ro2 ((normF (tb.1.held ++ (ys1.take k).map PartV.ext)).length) rc2 54 2 (enc (normF (tb.1.held ++ (ys1.take k).map PartV.ext))), rowC (some B2) tb.1.parts.length cp1 111 4 (enc ys1), rowC o10 ((normF tb.1.held).length) cap10 54 2 (enc (normF tb.1.held)), cellsC b12 62 [.int .i64 1, rowV (some B2) tb.1.parts.length cp1, rowV o10 ((normF tb.1.held).length) cap10, .slice none 0 0, rowV (some B2) tb.1.parts.length cp1, rowV oh1 tb.1.held.length ch1, .int .i64 tb.1.inner.1, .int .i64 tb.1.inner.2, .bool tb.1.guard, .int .i64 0, .int .i64 0, .int .i64 0, .int .u8 0, .int .u8 0, .int .u8 0, .int .u8 0, .int .u8 0, .int .u8 0, .int .u8 0, .int .u8 0, .int .u8 0, .int .u8 0, .int .u8 0, .int .u8 0, .int .u8 0, .int .u8 0, .int .u8 0, .int .u8 0, .slice none 0 0, .int .i64 0, .int .i64 0], rowC oh1 tb.1.held.length ch1 54 2 (enc tb.1.held), cellsC b1 62 [.int .i64 0, .slice none 0 0, .slice none 0 0, .slice none 0 0, .slice none 0 0, .slice none 0 0, .int .i64 0, .int .i64 0, .bool false, .int .i64 0, .int .i64 0, .int .i64 0, .int .u8 0, .int .u8 0, .int .u8 0, .int .u8 0, .int .u8 0, .int .u8 0, .int .u8 0, .int .u8 0, .int .u8 0, .int .u8 0, .int .u8 0, .int .u8 0, .int .u8 0, .int .u8 0, .int .u8 0, .int .u8 0, .slice none 0 0, .int .i64 0, .int .i64 0]]) (fun (k : Nat) (ro2 : Option Nat) (rc2 : Nat) => 1 ≤ k ∧ k ≤ ys1.length) (fun (k : Nat) (ro2 : Option Nat) (rc2 : Nat) => ys1.length - k) 1 o12 cap12 ⟨Nat.le_refl _, by omega⟩ ⟨rfl, rfl, rfl, rfl, rfl, rfl, rfl, trivial⟩ rfl (fun k ro2 rc2 hI2 hk2 => ?_)
        have hnu := normF_len (tb.1.held ++ (ys1.take k).map PartV.ext)
        rw [List.length_append, List.length_map, List.length_take] at hnu
        have hnx := normF_len [((ys1.getD k (⟨(0, 0), 0, 0⟩ : PartV)).ext.1, (ys1.getD k (⟨(0, 0), 0, 0⟩ : PartV)).ext.2)]
        rw [List.length_singleton] at hnx
        refine st_seq ?_
        refine st_region rfl ?_
        refine sr_bin rfl rfl rfl rfl rfl b_lss ?_
        refine sr_end ?_
        refine st_seq ?_
        refine st_ifD rfl (fun q4 => ?_) (fun q4 => ?_)
        · skip
          refine st_skip ?_
          refine st_seq ?_
          refine st_block ?_
          refine st_seq ?_
          refine st_region rfl ?_
          refine sr_indexRowB rfl rfl rfl rfl rfl el52 (by (try simp only [List.length_append, List.length_cons, List.length_nil, List.length_set, List.length_replicate, List.length_take, List.length_drop, List.length_map, List.length_range, bytesN_length, List.length_singleton] at *); omega) (by (try simp only [List.length_append, List.length_cons, List.length_nil, List.length_set, List.length_replicate, List.length_take, List.length_drop, List.length_map, List.length_range, bytesN_length, List.length_singleton] at *); omega) ?_
          refine sr_loadRow (q := 1) (off := k * 4 + 0) rfl rfl rfl rfl rfl rfl (rdN (i := k) (j := 0) ag111 sz111 (⟨(0, 0), 0, 0⟩ : PartV) [.int .i64 ((ys1.getD k (⟨(0, 0), 0, 0⟩ : PartV)).ext.1), .int .i64 ((ys1.getD k (⟨(0, 0), 0, 0⟩ : PartV)).ext.2), .int .i64 ((ys1.getD k (⟨(0, 0), 0, 0⟩ : PartV)).type), .int .i64 ((ys1.getD k (⟨(0, 0), 0, 0⟩ : PartV)).slot)] (by omega) rfl rfl) ?_
          refine sr_alloc rfl rfl rfl ze111 (fun b16 => ?_)
          refine sr_store (k := 0) rfl rfl rfl rfl rfl sz111 rfl rfl rfl rfl ?_
          refine sr_end ?_
          have hn3 := normF_len tb.1.held
          refine st_region rfl ?_
          refine sr_move rfl rfl rfl rfl ?_
          refine sr_fieldAddr (m := 0) rfl rfl rfl rfl fd111_0 rfl ?_
          refine sr_loadN (k := 0) (vs := [.int .i64 ((ys1.getD k (⟨(0, 0), 0, 0⟩ : PartV)).ext.1), .int .i64 ((ys1.getD k (⟨(0, 0), 0, 0⟩ : PartV)).ext.2)]) rfl rfl rfl rfl rfl ag54 sz54 rfl rfl ?_
          refine sr_buildSlice (vs := [.agg #[.int .i64 ((ys1.getD k (⟨(0, 0), 0, 0⟩ : PartV)).ext.1), .int .i64 ((ys1.getD k (⟨(0, 0), 0, 0⟩ : PartV)).ext.2)]]) (cs := enc ([((ys1.getD k (⟨(0, 0), 0, 0⟩ : PartV)).ext.1, (ys1.getD k (⟨(0, 0), 0, 0⟩ : PartV)).ext.2)] : List (Int × Int))) rfl rfl rfl rfl el34 rfl ze54 rfl (all_cons rfl all_nil) rfl rfl (fun b17 => ?_)
          refine sr_callM [] rfl rfl rfl rfl en44 rfl (fun w hh => Norm_ok w _ ([((ys1.getD k (⟨(0, 0), 0, 0⟩ : PartV)).ext.1, (ys1.getD k (⟨(0, 0), 0, 0⟩ : PartV)).ext.2)] : List (Int × Int)) _ (rowC_has (hh.hp.get (i := 0) rfl)) (by (try simp only [List.length_append, List.length_cons, List.length_nil, List.length_set, List.length_replicate, List.length_take, List.length_drop, List.length_map, List.length_range, bytesN_length, List.length_singleton] at *); omega)) ?_
          rintro ⟨o13, cap13⟩ -
          refine sr_buildSlice (vs := [rowV ro2 ((normF (tb.1.held ++ (ys1.take k).map PartV.ext)).length) rc2, rowV o13 ((normF ([((ys1.getD k (⟨(0, 0), 0, 0⟩ : PartV)).ext.1, (ys1.getD k (⟨(0, 0), 0, 0⟩ : PartV)).ext.2)] : List (Int × Int))).length) cap13]) (cs := enc ([(⟨(ro2).map fun g => ⟨g, 0, none⟩, normF (tb.1.held ++ (ys1.take k).map PartV.ext), rc2⟩ : SetV), (⟨(o13).map fun g => ⟨g, 0, none⟩, normF ([((ys1.getD k (⟨(0, 0), 0, 0⟩ : PartV)).ext.1, (ys1.getD k (⟨(0, 0), 0, 0⟩ : PartV)).ext.2)] : List (Int × Int)), cap13⟩ : SetV)] : List SetV)) rfl rfl rfl rfl el169 rfl ze35 rfl (all_cons rfl (all_cons rfl all_nil)) rfl rfl (fun b18 => ?_)
          have hU7 := normF_len (tb.1.held ++ (ys1.take k).map PartV.ext)
          (try simp only [List.length_append, List.length_map, List.length_take, List.length_cons, List.length_nil] at hU7)
          have hU8 := normF_len ([((ys1.getD k (⟨(0, 0), 0, 0⟩ : PartV)).ext.1, (ys1.getD k (⟨(0, 0), 0, 0⟩ : PartV)).ext.2)] : List (Int × Int))
          (try simp only [List.length_append, List.length_map, List.length_take, List.length_cons, List.length_nil] at hU8)
          refine sr_callM [] rfl rfl rfl rfl en51 rfl (fun w hh => Union_ok w _ ([(⟨(ro2).map fun g => ⟨g, 0, none⟩, normF (tb.1.held ++ (ys1.take k).map PartV.ext), rc2⟩ : SetV), (⟨(o13).map fun g => ⟨g, 0, none⟩, normF ([((ys1.getD k (⟨(0, 0), 0, 0⟩ : PartV)).ext.1, (ys1.getD k (⟨(0, 0), 0, 0⟩ : PartV)).ext.2)] : List (Int × Int)), cap13⟩ : SetV)] : List SetV) _ (rowC_has (hh.hp.get (i := 0) rfl)) (two_has (rowC_has (hh.hp.get (i := 4) rfl)) (rowC_has (hh.hp.get (i := 1) rfl))) (by simp) (by simp only [List.flatMap_cons, List.flatMap_nil, List.append_nil, List.length_append]; omega)) ?_
          rintro ⟨o14, cap14⟩ -
          refine sr_assign rfl rfl rfl rfl ?_
          refine sr_end ?_
          refine st_inBlock ?_
          refine st_region rfl ?_
          refine sr_bin rfl rfl rfl rfl rfl (b_addI (by (try simp only [List.length_append, List.length_cons, List.length_nil, List.length_set, List.length_replicate, List.length_take, List.length_drop, List.length_map, List.length_range, bytesN_length, List.length_singleton] at *); omega) (by (try simp only [List.length_append, List.length_cons, List.length_nil, List.length_set, List.length_replicate, List.length_take, List.length_drop, List.length_map, List.length_range, bytesN_length, List.length_singleton] at *); omega)) ?_
          refine sr_move rfl rfl rfl rfl ?_
          refine sr_end ?_
          have hks : k < ys1.length := (by omega)
          refine st_row 0 ((normF (tb.1.held ++ (ys1.take (k + 1)).map PartV.ext)).length) (enc (normF (tb.1.held ++ (ys1.take (k + 1)).map PartV.ext))) rfl (by rw [used_step hks]) (congrArg enc (by rw [used_step hks])) ?_
          refine st_val 9 rfl (congrArg (fun z => rowV o14 z cap14) (by rw [used_step hks])) (v' := rowV o14 ((normF (tb.1.held ++ (ys1.take (k + 1)).map PartV.ext)).length) cap14) ?_
          exact st_go [0, 5, 5, 5, 5, 5] (hk2 (k + 1) o14 cap14 (by omega) (by omega)) ⟨rfl, rfl, rfl, rfl, rfl, rfl, congrArg (fun z : Int => some (Value.int .i64 z)) (by omega), trivial⟩ rfl
        · skip
          refine st_exit rfl ?_
          refine st_seq ?_
          have hnu2 := normF_len tb.1.held
          have hnu3 := normF_len (tb.1.held ++ (ys1.take k).map PartV.ext)
          (try rw [List.length_append, List.length_map, List.length_take] at hnu3)
          have hn2 := normF_len [((0 : Int), (bs.length : Int))]
          rw [List.length_singleton] at hn2
          refine st_region rfl ?_
          refine sr_move rfl rfl rfl rfl ?_
          refine sr_invokeM [] rfl rfl rfl rfl rfl (meSize _) en147 rfl (fun w hh => Size_ok w _ _ _) ?_
          rintro ⟨⟩ -
          refine sr_build (cs := [.int .i64 0, .int .i64 (bs.length : Int)]) rfl rfl rfl rfl (fun _ => by kernel_rfl) ?_
          refine sr_buildSlice (vs := [.agg #[.int .i64 0, .int .i64 (bs.length : Int)]]) (cs := enc ([(0, (bs.length : Int))] : List (Int × Int))) rfl rfl rfl rfl el34 rfl ze54 rfl (all_cons rfl all_nil) rfl rfl (fun b19 => ?_)
          refine sr_callM [] rfl rfl rfl rfl en44 rfl (fun w hh => Norm_ok w _ ([(0, (bs.length : Int))] : List (Int × Int)) _ (rowC_has (hh.hp.get (i := 0) rfl)) (by (try simp only [List.length_append, List.length_cons, List.length_nil, List.length_set, List.length_replicate, List.length_take, List.length_drop, List.length_map, List.length_range, bytesN_length, List.length_singleton] at *); omega)) ?_
          rintro ⟨o15, cap15⟩ -
          refine sr_move rfl rfl rfl rfl ?_
          refine sr_callM [] rfl rfl rfl rfl en56 rfl (fun w hh => Minus_ok w _ (normF ([(0, (bs.length : Int))] : List (Int × Int))) _ _ (normF (tb.1.held ++ (ys1.take k).map PartV.ext)) _ (rowC_has (hh.hp.get (i := 0) rfl)) (rowC_has (hh.hp.get (i := 2) rfl)) (by omega) (by omega)) ?_
          rintro ⟨o16, cap16⟩ -
          refine sr_fieldAddr (m := 3) rfl rfl rfl rfl fd62_3 rfl ?_
          refine sr_store (k := 6) rfl rfl rfl rfl rfl sz35 rfl rfl rfl rfl ?_
          refine sr_end ?_
          refine st_seq ?_
          refine st_region rfl ?_
          refine sr_loadN (k := 6) (vs := [.int .i64 1, rowV (some B2) tb.1.parts.length cp1, rowV o10 ((normF tb.1.held).length) cap10, rowV o16 ((minusF (normF ([(0, (bs.length : Int))] : List (Int × Int))) (normF (tb.1.held ++ (ys1.take k).map PartV.ext))).length) cap16, rowV (some B2) tb.1.parts.length cp1, rowV oh1 tb.1.held.length ch1, .int .i64 tb.1.inner.1, .int .i64 tb.1.inner.2, .bool tb.1.guard, .int .i64 0, .int .i64 0, .int .i64 0, .int .u8 0, .int .u8 0, .int .u8 0, .int .u8 0, .int .u8 0, .int .u8 0, .int .u8 0, .int .u8 0, .int .u8 0, .int .u8 0, .int .u8 0, .int .u8 0, .int .u8 0, .int .u8 0, .int .u8 0, .int .u8 0, .slice none 0 0, .int .i64 0, .int .i64 0]) rfl rfl rfl rfl rfl ag62 sz62 rfl rfl ?_
          refine sr_store (k := 8) rfl rfl rfl rfl rfl sz62 rfl rfl rfl rfl ?_
          refine sr_assign rfl rfl rfl rfl ?_
          refine sr_end ?_
          have hk : kindM tb = 1 := by unfold kindM; rw [if_pos hn1]
          have hh1 : heldM tb = normF tb.1.held := by unfold heldM; rw [if_pos hn1]
          have hh2 : gapsM bs.length tb = minusF (normF ([(0, (bs.length : Int))] : List (Int × Int))) (normF (tb.1.held ++ (ys1.take k).map PartV.ext)) := by unfold gapsM; rw [if_pos hn1, ← norm_perm (List.Perm.append_left tb.1.held (hs1.1.map PartV.ext))]; rw [show k = ys1.length by omega, List.take_length]
          simp only [hk, hh1, hh2, hn1]
          exact st_retX2 ((((some B2), cp1), (o10, cap10)), ((o16, cap16), (oh1, ch1)), ys1) 8 [4, 4, 0, 4] Try.func14 rfl rfl rfl rfl ag62 sz62 rfl rfl rfl hs1 rfl
      · skip
        refine st_exit rfl ?_
        refine st_seq ?_
        have hnu2 := normF_len tb.1.held
        have hnu3 := normF_len (tb.1.held)
        (try rw [List.length_append, List.length_map, List.length_take] at hnu3)
        have hn2 := normF_len [((0 : Int), (bs.length : Int))]
        rw [List.length_singleton] at hn2
        refine st_region rfl ?_
        refine sr_move rfl rfl rfl rfl ?_
        refine sr_invokeM [] rfl rfl rfl rfl rfl (meSize _) en147 rfl (fun w hh => Size_ok w _ _ _) ?_
        rintro ⟨⟩ -
        refine sr_build (cs := [.int .i64 0, .int .i64 (bs.length : Int)]) rfl rfl rfl rfl (fun _ => by kernel_rfl) ?_
        refine sr_buildSlice (vs := [.agg #[.int .i64 0, .int .i64 (bs.length : Int)]]) (cs := enc ([(0, (bs.length : Int))] : List (Int × Int))) rfl rfl rfl rfl el34 rfl ze54 rfl (all_cons rfl all_nil) rfl rfl (fun b20 => ?_)
        refine sr_callM [] rfl rfl rfl rfl en44 rfl (fun w hh => Norm_ok w _ ([(0, (bs.length : Int))] : List (Int × Int)) _ (rowC_has (hh.hp.get (i := 0) rfl)) (by (try simp only [List.length_append, List.length_cons, List.length_nil, List.length_set, List.length_replicate, List.length_take, List.length_drop, List.length_map, List.length_range, bytesN_length, List.length_singleton] at *); omega)) ?_
        rintro ⟨o17, cap17⟩ -
        refine sr_move rfl rfl rfl rfl ?_
        refine sr_callM [] rfl rfl rfl rfl en56 rfl (fun w hh => Minus_ok w _ (normF ([(0, (bs.length : Int))] : List (Int × Int))) _ _ (normF tb.1.held) _ (rowC_has (hh.hp.get (i := 0) rfl)) (rowC_has (hh.hp.get (i := 3) rfl)) (by omega) (by omega)) ?_
        rintro ⟨o18, cap18⟩ -
        refine sr_fieldAddr (m := 3) rfl rfl rfl rfl fd62_3 rfl ?_
        refine sr_store (k := 5) rfl rfl rfl rfl rfl sz35 rfl rfl rfl rfl ?_
        refine sr_end ?_
        refine st_seq ?_
        refine st_region rfl ?_
        refine sr_loadN (k := 5) (vs := [.int .i64 1, rowV op1 tb.1.parts.length cp1, rowV o10 ((normF tb.1.held).length) cap10, rowV o18 ((minusF (normF ([(0, (bs.length : Int))] : List (Int × Int))) (normF tb.1.held)).length) cap18, rowV op1 tb.1.parts.length cp1, rowV oh1 tb.1.held.length ch1, .int .i64 tb.1.inner.1, .int .i64 tb.1.inner.2, .bool tb.1.guard, .int .i64 0, .int .i64 0, .int .i64 0, .int .u8 0, .int .u8 0, .int .u8 0, .int .u8 0, .int .u8 0, .int .u8 0, .int .u8 0, .int .u8 0, .int .u8 0, .int .u8 0, .int .u8 0, .int .u8 0, .int .u8 0, .int .u8 0, .int .u8 0, .int .u8 0, .slice none 0 0, .int .i64 0, .int .i64 0]) rfl rfl rfl rfl rfl ag62 sz62 rfl rfl ?_
        refine sr_store (k := 8) rfl rfl rfl rfl rfl sz62 rfl rfl rfl rfl ?_
        refine sr_assign rfl rfl rfl rfl ?_
        refine sr_end ?_
        have hk : kindM tb = 1 := by unfold kindM; rw [if_pos hn1]
        have hh1 : heldM tb = normF tb.1.held := by unfold heldM; rw [if_pos hn1]
        have hh2 : gapsM bs.length tb = minusF (normF ([(0, (bs.length : Int))] : List (Int × Int))) (normF tb.1.held) := by unfold gapsM; rw [if_pos hn1, ← norm_perm (List.Perm.append_left tb.1.held (hs1.1.map PartV.ext))]; rw [show ys1 = [] from List.length_eq_zero_iff.1 (by omega)]; simp
        simp only [hk, hh1, hh2, hn1]
        exact st_retX2 (((op1, cp1), (o10, cap10)), ((o18, cap18), (oh1, ch1)), ys1) 8 [3, 3, 0, 4] Try.func14 rfl rfl rfl rfl ag62 sz62 rfl rfl rfl hs1 rfl

end Try
end Go.Sl
