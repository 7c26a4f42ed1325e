/- A part of the proof: words and contracts that the row is built on. -/
import Derived.Test.YtjngkghhdphfcaaG13
namespace Go.Sl
open Go.RowKit Go.Proofs
set_option linter.unusedVariables false
set_option linter.unusedSimpArgs false
set_option maxRecDepth 10000
namespace Try
theorem en12 : entB Try.prog 12 = true := by kernel_rfl
theorem en13 : entB Try.prog 13 = true := by kernel_rfl
theorem en14 : entB Try.prog 14 = true := by kernel_rfl
theorem en15 : entB Try.prog 15 = true := by kernel_rfl
theorem en16 : entB Try.prog 16 = true := by kernel_rfl
theorem en17 : entB Try.prog 17 = true := by kernel_rfl
theorem en33 : entB Try.prog 33 = true := by kernel_rfl
theorem en46 : entB Try.prog 46 = true := by kernel_rfl
theorem en47 : entB Try.prog 47 = true := by kernel_rfl
theorem fd49_1 : fldOf Try.prog 49 1 = some 1 := by kernel_rfl
theorem fd49_2 : fldOf Try.prog 49 2 = some 2 := by kernel_rfl
theorem fd49_3 : fldOf Try.prog 49 3 = some 3 := by kernel_rfl
def mapR : List UInt8 := rowL 12 8 40 ++ (List.replicate 48 (0 : UInt8) ++ [(85 : UInt8), (170 : UInt8)])
def mapD : List UInt8 := withB (List.replicate 51200 (0 : UInt8)) 446 mapR
theorem mapR_len : mapR.length = 66 := by kernel_rfl
theorem mapD_len : mapD.length = 51200 := by
  unfold mapD withB; simp only [List.length_append, List.length_take, List.length_drop, List.length_replicate, mapR_len]; omega
theorem mapD_sect : sectF mapD 0 [] = ((List.replicate 446 (0 : UInt8) ++ mapR, 0), [(0, 512)]) := by
  unfold sectF
  rw [if_neg (by rw [mapD_len]; omega)]
  have h : mapD.take 512 = List.replicate 446 (0 : UInt8) ++ mapR := by
    unfold mapD withB
    rw [List.take_append_of_le_length (by simp only [List.length_append, List.length_take, List.length_replicate, mapR_len]; omega), List.take_of_length_le (by simp only [List.length_append, List.length_take, List.length_replicate, mapR_len]; omega), List.take_replicate]
    rfl
  simpa using h
theorem mapD_ent : entriesL (List.replicate 446 (0 : UInt8) ++ mapR) = ([⟨12, 8, 40⟩, ⟨0, 0, 0⟩, ⟨0, 0, 0⟩, ⟨0, 0, 0⟩], 0) := by kernel_rfl
def mapP : PartV := ⟨(4096, 24576), 12, 0⟩
def mapT : TableV × Int := (⟨[mapP], [(0, 512)], (0, 0), false⟩, 0)
theorem map_scan : scanF 51200 [⟨12, 8, 40⟩, ⟨0, 0, 0⟩, ⟨0, 0, 0⟩, ⟨0, 0, 0⟩] 0 [] false = (0, [mapP], false) := by kernel_rfl
theorem map_ap1 : apartF ([mapP].map PartV.ext) = true := by kernel_rfl
theorem map_ap2 : apartF ([(0, 512)] ++ [mapP].map PartV.ext) = true := by kernel_rfl
theorem mapD_mbr : mapT = mbr0F mapD := by
  unfold mbr0F
  rw [mapD_sect, mapD_ent, mapD_len]
  simp only [ne_eq, not_true, if_false]
  rw [show ((51200 : Nat) : Int) = 51200 from rfl, map_scan]
  simp only [ne_eq, not_true, if_false]
  rw [if_pos ⟨map_ap1, map_ap2⟩]; rfl
theorem mapD_nox : ∀ x ∈ (entriesL (sectF mapD 0 []).1.1).1, x.type ≠ 5 ∧ x.type ≠ 15 := by
  rw [mapD_sect, mapD_ent]
  intro x hx
  simp only [List.mem_cons, List.not_mem_nil, or_false] at hx
  rcases hx with rfl | rfl | rfl | rfl <;> simp
theorem map_gaps : gapsM (mapD.length : Int) mapT = [(512, 4096), (24576, 51200)] := by rw [mapD_len]; kernel_rfl
theorem map_held : heldM mapT = [(0, 512)] := by kernel_rfl
theorem map_room : roomF 1 0 (0, 0) [mapP] [(0, 512)] mapP 51200 = 51200 := by kernel_rfl
theorem mapped_ok (w : World)  :
    Ct Try.prog 12 [] [] w (fun _ : Unit => .bool true) (fun _ => True) (fun _ => []) := by
  refine Ct.of_st Try.func12 rfl rfl (L := []) trivial ?_
  have hrl := rowL_length 12 8 40
  refine st_seq ?_
  refine st_region rfl ?_
  refine sr_assign rfl rfl rfl rfl ?_
  refine sr_end ?_
  refine st_seq ?_
  refine st_region rfl ?_
  refine sr_callM [] rfl rfl rfl rfl en32 rfl (fun w hh => Zeros_ok w 51200 (by omega)) ?_
  rintro b1 -
  refine sr_callM [] rfl rfl rfl rfl en46 rfl (fun w hh => row_ok w 12 8 40 (by omega) (by omega) (by omega)) ?_
  rintro ⟨o1, cap1⟩ -
  refine sr_callM [] rfl rfl rfl rfl en32 rfl (fun w hh => Zeros_ok w 48 (by omega)) ?_
  rintro b2 -
  refine sr_buildSlice (vs := [.int .u8 85, .int .u8 170]) (cs := enc ([(85 : UInt8), (170 : UInt8)] : List UInt8)) rfl rfl rfl rfl el23 rfl ze5 rfl (all_cons rfl (all_cons rfl all_nil)) rfl rfl (fun b3 => ?_)
  refine sr_appendE (q := 1) (xs := List.replicate 48 (0 : UInt8)) ([(85 : UInt8), (170 : UInt8)] : List UInt8) rfl rfl rfl rfl rfl el23 el23 rfl ze5 rfl by5 rfl (fun w hh => (rowC_has (hh.hp.get (i := 0) rfl))) rfl (by simp <;> omega) (by (try simp only [List.length_append, List.length_cons, List.length_nil, List.length_set, List.length_replicate, List.length_take, List.length_drop, List.length_map, List.length_range, bytesN_length, List.length_singleton] at *); omega) rfl (fun o2 cap2 => ?_)
  refine sr_appendE (q := 2) (xs := rowL 12 8 40) ((List.replicate 48 (0 : UInt8)) ++ ([(85 : UInt8), (170 : UInt8)] : List UInt8)) rfl rfl rfl rfl rfl el23 el23 rfl ze5 rfl by5 rfl (fun w hh => (rowC_has (hh.hp.get (i := 0) rfl))) rfl rfl (by (try simp only [List.length_append, List.length_cons, List.length_nil, List.length_set, List.length_replicate, List.length_take, List.length_drop, List.length_map, List.length_range, bytesN_length, List.length_singleton] at *); omega) rfl (fun o3 cap3 => ?_)
  refine rk_row 3 ((List.replicate 51200 (0 : UInt8)).length) (enc (List.replicate 51200 (0 : UInt8))) rfl (by rw [List.length_replicate]) (congrArg enc (by rfl)) ?_
  refine rk_val 4 rfl (congrArg (fun z => rowV (some b1) z 51200) (by rw [List.length_replicate])) (v' := rowV (some b1) ((List.replicate 51200 (0 : UInt8)).length) 51200) ?_
  refine sr_callM [] rfl rfl rfl rfl en33 rfl (fun w hh => With_ok w _ _ (List.replicate 51200 (0 : UInt8)) ((rowL 12 8 40) ++ ((List.replicate 48 (0 : UInt8)) ++ ([(85 : UInt8), (170 : UInt8)] : List UInt8))) _ _ 446 (rowC_has (hh.hp.get (i := 3) rfl)) (rowC_has (hh.hp.get (i := 0) rfl)) (by (try simp only [List.length_append, List.length_cons, List.length_nil, List.length_set, List.length_replicate, List.length_take, List.length_drop, List.length_map, List.length_range, bytesN_length, List.length_singleton] at *); omega) (by (try simp only [List.length_append, List.length_cons, List.length_nil, List.length_set, List.length_replicate, List.length_take, List.length_drop, List.length_map, List.length_range, bytesN_length, List.length_singleton] at *); omega) (Nat.le_of_eq List.length_replicate)) ?_
  rintro ⟨o4, cap4⟩ -
  refine sr_assign rfl rfl rfl rfl ?_
  refine sr_end ?_
  refine st_seq ?_
  refine st_row 0 mapD.length (enc mapD) rfl (by simp only [mapD, mapR]) (congrArg enc (by simp only [mapD, mapR])) ?_
  refine st_val 1 rfl (congrArg (fun z => rowV o4 z cap4) (by simp only [mapD, mapR])) (v' := rowV o4 mapD.length cap4) ?_
  refine st_region rfl ?_
  refine sr_move rfl rfl rfl rfl ?_
  refine sr_makeInterface rfl rfl rfl rfl (fun _ => by kernel_rfl) ?_
  refine sr_callM [] rfl rfl rfl rfl en14 rfl (fun w hh => partsParse_ok w _ mapD _ (rowC_has (hh.hp.get (i := 0) rfl)) (by rw [mapD_len]; omega) ((hh.hp.get (i := 0) rfl).1.2.1) mapD_nox mapT mapD_mbr rfl) ?_
  rintro ⟨⟨⟨o5, cap5⟩, ⟨o6, cap6⟩⟩, ⟨⟨o7, cap7⟩, ⟨o8, cap8⟩⟩, ys⟩ ⟨hys, -⟩
  obtain rfl : ys = [mapP] := List.perm_singleton.1 hys
  refine sr_move rfl rfl rfl rfl ?_
  refine sr_extract rfl rfl rfl rfl rfl ?_
  refine sr_extract rfl rfl rfl rfl rfl ?_
  refine sr_alloc rfl rfl rfl ze62 (fun b4 => ?_)
  refine sr_store (k := 0) rfl rfl rfl rfl rfl sz62 rfl rfl rfl rfl ?_
  refine sr_assign rfl rfl rfl rfl ?_
  refine sr_end ?_
  refine st_seq ?_
  refine st_row 3 2 (enc [(512, 4096), (24576, 51200)]) rfl (by rw [map_gaps]; rfl) (congrArg enc (by rw [map_gaps])) ?_
  refine st_cells 0 [.int .i64 1, rowV o5 1 cap5, rowV o6 ((heldM mapT).length) cap6, rowV o7 2 cap7, rowV o5 1 cap5, rowV o8 1 cap8, .int .i64 0, .int .i64 0, .bool false, .int .i64 0, .int .i64 0, .int .i64 0, .int .u8 0, .int .u8 0, .int .u8 0, .int .u8 0, .int .u8 0, .int .u8 0, .int .u8 0, .int .u8 0, .int .u8 0, .int .u8 0, .int .u8 0, .int .u8 0, .int .u8 0, .int .u8 0, .int .u8 0, .int .u8 0, .slice none 0 0, .int .i64 0, .int .i64 0] rfl (by rw [map_gaps]; rfl) ?_
  refine st_draw [] [cellsC b4 62 [.int .i64 1, rowV o5 1 cap5, rowV o6 ((heldM mapT).length) cap6, rowV o7 2 cap7, rowV o5 1 cap5, rowV o8 1 cap8, .int .i64 0, .int .i64 0, .bool false, .int .i64 0, .int .i64 0, .int .i64 0, .int .u8 0, .int .u8 0, .int .u8 0, .int .u8 0, .int .u8 0, .int .u8 0, .int .u8 0, .int .u8 0, .int .u8 0, .int .u8 0, .int .u8 0, .int .u8 0, .int .u8 0, .int .u8 0, .int .u8 0, .int .u8 0, .slice none 0 0, .int .i64 0, .int .i64 0], rowC o5 1 cap5 111 4 (enc [mapP])] follows_mixed rfl ?_
  refine sd_take [0, 0] 0 rfl rfl rfl (fun _ => pv_move rfl) (by kernel_rfl) (by kernel_rfl) (by kernel_rfl) (by kernel_rfl) rfl ?_
  refine sd_take [0, 0] 1 rfl rfl rfl (fun _ => pv_bin rfl rfl (b_fold (v' := .bool true) b_eql rfl)) (by kernel_rfl) (by kernel_rfl) (by kernel_rfl) (by kernel_rfl) rfl ?_
  refine sd_take [0, 0] 2 rfl rfl rfl (fun _ => pv_move rfl) (by kernel_rfl) (by kernel_rfl) (by kernel_rfl) (by kernel_rfl) rfl ?_
  refine sd_take [0, 0] 3 rfl rfl rfl (fun _ => pv_fieldAddr (m := 0) rfl fd62_0 rfl) (by kernel_rfl) (by kernel_rfl) (by kernel_rfl) (by kernel_rfl) rfl ?_
  refine sd_take [0, 0] 4 rfl rfl rfl (fun _ => pv_load1 (k := 0) rfl rfl ag3 rfl) (by kernel_rfl) (by kernel_rfl) (by kernel_rfl) (by kernel_rfl) rfl ?_
  refine sd_take [0, 0] 5 rfl rfl rfl (fun _ => pv_bin rfl rfl (b_fold (v' := .bool true) b_eql rfl)) (by kernel_rfl) (by kernel_rfl) (by kernel_rfl) (by kernel_rfl) rfl ?_
  refine sd_take [0, 0] 6 rfl rfl rfl (fun _ => pv_pickT rfl rfl) (by kernel_rfl) (by kernel_rfl) (by kernel_rfl) (by kernel_rfl) rfl ?_
  refine sd_take [0, 0] 7 rfl rfl rfl (fun _ => pv_move rfl) (by kernel_rfl) (by kernel_rfl) (by kernel_rfl) (by kernel_rfl) rfl ?_
  refine sd_take [0, 0] 8 rfl rfl rfl (fun _ => pv_fieldAddr (m := 3) rfl fd62_3 rfl) (by kernel_rfl) (by kernel_rfl) (by kernel_rfl) (by kernel_rfl) rfl ?_
  refine sd_take [0, 0] 9 rfl rfl rfl (fun _ => pv_load1 (k := 0) rfl rfl ag35 rfl) (by kernel_rfl) (by kernel_rfl) (by kernel_rfl) (by kernel_rfl) rfl ?_
  refine sd_take [0, 0] 10 rfl rfl rfl (fun _ => pv_build (cs := [.int .i64 512, .int .i64 4096]) rfl (fun _ => by kernel_rfl)) (by kernel_rfl) (by kernel_rfl) (by kernel_rfl) (by kernel_rfl) rfl ?_
  refine sd_take [0, 0] 11 rfl rfl rfl (fun _ => pv_build (cs := [.int .i64 24576, .int .i64 51200]) rfl (fun _ => by kernel_rfl)) (by kernel_rfl) (by kernel_rfl) (by kernel_rfl) (by kernel_rfl) rfl ?_
  refine sd_one 12 (by kernel_rfl) ?_
  refine sr_buildSlice (vs := [.agg #[.int .i64 512, .int .i64 4096], .agg #[.int .i64 24576, .int .i64 51200]]) (cs := enc ([(512, 4096), (24576, 51200)] : List (Int × Int))) rfl rfl rfl rfl el34 rfl ze54 rfl (all_cons rfl (all_cons rfl all_nil)) rfl rfl (fun b5 => ?_)
  refine sd_next [1, 1] rfl ?_
  refine sd_one 13 (by kernel_rfl) ?_
  refine sr_callM [] rfl rfl rfl rfl en17 rfl (fun w hh => Same3_ok w _ [(512, 4096), (24576, 51200)] _ _ ([(512, 4096), (24576, 51200)] : List (Int × Int)) _ (rowC_has (hh.hp.get (i := 4) rfl)) (rowC_has (hh.hp.get (i := 0) rfl)) (by simp) (by simp)) ?_
  rintro ⟨⟩ -
  refine rk_val 30 rfl (congrArg Value.bool (by decide)) (v' := .bool true) ?_
  refine sd_next [1, 1] rfl ?_
  refine sd_take [1, 1] 14 rfl rfl rfl (fun _ => pv_pickT rfl rfl) (by kernel_rfl) (by kernel_rfl) (by kernel_rfl) (by kernel_rfl) rfl ?_
  refine sd_take [1, 1] 15 rfl rfl rfl (fun _ => pv_move rfl) (by kernel_rfl) (by kernel_rfl) (by kernel_rfl) (by kernel_rfl) rfl ?_
  refine sd_take [1, 1] 16 rfl rfl rfl (fun _ => pv_loadN (k := 0) (vs := [.int .i64 1, rowV o5 1 cap5, rowV o6 ((heldM mapT).length) cap6, rowV o7 2 cap7, rowV o5 1 cap5, rowV o8 1 cap8, .int .i64 0, .int .i64 0, .bool false, .int .i64 0, .int .i64 0, .int .i64 0, .int .u8 0, .int .u8 0, .int .u8 0, .int .u8 0, .int .u8 0, .int .u8 0, .int .u8 0, .int .u8 0, .int .u8 0, .int .u8 0, .int .u8 0, .int .u8 0, .int .u8 0, .int .u8 0, .int .u8 0, .int .u8 0, .slice none 0 0, .int .i64 0, .int .i64 0]) rfl rfl ag62 sz62 rfl rfl) (by kernel_rfl) (by kernel_rfl) (by kernel_rfl) (by kernel_rfl) rfl ?_
  refine sd_take [1, 1] 17 rfl rfl rfl (fun _ => pv_fieldAddr (m := 1) rfl fd62_1 rfl) (by kernel_rfl) (by kernel_rfl) (by kernel_rfl) (by kernel_rfl) rfl ?_
  refine sd_take [1, 1] 18 rfl rfl rfl (fun _ => pv_load1 (k := 0) rfl rfl ag52 rfl) (by kernel_rfl) (by kernel_rfl) (by kernel_rfl) (by kernel_rfl) rfl ?_
  refine rk_open (q := 2) rfl Nat.zero_lt_one (fun B1 eo1 => ?_)
  subst eo1
  refine sd_take [1, 1] 19 rfl rfl rfl (fun _ => pv_indexRow rfl rfl el52 (by decide) (by decide)) (by kernel_rfl) (by kernel_rfl) (by kernel_rfl) (by kernel_rfl) rfl ?_
  refine sd_take [1, 1] 20 rfl rfl rfl (fun _ => pv_loadRow (q := 1) (off := 0 * 4 + 0) rfl rfl rfl (rdN (i := 0) (j := 0) ag111 sz111 (⟨(0, 0), 0, 0⟩ : PartV) [.int .i64 (([mapP].getD 0 (⟨(0, 0), 0, 0⟩ : PartV)).ext.1), .int .i64 (([mapP].getD 0 (⟨(0, 0), 0, 0⟩ : PartV)).ext.2), .int .i64 (([mapP].getD 0 (⟨(0, 0), 0, 0⟩ : PartV)).type), .int .i64 (([mapP].getD 0 (⟨(0, 0), 0, 0⟩ : PartV)).slot)] (by decide) rfl rfl)) (by kernel_rfl) (by kernel_rfl) (by kernel_rfl) (by kernel_rfl) rfl ?_
  refine sd_one 21 (by kernel_rfl) ?_
  refine sr_callM [] rfl rfl rfl rfl en47 rfl (fun w hh => Room_ok w 1 _ [mapP] _ _ (heldM mapT) _ _ _ _ (0, 0) false 0 0 0 _ 0 0 mapP 51200 (rowC_has (hh.hp.get (i := 2) rfl)) (rowC_has (hh.hp.get (i := 3) rfl)) (by decide) (by rw [map_held]; decide) (by omega) (by omega)) ?_
  rintro ⟨⟩ -
  refine rk_val 38 rfl (congrArg (Value.int .i64) (by first | exact map_room | (rw [map_held]; exact map_room))) (v' := .int .i64 51200) ?_
  refine sd_next [1, 1] rfl ?_
  refine sd_take [1, 1] 22 rfl rfl rfl (fun _ => pv_bin rfl rfl (b_fold (v' := .bool true) b_eql rfl)) (by kernel_rfl) (by kernel_rfl) (by kernel_rfl) (by kernel_rfl) rfl ?_
  refine sd_take [1, 1] 23 rfl rfl rfl (fun _ => pv_pickT rfl rfl) (by kernel_rfl) (by kernel_rfl) (by kernel_rfl) (by kernel_rfl) rfl ?_
  refine sd_take [1, 1] 24 rfl rfl rfl (fun _ => pv_assign rfl) (by kernel_rfl) (by kernel_rfl) (by kernel_rfl) (by kernel_rfl) rfl ?_
  refine sd_end (by kernel_rfl) ?_
  exact st_retC (()) [] Try.func12 rfl rfl rfl trivial rfl

theorem findF_has {w : World} {name : ByteArray} : ∀ {l : List PathV}, (∀ i, i < l.length → Has [] w (l.getD i (⟨⟨#[]⟩, 0, 0, none, [], 0⟩ : PathV)).A (enc (l.getD i (⟨⟨#[]⟩, 0, 0, none, [], 0⟩ : PathV)).runs)) → Has [] w (findF l name).1.A (enc (findF l name).1.runs)
  | [], _ => Has.nil _ _ _
  | p :: l, h => by
    unfold findF
    split
    · exact h 0 (by simp)
    · exact findF_has fun i hi => by have := h (i + 1) (by simp; omega); simpa using this
theorem findF_len {name : ByteArray} {n : Nat} : ∀ {l : List PathV}, (∀ i, i < l.length → (l.getD i (⟨⟨#[]⟩, 0, 0, none, [], 0⟩ : PathV)).runs.length ≤ n) → (findF l name).1.runs.length ≤ n
  | [], _ => Nat.zero_le _
  | p :: l, h => by
    unfold findF
    split
    · exact h 0 (by simp)
    · exact findF_len fun i hi => by have := h (i + 1) (by simp; omega); simpa using this
theorem PartsFinds_ok (w : World) (A : Option Addr) (l : List PathV) (c : Nat) (name : ByteArray) (hA : Has [] w A (enc l)) (hb : l.length ≤ 9223372036854775807) (hS : ∀ i, i < l.length → Has [] w (l.getD i (⟨⟨#[]⟩, 0, 0, none, [], 0⟩ : PathV)).A (enc (l.getD i (⟨⟨#[]⟩, 0, 0, none, [], 0⟩ : PathV)).runs)) (hL : ∀ i, i < l.length → (l.getD i (⟨⟨#[]⟩, 0, 0, none, [], 0⟩ : PathV)).runs.length ≤ 9223372036854775807) :
    Ct Try.prog 4 [.slice A l.length c, .string name] [] w (fun _ : Unit => .bool true) (fun _ => True) (fun _ => []) := by
  refine Ct.of_st Try.func4 rfl rfl (L := [(0, .slice A l.length c), (1, .string name)]) ⟨rfl, rfl, trivial⟩ ?_
  refine st_seq ?_
  refine st_region rfl ?_
  refine sr_assign rfl rfl rfl rfl ?_
  refine sr_end ?_
  refine st_seq ?_
  refine st_seq ?_
  refine st_region rfl ?_
  refine sr_move rfl rfl rfl rfl ?_
  refine sr_len rfl rfl rfl rfl el47 ?_
  refine sr_bin rfl rfl rfl rfl rfl b_gtr ?_
  refine sr_end ?_
  refine st_ifD rfl (fun q1 => ?_) (fun q1 => ?_)
  · skip
    refine st_seq ?_
    refine st_region rfl ?_
    refine sr_callM [] rfl rfl rfl rfl en12 rfl (fun w hh => mapped_ok w) ?_
    rintro ⟨⟩ -
    refine sr_assign rfl rfl rfl rfl ?_
    refine sr_end ?_
    exact st_retC (()) [] Try.func4 rfl rfl rfl trivial rfl
  · skip
    refine st_skip ?_
    refine st_seq ?_
    refine st_region rfl ?_
    refine sr_move rfl rfl rfl rfl ?_
    refine sr_move rfl rfl rfl rfl ?_
    obtain ⟨fr, hfr⟩ : ∃ r, r = findF l name := ⟨_, rfl⟩
    have hfA : Has [] w fr.1.A (enc fr.1.runs) := by rw [hfr]; exact findF_has hS
    have hfl : fr.1.runs.length ≤ 9223372036854775807 := by rw [hfr]; exact findF_len hL
    refine sr_callM [] rfl rfl rfl rfl en13 rfl (fun w hh => Find_ok w _ l _ name (hA.heap0 hh) (by omega) (fun i hi => Has.heap0 (hS i hi) hh) fr hfr) ?_
    rintro ⟨⟩ -
    refine sr_move rfl rfl rfl rfl ?_
    refine sr_extract rfl rfl rfl rfl rfl ?_
    refine sr_extract rfl rfl rfl rfl rfl ?_
    refine sr_alloc rfl rfl rfl ze49 (fun b1 => ?_)
    refine sr_store (k := 0) rfl rfl rfl rfl rfl sz49 rfl rfl rfl rfl ?_
    refine sr_assign rfl rfl rfl rfl ?_
    refine sr_end ?_
    refine st_seq ?_
    refine st_region rfl ?_
    refine sr_callM [] rfl rfl rfl rfl en14 rfl (fun w hh => partsParse_nil w) ?_
    rintro ⟨⟩ -
    refine sr_move rfl rfl rfl rfl ?_
    refine sr_extract rfl rfl rfl rfl rfl ?_
    refine sr_extract rfl rfl rfl rfl rfl ?_
    refine sr_alloc rfl rfl rfl ze62 (fun b2 => ?_)
    refine sr_store (k := 0) rfl rfl rfl rfl rfl sz62 rfl rfl rfl rfl ?_
    refine sr_assign rfl rfl rfl rfl ?_
    refine sr_end ?_
    refine st_seq ?_
    refine st_region rfl ?_
    refine sr_build (cs := [.int .i64 0, .int .i64 0]) rfl rfl rfl rfl (fun _ => by kernel_rfl) ?_
    refine sr_callM [] rfl rfl rfl rfl en15 rfl (fun w hh => Window_nil w _ _) ?_
    rintro ⟨⟩ -
    refine sr_move rfl rfl rfl rfl ?_
    refine sr_extract rfl rfl rfl rfl rfl ?_
    refine sr_extract rfl rfl rfl rfl rfl ?_
    refine sr_assign rfl rfl rfl rfl ?_
    refine sr_assign rfl rfl rfl rfl ?_
    refine sr_end ?_
    refine st_seq ?_
    refine st_region rfl ?_
    refine sr_build (cs := [.string ⟨#[]⟩, .int .i64 0, .int .i64 0, .slice none 0 0]) rfl rfl rfl rfl (fun _ => by kernel_rfl) ?_
    refine sr_callM [] rfl rfl rfl rfl en16 rfl (fun w hh => Content_nil w ⟨⟨#[]⟩, 0, 0, none, [], 0⟩) ?_
    rintro ⟨⟩ -
    refine sr_move rfl rfl rfl rfl ?_
    refine sr_extract rfl rfl rfl rfl rfl ?_
    refine sr_extract rfl rfl rfl rfl rfl ?_
    refine sr_assign rfl rfl rfl rfl ?_
    refine sr_assign rfl rfl rfl rfl ?_
    refine sr_end ?_
    refine st_seq ?_
    refine st_seq ?_
    refine st_region rfl ?_
    refine sr_callM [] rfl rfl rfl rfl en12 rfl (fun w hh => mapped_ok w) ?_
    rintro ⟨⟩ -
    refine sr_un rfl rfl rfl rfl u_not ?_
    refine sr_move rfl rfl rfl rfl ?_
    refine sr_move rfl rfl rfl rfl ?_
    refine sr_bin rfl rfl rfl rfl rfl (b_fold (v' := .bool false) b_neq rfl) ?_
    refine sr_pickF rfl rfl rfl rfl rfl ?_
    refine sr_move rfl rfl rfl rfl ?_
    refine sr_move rfl rfl rfl rfl ?_
    refine sr_bin rfl rfl rfl rfl rfl (b_fold (v' := .bool false) b_neq rfl) ?_
    refine sr_pickF rfl rfl rfl rfl rfl ?_
    refine sr_move rfl rfl rfl rfl ?_
    refine sr_move rfl rfl rfl rfl ?_
    refine sr_bin rfl rfl rfl rfl rfl (b_fold (v' := .bool false) b_neq rfl) ?_
    refine sr_pickF rfl rfl rfl rfl rfl ?_
    refine sr_end ?_
    refine st_false rfl ?_
    refine st_skip ?_
    refine st_seq ?_
    refine st_seq ?_
    refine st_region rfl ?_
    refine sr_assign rfl rfl rfl rfl ?_
    refine sr_end ?_
    refine st_block ?_
    refine st_loop1 [1] (fun (k : Nat) => [(0, .slice A l.length c), (1, .string name), (5, .pointer (some ⟨b1, 0, none⟩)), (6, .bool fr.2), (13, .int .i64 (k : Int))]) (fun (k : Nat) => [cellsC b1 49 [.string fr.1.name, .int .i64 fr.1.kind, .int .i64 fr.1.size, .slice fr.1.A fr.1.runs.length fr.1.cap]]) (fun (k : Nat) => k ≤ l.length ∧ findF (l.drop k) name = fr) (fun (k : Nat) => l.length - k) 0 ⟨Nat.zero_le _, hfr.symm⟩ ⟨rfl, rfl, rfl, rfl, rfl, trivial⟩ rfl (fun k hI hk1 => ?_)
    have hk := hI.1
    refine st_seq ?_
    refine st_seq ?_
    refine st_region rfl ?_
    refine sr_move rfl rfl rfl rfl ?_
    refine sr_move rfl rfl rfl rfl ?_
    refine sr_len rfl rfl rfl rfl el47 ?_
    refine sr_bin rfl rfl rfl rfl rfl b_lss ?_
    refine sr_end ?_
    refine st_ifD rfl (fun q2 => ?_) (fun q2 => ?_)
    · skip
      refine st_skip ?_
      refine st_seq ?_
      refine st_block ?_
      refine st_seq ?_
      refine st_region rfl ?_
      refine sr_move rfl rfl rfl rfl ?_
      refine sr_move rfl rfl rfl rfl ?_
      obtain ⟨B1, O1, eA1, hg_B1, hb_B1⟩ := hA (enc_ne (by omega))
      refine sr_indexRoE rfl rfl rfl rfl rfl el47 eA1 (by (try simp only [List.length_append, List.length_cons, List.length_nil, List.length_set, List.length_replicate, List.length_take, List.length_drop, List.length_map, List.length_range, bytesN_length, List.length_singleton] at *); omega) (by (try simp only [List.length_append, List.length_cons, List.length_nil, List.length_set, List.length_replicate, List.length_take, List.length_drop, List.length_map, List.length_range, bytesN_length, List.length_singleton] at *); omega) ?_
      refine sr_fieldAddr (m := O1 + ((k : Int)).toNat * 4) rfl rfl rfl rfl fd49_0 rfl ?_
      refine sr_loadAt (p := O1) (off := k * 4 + 0) rfl rfl rfl rfl rfl (has_cells hg_B1 hb_B1) (rd1 (i := k) (j := 0) ag9 (⟨⟨#[]⟩, 0, 0, none, [], 0⟩ : PathV) (by omega) rfl) ?_
      refine sr_move rfl rfl rfl rfl ?_
      refine sr_bin rfl rfl rfl rfl rfl b_eqlStr ?_
      refine sr_end ?_
      refine st_ifD rfl (fun q64 => ?_) (fun q64 => ?_)
      · obtain rfl : ((l.getD k (⟨⟨#[]⟩, 0, 0, none, [], 0⟩ : PathV)), true) = fr := by rw [← hI.2, findF_at (l := l) (k := k) (by omega), if_pos q64]
        refine st_seq ?_
        have hls := hL k (by omega)
        refine st_draw [] [cellsC b1 49 [.string ((l.getD k (⟨⟨#[]⟩, 0, 0, none, [], 0⟩ : PathV)).name), .int .i64 ((l.getD k (⟨⟨#[]⟩, 0, 0, none, [], 0⟩ : PathV)).kind), .int .i64 ((l.getD k (⟨⟨#[]⟩, 0, 0, none, [], 0⟩ : PathV)).size), .slice ((l.getD k (⟨⟨#[]⟩, 0, 0, none, [], 0⟩ : PathV)).A) ((l.getD k (⟨⟨#[]⟩, 0, 0, none, [], 0⟩ : PathV)).runs.length) ((l.getD k (⟨⟨#[]⟩, 0, 0, none, [], 0⟩ : PathV)).cap)]] follows_mixed rfl ?_
        refine sd_take [0] 0 rfl rfl rfl (fun _ => pv_move rfl) (by kernel_rfl) (by kernel_rfl) (by kernel_rfl) (by kernel_rfl) rfl ?_
        refine sd_take [0] 1 rfl rfl rfl (fun _ => pv_move rfl) (by kernel_rfl) (by kernel_rfl) (by kernel_rfl) (by kernel_rfl) rfl ?_
        refine sd_take [0] 2 rfl rfl rfl (fun _ => pv_fieldAddr (m := 0) rfl fd49_0 rfl) (by kernel_rfl) (by kernel_rfl) (by kernel_rfl) (by kernel_rfl) rfl ?_
        refine sd_take [0] 3 rfl rfl rfl (fun _ => pv_load1 (k := 0) rfl rfl ag9 rfl) (by kernel_rfl) (by kernel_rfl) (by kernel_rfl) (by kernel_rfl) rfl ?_
        refine sd_take [0] 4 rfl rfl rfl (fun _ => pv_move rfl) (by kernel_rfl) (by kernel_rfl) (by kernel_rfl) (by kernel_rfl) rfl ?_
        refine sd_take [0] 5 rfl rfl rfl (fun _ => pv_bin rfl rfl b_eqlStr) (by kernel_rfl) (by kernel_rfl) (by kernel_rfl) (by kernel_rfl) rfl ?_
        refine sd_take [0] 6 rfl rfl rfl (fun _ => pv_pickT rfl rfl) (by kernel_rfl) (by kernel_rfl) (by kernel_rfl) (by kernel_rfl) rfl ?_
        refine sd_take [0] 7 rfl rfl rfl (fun _ => pv_move rfl) (by kernel_rfl) (by kernel_rfl) (by kernel_rfl) (by kernel_rfl) rfl ?_
        refine sd_caseD (t := 72) rfl (fun g1 => ?_) (fun h => absurd h (fun hn => hn q64))
        refine sd_take [0] 8 rfl rfl rfl (fun _ => pv_fieldAddr (m := 2) rfl fd49_2 rfl) (by kernel_rfl) (by kernel_rfl) (by kernel_rfl) (by kernel_rfl) rfl ?_
        refine sd_take [0] 9 rfl rfl rfl (fun _ => pv_load1 (k := 0) rfl rfl ag2 rfl) (by kernel_rfl) (by kernel_rfl) (by kernel_rfl) (by kernel_rfl) rfl ?_
        refine sd_take [0] 10 rfl rfl rfl (fun _ => pv_move rfl) (by kernel_rfl) (by kernel_rfl) (by kernel_rfl) (by kernel_rfl) rfl ?_
        refine sd_take [0] 11 rfl rfl rfl (fun _ => pv_move rfl) (by kernel_rfl) (by kernel_rfl) (by kernel_rfl) (by kernel_rfl) rfl ?_
        obtain ⟨B2, O2, eA2, hg1, hb1⟩ := hA (enc_ne (by omega))
        refine sd_take [0] 12 rfl rfl rfl (fun _ => pv_indexRo rfl rfl el47 eA2 (by (try simp only [List.length_append, List.length_cons, List.length_nil, List.length_set, List.length_replicate, List.length_take, List.length_drop, List.length_map, List.length_range, bytesN_length, List.length_singleton] at *); omega) (by (try simp only [List.length_append, List.length_cons, List.length_nil, List.length_set, List.length_replicate, List.length_take, List.length_drop, List.length_map, List.length_range, bytesN_length, List.length_singleton] at *); omega)) (by kernel_rfl) (by kernel_rfl) (by kernel_rfl) (by kernel_rfl) rfl ?_
        refine sd_take [0] 13 rfl rfl rfl (fun _ => pv_fieldAddr (m := O2 + ((k : Int)).toNat * 4 + 2) rfl fd49_2 rfl) (by kernel_rfl) (by kernel_rfl) (by kernel_rfl) (by kernel_rfl) rfl ?_
        refine sd_take [0] 14 rfl rfl rfl (fun _ => pv_loadAt (p := O2) (off := k * 4 + 2) rfl rfl (has_cells hg1 hb1) (rd1 (i := k) (j := 2) ag2 (⟨⟨#[]⟩, 0, 0, none, [], 0⟩ : PathV) (by omega) rfl)) (by kernel_rfl) (by kernel_rfl) (by kernel_rfl) (by kernel_rfl) rfl ?_
        refine sd_take [0] 15 rfl rfl rfl (fun _ => pv_bin rfl rfl (b_fold (v' := .bool true) b_eql (by simp))) (by kernel_rfl) (by kernel_rfl) (by kernel_rfl) (by kernel_rfl) rfl ?_
        refine sd_take [0] 16 rfl rfl rfl (fun _ => pv_pickT rfl rfl) (by kernel_rfl) (by kernel_rfl) (by kernel_rfl) (by kernel_rfl) rfl ?_
        refine sd_take [0] 17 rfl rfl rfl (fun _ => pv_move rfl) (by kernel_rfl) (by kernel_rfl) (by kernel_rfl) (by kernel_rfl) rfl ?_
        refine sd_take [0] 18 rfl rfl rfl (fun _ => pv_fieldAddr (m := 1) rfl fd49_1 rfl) (by kernel_rfl) (by kernel_rfl) (by kernel_rfl) (by kernel_rfl) rfl ?_
        refine sd_take [0] 19 rfl rfl rfl (fun _ => pv_load1 (k := 0) rfl rfl ag3 rfl) (by kernel_rfl) (by kernel_rfl) (by kernel_rfl) (by kernel_rfl) rfl ?_
        refine sd_take [0] 20 rfl rfl rfl (fun _ => pv_move rfl) (by kernel_rfl) (by kernel_rfl) (by kernel_rfl) (by kernel_rfl) rfl ?_
        refine sd_take [0] 21 rfl rfl rfl (fun _ => pv_move rfl) (by kernel_rfl) (by kernel_rfl) (by kernel_rfl) (by kernel_rfl) rfl ?_
        obtain ⟨B3, O3, eA3, hg2, hb2⟩ := hA (enc_ne (by omega))
        refine sd_take [0] 22 rfl rfl rfl (fun _ => pv_indexRo rfl rfl el47 eA3 (by (try simp only [List.length_append, List.length_cons, List.length_nil, List.length_set, List.length_replicate, List.length_take, List.length_drop, List.length_map, List.length_range, bytesN_length, List.length_singleton] at *); omega) (by (try simp only [List.length_append, List.length_cons, List.length_nil, List.length_set, List.length_replicate, List.length_take, List.length_drop, List.length_map, List.length_range, bytesN_length, List.length_singleton] at *); omega)) (by kernel_rfl) (by kernel_rfl) (by kernel_rfl) (by kernel_rfl) rfl ?_
        refine sd_take [0] 23 rfl rfl rfl (fun _ => pv_fieldAddr (m := O3 + ((k : Int)).toNat * 4 + 1) rfl fd49_1 rfl) (by kernel_rfl) (by kernel_rfl) (by kernel_rfl) (by kernel_rfl) rfl ?_
        refine sd_take [0] 24 rfl rfl rfl (fun _ => pv_loadAt (p := O3) (off := k * 4 + 1) rfl rfl (has_cells hg2 hb2) (rd1 (i := k) (j := 1) ag3 (⟨⟨#[]⟩, 0, 0, none, [], 0⟩ : PathV) (by omega) rfl)) (by kernel_rfl) (by kernel_rfl) (by kernel_rfl) (by kernel_rfl) rfl ?_
        refine sd_take [0] 25 rfl rfl rfl (fun _ => pv_bin rfl rfl (b_fold (v' := .bool true) b_eql (by simp))) (by kernel_rfl) (by kernel_rfl) (by kernel_rfl) (by kernel_rfl) rfl ?_
        refine sd_take [0] 26 rfl rfl rfl (fun _ => pv_pickT rfl rfl) (by kernel_rfl) (by kernel_rfl) (by kernel_rfl) (by kernel_rfl) rfl ?_
        refine sd_take [0] 27 rfl rfl rfl (fun _ => pv_move rfl) (by kernel_rfl) (by kernel_rfl) (by kernel_rfl) (by kernel_rfl) rfl ?_
        refine sd_take [0] 28 rfl rfl rfl (fun _ => pv_fieldAddr (m := 3) rfl fd49_3 rfl) (by kernel_rfl) (by kernel_rfl) (by kernel_rfl) (by kernel_rfl) rfl ?_
        refine sd_take [0] 29 rfl rfl rfl (fun _ => pv_load1 (k := 0) rfl rfl ag34 rfl) (by kernel_rfl) (by kernel_rfl) (by kernel_rfl) (by kernel_rfl) rfl ?_
        refine sd_take [0] 30 rfl rfl rfl (fun _ => pv_move rfl) (by kernel_rfl) (by kernel_rfl) (by kernel_rfl) (by kernel_rfl) rfl ?_
        refine sd_take [0] 31 rfl rfl rfl (fun _ => pv_move rfl) (by kernel_rfl) (by kernel_rfl) (by kernel_rfl) (by kernel_rfl) rfl ?_
        obtain ⟨B4, O4, eA4, hg3, hb3⟩ := hA (enc_ne (by omega))
        refine sd_take [0] 32 rfl rfl rfl (fun _ => pv_indexRo rfl rfl el47 eA4 (by (try simp only [List.length_append, List.length_cons, List.length_nil, List.length_set, List.length_replicate, List.length_take, List.length_drop, List.length_map, List.length_range, bytesN_length, List.length_singleton] at *); omega) (by (try simp only [List.length_append, List.length_cons, List.length_nil, List.length_set, List.length_replicate, List.length_take, List.length_drop, List.length_map, List.length_range, bytesN_length, List.length_singleton] at *); omega)) (by kernel_rfl) (by kernel_rfl) (by kernel_rfl) (by kernel_rfl) rfl ?_
        refine sd_take [0] 33 rfl rfl rfl (fun _ => pv_fieldAddr (m := O4 + ((k : Int)).toNat * 4 + 3) rfl fd49_3 rfl) (by kernel_rfl) (by kernel_rfl) (by kernel_rfl) (by kernel_rfl) rfl ?_
        refine sd_take [0] 34 rfl rfl rfl (fun _ => pv_loadAt (p := O4) (off := k * 4 + 3) rfl rfl (has_cells hg3 hb3) (rd1 (i := k) (j := 3) ag34 (⟨⟨#[]⟩, 0, 0, none, [], 0⟩ : PathV) (by omega) rfl)) (by kernel_rfl) (by kernel_rfl) (by kernel_rfl) (by kernel_rfl) rfl ?_
        refine sd_one 35 (by kernel_rfl) ?_
        refine sr_callM [] rfl rfl rfl rfl en17 rfl (fun w hh => Same3_ok w _ ((l.getD k (⟨⟨#[]⟩, 0, 0, none, [], 0⟩ : PathV)).runs) _ _ ((l.getD k (⟨⟨#[]⟩, 0, 0, none, [], 0⟩ : PathV)).runs) _ (hfA.heap0 hh) (Has.heap0 (hS k (by omega)) hh) (by (try simp only [List.length_append, List.length_cons, List.length_nil, List.length_set, List.length_replicate, List.length_take, List.length_drop, List.length_map, List.length_range, bytesN_length, List.length_singleton] at *); omega) (by (try simp only [List.length_append, List.length_cons, List.length_nil, List.length_set, List.length_replicate, List.length_take, List.length_drop, List.length_map, List.length_range, bytesN_length, List.length_singleton] at *); omega)) ?_
        rintro ⟨⟩ -
        refine rk_val 100 rfl (congrArg Value.bool (by simp)) (v' := .bool true) ?_
        refine sd_next [0] rfl ?_
        refine sd_take [0] 36 rfl rfl rfl (fun _ => pv_pickT rfl rfl) (by kernel_rfl) (by kernel_rfl) (by kernel_rfl) (by kernel_rfl) rfl ?_
        refine sd_take [0] 37 rfl rfl rfl (fun _ => pv_assign rfl) (by kernel_rfl) (by kernel_rfl) (by kernel_rfl) (by kernel_rfl) rfl ?_
        refine sd_end (by kernel_rfl) ?_
        exact st_retC (()) [] Try.func4 rfl rfl rfl trivial rfl
      · skip
        refine st_skip ?_
        refine st_inBlock ?_
        refine st_region rfl ?_
        refine sr_move rfl rfl rfl rfl ?_
        refine sr_bin rfl rfl rfl rfl rfl (b_addI (by (try simp only [List.length_append, List.length_cons, List.length_nil, List.length_set, List.length_replicate, List.length_take, List.length_drop, List.length_map, List.length_range, bytesN_length, List.length_singleton] at *); omega) (by (try simp only [List.length_append, List.length_cons, List.length_nil, List.length_set, List.length_replicate, List.length_take, List.length_drop, List.length_map, List.length_range, bytesN_length, List.length_singleton] at *); omega)) ?_
        refine sr_assign rfl rfl rfl rfl ?_
        refine sr_end ?_
        exact st_go [0] (hk1 (k + 1) ⟨by omega, by rw [← hI.2, findF_at (l := l) (k := k) (by omega), if_neg q64]⟩ (by omega)) ⟨rfl, rfl, rfl, rfl, congrArg (fun z : Int => some (Value.int .i64 z)) (by omega), trivial⟩ rfl
    · skip
      refine st_exit rfl ?_
      refine st_seq ?_
      obtain rfl : ((⟨⟨#[]⟩, 0, 0, none, [], 0⟩ : PathV), false) = fr := by rw [← hI.2, show k = l.length by omega, List.drop_length]; rfl
      refine st_region rfl ?_
      refine sr_move rfl rfl rfl rfl ?_
      refine sr_un rfl rfl rfl rfl u_not ?_
      refine sr_move rfl rfl rfl rfl ?_
      refine sr_fieldAddr (m := 0) rfl rfl rfl rfl fd49_0 rfl ?_
      refine sr_load1 (k := 0) rfl rfl rfl rfl rfl ag9 rfl ?_
      refine sr_bin rfl rfl rfl rfl rfl (b_fold (v' := .bool true) b_eqlStr (by simp)) ?_
      refine sr_pickT rfl rfl rfl rfl rfl ?_
      refine sr_move rfl rfl rfl rfl ?_
      refine sr_fieldAddr (m := 2) rfl rfl rfl rfl fd49_2 rfl ?_
      refine sr_load1 (k := 0) rfl rfl rfl rfl rfl ag2 rfl ?_
      refine sr_bin rfl rfl rfl rfl rfl (b_fold (v' := .bool true) b_eql rfl) ?_
      refine sr_pickT rfl rfl rfl rfl rfl ?_
      refine sr_assign rfl rfl rfl rfl ?_
      refine sr_end ?_
      exact st_retC (()) [] Try.func4 rfl rfl rfl trivial rfl

end Try
end Go.Sl
