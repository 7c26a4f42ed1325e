/- A part of the proof: words and contracts that the row is built on. -/
import Derived.Test.YtjngkghhdphfcaaG2
namespace Go.Sl
open Go.RowKit Go.Proofs
set_option linter.unusedVariables false
set_option linter.unusedSimpArgs false
set_option maxRecDepth 10000
namespace Try
theorem ag156 : aggB Try.prog 156 = some true := by kernel_rfl
theorem ag2 : aggB Try.prog 2 = some false := by kernel_rfl
theorem ag3 : aggB Try.prog 3 = some false := by kernel_rfl
theorem bo4 : (match (Try.prog).underlying 4 with | some .bool => true | _ => false) = true := by kernel_rfl
theorem by156 : byOf Try.prog 156 = some 24 := by kernel_rfl
theorem el152 : elOf Try.prog 152 = some (156, 3) := by kernel_rfl
theorem en65 : entB Try.prog 65 = true := by kernel_rfl
theorem en93 : entB Try.prog 93 = true := by kernel_rfl
theorem fd156_0 : fldOf Try.prog 156 0 = some 0 := by kernel_rfl
theorem fd156_2 : fldOf Try.prog 156 2 = some 2 := by kernel_rfl
theorem ki2 : kiOf Try.prog 2 = some .i64 := by kernel_rfl
theorem ki3 : kiOf Try.prog 3 = some .i64 := by kernel_rfl
theorem sz156 : szOf Try.prog 156 = some 3 := by kernel_rfl
theorem sz2 : szOf Try.prog 2 = some 1 := by kernel_rfl
theorem sz3 : szOf Try.prog 3 = some 1 := by kernel_rfl
theorem ze156 : zeroOf Try.prog 156 = some (.agg #[.int .i64 0, .int .i64 0, .int .i64 0]) := by kernel_rfl
def okEnt (bs : List UInt8) (k : Nat) : Bool := (decide (((bs.getD (446 + 16 * k) (0 : UInt8)).toNat : Int) = 0) || decide (((bs.getD (446 + 16 * k) (0 : UInt8)).toNat : Int) = 128)) && decide (decide (((bs.getD (446 + 16 * k + 4) (0 : UInt8)).toNat : Int) = 0) = decide (((le ((bs.drop (446 + 16 * k + 12)).take 4) : Nat) : Int) = 0))
def entOf (bs : List UInt8) (k : Nat) : EntryV := ⟨((bs.getD (446 + 16 * k + 4) (0 : UInt8)).toNat : Int), ((le ((bs.drop (446 + 16 * k + 8)).take 4) : Nat) : Int), ((le ((bs.drop (446 + 16 * k + 12)).take 4) : Nat) : Int)⟩
def entriesL (bs : List UInt8) : List EntryV × Int := if bs.length ≠ 512 then ([], 4) else if ¬ (((bs.getD 510 (0 : UInt8)).toNat : Int) = 85 ∧ ((bs.getD 511 (0 : UInt8)).toNat : Int) = 170) then ([], 10) else if (List.range 4).all (okEnt bs) = true then ((List.range 4).map (entOf bs), 0) else ([], 11)
theorem entriesL_len {bs : List UInt8} (h : bs.length ≠ 512) : ([], 4) = entriesL bs := by unfold entriesL; rw [if_pos h]
theorem entriesL_magic {bs : List UInt8} (h : bs.length = 512) (h' : ¬ (((bs.getD 510 (0 : UInt8)).toNat : Int) = 85 ∧ ((bs.getD 511 (0 : UInt8)).toNat : Int) = 170)) : ([], 10) = entriesL bs := by unfold entriesL; rw [if_neg (by omega), if_pos h']
theorem entriesL_bad {bs : List UInt8} (h : bs.length = 512) (h' : ((bs.getD 510 (0 : UInt8)).toNat : Int) = 85 ∧ ((bs.getD 511 (0 : UInt8)).toNat : Int) = 170) {k : Nat} (hk : k < 4) (hb : okEnt bs k = false) : ([], 11) = entriesL bs := by
  unfold entriesL
  rw [if_neg (by omega), if_neg (by omega), if_neg]
  intro h; rw [List.all_eq_true] at h
  rw [h k (List.mem_range.2 hk)] at hb; cases hb
theorem entriesL_ok {bs : List UInt8} (h : bs.length = 512) (h' : ((bs.getD 510 (0 : UInt8)).toNat : Int) = 85 ∧ ((bs.getD 511 (0 : UInt8)).toNat : Int) = 170) {k : Nat} (hk : k = 4) (hb : ∀ j, j < k → okEnt bs j = true) : ((List.range k).map (entOf bs), 0) = entriesL bs := by
  subst hk
  unfold entriesL
  rw [if_neg (by omega), if_neg (by omega), if_pos]
  rw [List.all_eq_true]; exact fun j hj => hb j (List.mem_range.1 hj)
theorem leAt_in {bs : List UInt8} {a : Int} {n : Nat} (m : Nat) (e : a = m) (h1 : m + n ≤ bs.length) : leAt bs a n = (le ((bs.drop m).take n), true) := by
  subst e
  unfold leAt inB; rw [if_pos]; · simp
  simp; omega
theorem okEnt_status {bs : List UInt8} {k : Nat} (h1 : ¬ ((bs.getD (446 + 16 * k) (0 : UInt8)).toNat : Int) = 0) (h2 : ¬ ((bs.getD (446 + 16 * k) (0 : UInt8)).toNat : Int) = 128) : okEnt bs k = false := by unfold okEnt; simp only [h1, h2]; rfl
theorem okEnt_eq {bs : List UInt8} {k : Nat} {a c : Int} (h : ((bs.getD (446 + 16 * k) (0 : UInt8)).toNat : Int) = 0 ∨ ((bs.getD (446 + 16 * k) (0 : UInt8)).toNat : Int) = 128) (e1 : a = ((bs.getD (446 + 16 * k + 4) (0 : UInt8)).toNat : Int)) (e2 : c = ((le ((bs.drop (446 + 16 * k + 12)).take 4) : Nat) : Int)) : okEnt bs k = decide (decide (a = 0) = decide (c = 0)) := by
  subst e1 e2; unfold okEnt
  have : (decide (((bs.getD (446 + 16 * k) (0 : UInt8)).toNat : Int) = 0) || decide (((bs.getD (446 + 16 * k) (0 : UInt8)).toNat : Int) = 128)) = true := by rcases h with h | h <;> rw [h] <;> rfl
  rw [this, Bool.true_and]
theorem le4_lt (bs : List UInt8) : -9223372036854775808 ≤ ((le (bs.take 4) : Nat) : Int) ∧ ((le (bs.take 4) : Nat) : Int) ≤ 9223372036854775807 := by
  have h1 := le_lt (bs.take 4)
  have h2 : 256 ^ (bs.take 4).length ≤ 256 ^ 4 := Nat.pow_le_pow_right (by omega) (by simp; omega)
  omega
theorem Entries_ok (w : World) (A : Option Addr) (bs : List UInt8) (c : Nat) (hA : Has [] w A (enc bs)) (hb : bs.length ≤ 1000000000000) :
    Ct Try.prog 74 [.slice A bs.length c] [] w (fun x : Option Nat × Nat => .tuple #[rowV x.1 (entriesL bs).1.length x.2, .int .i64 (entriesL bs).2]) (fun _ => True) (fun x => [rowC x.1 (entriesL bs).1.length x.2 156 3 (enc (entriesL bs).1)]) := by
  refine Ct.of_st Try.func74 rfl rfl (L := [(0, .slice A bs.length c)]) ⟨rfl, trivial⟩ ?_
  refine st_seq ?_
  refine st_region rfl ?_
  refine sr_assign rfl rfl rfl rfl ?_
  refine sr_assign rfl rfl rfl rfl ?_
  refine sr_end ?_
  refine st_seq ?_
  refine st_seq ?_
  refine st_region rfl ?_
  refine sr_move rfl rfl rfl rfl ?_
  refine sr_len rfl rfl rfl rfl el23 ?_
  refine sr_bin rfl rfl rfl rfl rfl b_neq ?_
  refine sr_end ?_
  refine st_if rfl (fun q1 => ?_) (fun q1 => ?_)
  · have hlen : bs.length ≠ 512 := (by simp at q1; omega)
    refine st_seq ?_
    refine st_region rfl ?_
    refine sr_assign rfl rfl rfl rfl ?_
    refine sr_assign rfl rfl rfl rfl ?_
    refine sr_end ?_
    refine st_nilrow 156 3 ?_
    exact st_retE2 (none, 0) [] 4 [0] Try.func74 rfl rfl rfl rfl (entriesL_len hlen)
  · have hlen : bs.length = 512 := (by simp at q1; omega)
    refine st_skip ?_
    refine st_seq ?_
    refine st_seq ?_
    refine st_region rfl ?_
    refine sr_move rfl rfl rfl rfl ?_
    obtain ⟨B1, O1, eA1, hg_B1, hb_B1⟩ := hA (enc_ne (by omega))
    refine sr_indexRoE rfl rfl rfl rfl rfl el23 eA1 (by omega) (by omega) ?_
    refine sr_loadAt (p := O1) (off := 510 * 1 + 0) rfl rfl rfl rfl rfl (has_cells hg_B1 hb_B1) (rd1 (i := 510) (j := 0) ag5 (0 : UInt8) (by omega) rfl) ?_
    refine sr_bin rfl rfl rfl rfl rfl b_neq ?_
    refine sr_move rfl rfl rfl rfl ?_
    refine sr_case (t := 19) rfl (fun gm => ?_) (fun gm => ?_)
    · have hmag : ¬ (((bs.getD 510 (0 : UInt8)).toNat : Int) = 85 ∧ ((bs.getD 511 (0 : UInt8)).toNat : Int) = 170) := (by rw [Bool.not_eq_true', decide_eq_false_iff_not] at gm; exact fun h => gm h.1)
      refine sr_off rfl rfl rfl ?_
      refine sr_off rfl rfl rfl ?_
      refine sr_off rfl rfl rfl ?_
      refine sr_off rfl rfl rfl ?_
      refine sr_pickT rfl rfl rfl rfl rfl ?_
      refine sr_end ?_
      refine st_true rfl ?_
      refine st_seq ?_
      refine st_region rfl ?_
      refine sr_assign rfl rfl rfl rfl ?_
      refine sr_assign rfl rfl rfl rfl ?_
      refine sr_end ?_
      refine st_nilrow 156 3 ?_
      exact st_retE2 (none, 0) [] 10 [0] Try.func74 rfl rfl rfl rfl (entriesL_magic hlen hmag)
    · rw [Bool.not_eq_false', decide_eq_true_iff] at gm
      refine sr_move rfl rfl rfl rfl ?_
      obtain ⟨B2, O2, eA2, hg_B2, hb_B2⟩ := hA (enc_ne (by omega))
      refine sr_indexRoE rfl rfl rfl rfl rfl el23 eA2 (by omega) (by omega) ?_
      refine sr_loadAt (p := O2) (off := 511 * 1 + 0) rfl rfl rfl rfl rfl (has_cells hg_B2 hb_B2) (rd1 (i := 511) (j := 0) ag5 (0 : UInt8) (by omega) rfl) ?_
      refine sr_bin rfl rfl rfl rfl rfl b_neq ?_
      refine sr_pickF rfl rfl rfl rfl rfl ?_
      refine sr_end ?_
      refine st_if rfl (fun qm => ?_) (fun qm => ?_)
      · have hmag : ¬ (((bs.getD 510 (0 : UInt8)).toNat : Int) = 85 ∧ ((bs.getD 511 (0 : UInt8)).toNat : Int) = 170) := (by rw [Bool.not_eq_true', decide_eq_false_iff_not] at qm; exact fun h => qm h.2)
        refine st_seq ?_
        refine st_region rfl ?_
        refine sr_assign rfl rfl rfl rfl ?_
        refine sr_assign rfl rfl rfl rfl ?_
        refine sr_end ?_
        refine st_nilrow 156 3 ?_
        exact st_retE2 (none, 0) [] 10 [0] Try.func74 rfl rfl rfl rfl (entriesL_magic hlen hmag)
      · have hmag : ((bs.getD 510 (0 : UInt8)).toNat : Int) = 85 ∧ ((bs.getD 511 (0 : UInt8)).toNat : Int) = 170 := ⟨gm, (by rw [Bool.not_eq_false', decide_eq_true_iff] at qm; exact qm)⟩
        refine st_skip ?_
        refine st_seq ?_
        refine st_region rfl ?_
        refine sr_assign rfl rfl rfl rfl ?_
        refine sr_end ?_
        refine st_seq ?_
        refine st_seq ?_
        refine st_region rfl ?_
        refine sr_move rfl rfl rfl rfl ?_
        refine sr_end ?_
        refine st_block ?_
        refine st_nilrow 156 3 ?_
        refine st_loop3 [0] (fun (k : Nat) (ro1 : Option Nat) (rc1 : Nat) => [(0, .slice A bs.length c), (4, rowV ro1 (((List.range k).map (entOf bs)).length) rc1), (25, .int .i64 (k : Int))]) (fun (k : Nat) (ro1 : Option Nat) (rc1 : Nat) => [rowC ro1 (((List.range k).map (entOf bs)).length) rc1 156 3 (enc ((List.range k).map (entOf bs)))]) (fun (k : Nat) (ro1 : Option Nat) (rc1 : Nat) => k ≤ 4 ∧ ∀ j, j < k → okEnt bs j = true) (fun (k : Nat) (ro1 : Option Nat) (rc1 : Nat) => 4 - k) 0 none 0 ⟨Nat.zero_le _, fun j hj => absurd hj (Nat.not_lt_zero _)⟩ ⟨rfl, rfl, rfl, trivial⟩ rfl (fun k ro1 rc1 hI hk1 => ?_)
        have hk4 := hI.1
        refine st_seq ?_
        refine st_region rfl ?_
        refine sr_bin rfl rfl rfl rfl rfl b_lss ?_
        refine sr_end ?_
        refine st_seq ?_
        refine st_ifD rfl (fun q2 => ?_) (fun q2 => ?_)
        · skip
          refine st_skip ?_
          refine st_seq ?_
          refine st_block ?_
          refine st_seq ?_
          refine st_region rfl ?_
          refine sr_move rfl rfl rfl rfl ?_
          refine sr_assign rfl rfl rfl rfl ?_
          refine sr_end ?_
          refine st_seq ?_
          refine st_region rfl ?_
          refine sr_move rfl rfl rfl rfl ?_
          refine sr_callM [] rfl rfl rfl rfl en93 rfl (fun w hh => mrow_ok w _ (by omega) (by omega)) ?_
          rintro ⟨⟩ -
          refine sr_assign rfl rfl rfl rfl ?_
          refine sr_end ?_
          refine st_seq ?_
          refine st_seq ?_
          refine st_region rfl ?_
          refine sr_move rfl rfl rfl rfl ?_
          refine sr_move rfl rfl rfl rfl ?_
          obtain ⟨B3, O3, eA3, hg_B3, hb_B3⟩ := hA (enc_ne (by omega))
          refine sr_indexRoE rfl rfl rfl rfl rfl el23 eA3 (by (try simp only [List.length_append, List.length_cons, List.length_nil, List.length_set, List.length_replicate, List.length_take, List.length_drop, List.length_map, List.length_range, bytesN_length] at *); omega) (by (try simp only [List.length_append, List.length_cons, List.length_nil, List.length_set, List.length_replicate, List.length_take, List.length_drop, List.length_map, List.length_range, bytesN_length] at *); omega) ?_
          refine sr_loadAt (p := O3) (off := (446 + 16 * k) * 1 + 0) rfl rfl rfl rfl (by omega) (has_cells hg_B3 hb_B3) (rd1 (i := 446 + 16 * k) (j := 0) ag5 (0 : UInt8) (by omega) rfl) ?_
          refine sr_bin rfl rfl rfl rfl rfl b_neq ?_
          refine sr_move rfl rfl rfl rfl ?_
          refine sr_case (t := 35) rfl (fun gs => ?_) (fun gs => ?_)
          · rw [Bool.not_eq_true', decide_eq_false_iff_not] at gs
            refine sr_move rfl rfl rfl rfl ?_
            refine sr_move rfl rfl rfl rfl ?_
            obtain ⟨B4, O4, eA4, hg_B4, hb_B4⟩ := hA (enc_ne (by omega))
            refine sr_indexRoE rfl rfl rfl rfl rfl el23 eA4 (by (try simp only [List.length_append, List.length_cons, List.length_nil, List.length_set, List.length_replicate, List.length_take, List.length_drop, List.length_map, List.length_range, bytesN_length] at *); omega) (by (try simp only [List.length_append, List.length_cons, List.length_nil, List.length_set, List.length_replicate, List.length_take, List.length_drop, List.length_map, List.length_range, bytesN_length] at *); omega) ?_
            refine sr_loadAt (p := O4) (off := (446 + 16 * k) * 1 + 0) rfl rfl rfl rfl (by omega) (has_cells hg_B4 hb_B4) (rd1 (i := 446 + 16 * k) (j := 0) ag5 (0 : UInt8) (by omega) rfl) ?_
            refine sr_bin rfl rfl rfl rfl rfl b_neq ?_
            refine sr_pickT rfl rfl rfl rfl rfl ?_
            refine sr_end ?_
            refine st_if rfl (fun qs => ?_) (fun qs => ?_)
            · have hbad := okEnt_status gs (by rw [Bool.not_eq_true', decide_eq_false_iff_not] at qs; exact qs)
              refine st_seq ?_
              refine st_region rfl ?_
              refine sr_assign rfl rfl rfl rfl ?_
              refine sr_assign rfl rfl rfl rfl ?_
              refine sr_end ?_
              refine st_nilrow 156 3 ?_
              exact st_retE2 (none, 0) [] 11 [0] Try.func74 rfl rfl rfl rfl (entriesL_bad hlen hmag (by omega) hbad)
            · have hst : ((bs.getD (446 + 16 * k) (0 : UInt8)).toNat : Int) = 0 ∨ ((bs.getD (446 + 16 * k) (0 : UInt8)).toNat : Int) = 128 := .inr (by rw [Bool.not_eq_false', decide_eq_true_iff] at qs; exact qs)
              refine st_skip ?_
              refine st_seq ?_
              have l8 := leAt_in (bs := bs) (n := 4) (446 + 16 * k + 8) (a := 446 + 16 * (k : Int) + 8) (by omega) (by omega)
              have l12 := leAt_in (bs := bs) (n := 4) (446 + 16 * k + 12) (a := 446 + 16 * (k : Int) + 12) (by omega) (by omega)
              refine st_region rfl ?_
              refine sr_move rfl rfl rfl rfl ?_
              refine sr_move rfl rfl rfl rfl ?_
              refine sr_bin rfl rfl rfl rfl rfl (b_addI (by (try simp only [List.length_append, List.length_cons, List.length_nil, List.length_set, List.length_replicate, List.length_take, List.length_drop, List.length_map, List.length_range, bytesN_length] at *); omega) (by (try simp only [List.length_append, List.length_cons, List.length_nil, List.length_set, List.length_replicate, List.length_take, List.length_drop, List.length_map, List.length_range, bytesN_length] at *); omega)) ?_
              refine sr_callM [] rfl rfl rfl rfl en65 rfl (fun w hh => U32_ok w _ bs _ _ (hA.heap0 hh) (by omega) (by omega) (by omega)) ?_
              rintro ⟨⟩ -
              refine sr_move rfl rfl rfl rfl ?_
              refine sr_extract rfl rfl rfl rfl rfl ?_
              refine sr_extract rfl rfl rfl rfl rfl ?_
              refine sr_assign rfl rfl rfl rfl ?_
              refine sr_assign rfl rfl rfl rfl ?_
              refine sr_end ?_
              refine st_seq ?_
              refine st_region rfl ?_
              refine sr_move rfl rfl rfl rfl ?_
              refine sr_move rfl rfl rfl rfl ?_
              refine sr_bin rfl rfl rfl rfl rfl (b_addI (by (try simp only [List.length_append, List.length_cons, List.length_nil, List.length_set, List.length_replicate, List.length_take, List.length_drop, List.length_map, List.length_range, bytesN_length] at *); omega) (by (try simp only [List.length_append, List.length_cons, List.length_nil, List.length_set, List.length_replicate, List.length_take, List.length_drop, List.length_map, List.length_range, bytesN_length] at *); omega)) ?_
              refine sr_callM [] rfl rfl rfl rfl en65 rfl (fun w hh => U32_ok w _ bs _ _ (hA.heap0 hh) (by omega) (by omega) (by omega)) ?_
              rintro ⟨⟩ -
              refine sr_move rfl rfl rfl rfl ?_
              refine sr_extract rfl rfl rfl rfl rfl ?_
              refine sr_extract rfl rfl rfl rfl rfl ?_
              refine sr_assign rfl rfl rfl rfl ?_
              refine sr_assign rfl rfl rfl rfl ?_
              refine sr_end ?_
              refine st_seq ?_
              refine st_region rfl ?_
              refine sr_move rfl rfl rfl rfl ?_
              refine sr_move rfl rfl rfl rfl ?_
              refine sr_bin rfl rfl rfl rfl rfl (b_addI (by (try simp only [List.length_append, List.length_cons, List.length_nil, List.length_set, List.length_replicate, List.length_take, List.length_drop, List.length_map, List.length_range, bytesN_length] at *); omega) (by (try simp only [List.length_append, List.length_cons, List.length_nil, List.length_set, List.length_replicate, List.length_take, List.length_drop, List.length_map, List.length_range, bytesN_length] at *); omega)) ?_
              obtain ⟨B5, O5, eA5, hg_B5, hb_B5⟩ := hA (enc_ne (by omega))
              refine sr_indexRoE rfl rfl rfl rfl rfl el23 eA5 (by (try simp only [List.length_append, List.length_cons, List.length_nil, List.length_set, List.length_replicate, List.length_take, List.length_drop, List.length_map, List.length_range, bytesN_length] at *); omega) (by (try simp only [List.length_append, List.length_cons, List.length_nil, List.length_set, List.length_replicate, List.length_take, List.length_drop, List.length_map, List.length_range, bytesN_length] at *); omega) ?_
              refine sr_loadAt (p := O5) (off := (446 + 16 * k + 4) * 1 + 0) rfl rfl rfl rfl (by omega) (has_cells hg_B5 hb_B5) (rd1 (i := 446 + 16 * k + 4) (j := 0) ag5 (0 : UInt8) (by omega) rfl) ?_
              refine sr_conv rfl rfl rfl rfl (cvB (bs.getD (446 + 16 * k + 4) (0 : UInt8)) ki5 ki3 (by decide)) ?_
              refine sr_move rfl rfl rfl rfl ?_
              refine sr_conv rfl rfl rfl rfl (cv ki131 ki2 (w_i64 (by rw [l8]; exact le4_lt _))) ?_
              refine sr_move rfl rfl rfl rfl ?_
              refine sr_conv rfl rfl rfl rfl (cv ki131 ki2 (w_i64 (by rw [l12]; exact le4_lt _))) ?_
              refine sr_build (cs := [.int .i64 ((bs.getD (446 + 16 * k + 4) (0 : UInt8)).toNat : Int), .int .i64 ((leAt bs ((446 + 16 * (k : Int)) + 8) 4).1 : Int), .int .i64 ((leAt bs ((446 + 16 * (k : Int)) + 12) 4).1 : Int)]) rfl rfl rfl rfl (fun _ => by kernel_rfl) ?_
              refine sr_alloc rfl rfl rfl ze156 (fun b1 => ?_)
              refine sr_store (k := 0) rfl rfl rfl rfl rfl sz156 rfl rfl rfl rfl ?_
              refine sr_end ?_
              refine st_seq ?_
              refine st_seq ?_
              refine st_region rfl ?_
              refine sr_fieldAddr (m := 0) rfl rfl rfl rfl fd156_0 rfl ?_
              refine sr_load1 (k := 0) rfl rfl rfl rfl rfl ag3 rfl ?_
              refine sr_bin rfl rfl rfl rfl rfl b_eql ?_
              refine sr_fieldAddr (m := 2) rfl rfl rfl rfl fd156_2 rfl ?_
              refine sr_load1 (k := 0) rfl rfl rfl rfl rfl ag2 rfl ?_
              refine sr_bin rfl rfl rfl rfl rfl b_eql ?_
              refine sr_bin rfl rfl rfl rfl rfl (b_neqB bo4) ?_
              refine sr_end ?_
              refine st_if rfl (fun qf => ?_) (fun qf => ?_)
              · have hbad : okEnt bs k = false := (okEnt_eq (a := ((bs.getD (446 + 16 * k + 4) (0 : UInt8)).toNat : Int)) (c := ((leAt bs (446 + 16 * (k : Int) + 12) 4).1 : Int)) hst rfl (by rw [l12])).trans (by rw [Bool.not_eq_true'] at qf; exact qf)
                refine st_seq ?_
                refine st_region rfl ?_
                refine sr_assign rfl rfl rfl rfl ?_
                refine sr_assign rfl rfl rfl rfl ?_
                refine sr_end ?_
                refine st_nilrow 156 3 ?_
                exact st_retE2 (none, 0) [] 11 [0] Try.func74 rfl rfl rfl rfl (entriesL_bad hlen hmag (by omega) hbad)
              · have hqf := qf
                refine st_skip ?_
                refine st_region rfl ?_
                refine sr_move rfl rfl rfl rfl ?_
                refine sr_loadN (k := 0) (vs := [.int .i64 ((bs.getD (446 + 16 * k + 4) (0 : UInt8)).toNat : Int), .int .i64 ((leAt bs ((446 + 16 * (k : Int)) + 8) 4).1 : Int), .int .i64 ((leAt bs ((446 + 16 * (k : Int)) + 12) 4).1 : Int)]) rfl rfl rfl rfl rfl ag156 sz156 rfl rfl ?_
                refine sr_buildSlice (vs := [.agg #[.int .i64 ((bs.getD (446 + 16 * k + 4) (0 : UInt8)).toNat : Int), .int .i64 ((leAt bs ((446 + 16 * (k : Int)) + 8) 4).1 : Int), .int .i64 ((leAt bs ((446 + 16 * (k : Int)) + 12) 4).1 : Int)]]) (cs := enc ([(⟨((bs.getD (446 + 16 * k + 4) (0 : UInt8)).toNat : Int), ((leAt bs ((446 + 16 * (k : Int)) + 8) 4).1 : Int), ((leAt bs ((446 + 16 * (k : Int)) + 12) 4).1 : Int)⟩ : EntryV)] : List EntryV)) rfl rfl rfl rfl el152 rfl ze156 rfl (all_cons rfl all_nil) rfl rfl (fun b2 => ?_)
                refine sr_appendE (q := 2) (xs := (List.range k).map (entOf bs)) ([(⟨((bs.getD (446 + 16 * k + 4) (0 : UInt8)).toNat : Int), ((leAt bs ((446 + 16 * (k : Int)) + 8) 4).1 : Int), ((leAt bs ((446 + 16 * (k : Int)) + 12) 4).1 : Int)⟩ : EntryV)] : List EntryV) rfl rfl rfl rfl rfl el152 el152 rfl ze156 rfl by156 rfl (fun w hh => (rowC_has (hh.hp.get (i := 0) rfl))) rfl rfl (by (try simp only [List.length_append, List.length_cons, List.length_nil, List.length_set, List.length_replicate, List.length_take, List.length_drop, List.length_map, List.length_range, bytesN_length] at *); omega) rfl (fun o1 cap1 => ?_)
                refine sr_assign rfl rfl rfl rfl ?_
                refine sr_end ?_
                refine st_inBlock ?_
                refine st_region rfl ?_
                refine sr_bin rfl rfl rfl rfl rfl (b_addI (by (try simp only [List.length_append, List.length_cons, List.length_nil, List.length_set, List.length_replicate, List.length_take, List.length_drop, List.length_map, List.length_range, bytesN_length] at *); omega) (by (try simp only [List.length_append, List.length_cons, List.length_nil, List.length_set, List.length_replicate, List.length_take, List.length_drop, List.length_map, List.length_range, bytesN_length] at *); omega)) ?_
                refine sr_move rfl rfl rfl rfl ?_
                refine sr_end ?_
                have hok : okEnt bs k = true := (okEnt_eq (a := ((bs.getD (446 + 16 * k + 4) (0 : UInt8)).toNat : Int)) (c := ((leAt bs (446 + 16 * (k : Int) + 12) 4).1 : Int)) hst rfl (by rw [l12])).trans (by rw [Bool.not_eq_false'] at hqf; exact hqf)
                refine st_row 0 (((List.range (k + 1)).map (entOf bs)).length) (enc ((List.range (k + 1)).map (entOf bs))) rfl (by simp) (congrArg enc (by rw [List.range_succ, List.map_append]; simp only [List.map_cons, List.map_nil, entOf, l8, l12])) ?_
                refine st_val 4 rfl (congrArg (fun z => rowV o1 z cap1) (by simp)) (v' := rowV o1 (((List.range (k + 1)).map (entOf bs)).length) cap1) ?_
                exact st_go [0] (hk1 (k + 1) o1 cap1 ⟨by omega, fun j hj => (Nat.lt_succ_iff_lt_or_eq.1 hj).elim (hI.2 j) (fun h => h ▸ hok)⟩ (by omega)) ⟨rfl, rfl, congrArg (fun z : Int => some (Value.int .i64 z)) (by omega), trivial⟩ rfl
          · have hst : ((bs.getD (446 + 16 * k) (0 : UInt8)).toNat : Int) = 0 ∨ ((bs.getD (446 + 16 * k) (0 : UInt8)).toNat : Int) = 128 := .inl (by rw [Bool.not_eq_false', decide_eq_true_iff] at gs; exact gs)
            refine sr_off rfl rfl rfl ?_
            refine sr_off rfl rfl rfl ?_
            refine sr_off rfl rfl rfl ?_
            refine sr_off rfl rfl rfl ?_
            refine sr_off rfl rfl rfl ?_
            refine sr_pickF rfl rfl rfl rfl rfl ?_
            refine sr_end ?_
            refine st_false rfl ?_
            refine st_skip ?_
            refine st_seq ?_
            have l8 := leAt_in (bs := bs) (n := 4) (446 + 16 * k + 8) (a := 446 + 16 * (k : Int) + 8) (by omega) (by omega)
            have l12 := leAt_in (bs := bs) (n := 4) (446 + 16 * k + 12) (a := 446 + 16 * (k : Int) + 12) (by omega) (by omega)
            refine st_region rfl ?_
            refine sr_move rfl rfl rfl rfl ?_
            refine sr_move rfl rfl rfl rfl ?_
            refine sr_bin rfl rfl rfl rfl rfl (b_addI (by (try simp only [List.length_append, List.length_cons, List.length_nil, List.length_set, List.length_replicate, List.length_take, List.length_drop, List.length_map, List.length_range, bytesN_length] at *); omega) (by (try simp only [List.length_append, List.length_cons, List.length_nil, List.length_set, List.length_replicate, List.length_take, List.length_drop, List.length_map, List.length_range, bytesN_length] at *); omega)) ?_
            refine sr_callM [] rfl rfl rfl rfl en65 rfl (fun w hh => U32_ok w _ bs _ _ (hA.heap0 hh) (by omega) (by omega) (by omega)) ?_
            rintro ⟨⟩ -
            refine sr_move rfl rfl rfl rfl ?_
            refine sr_extract rfl rfl rfl rfl rfl ?_
            refine sr_extract rfl rfl rfl rfl rfl ?_
            refine sr_assign rfl rfl rfl rfl ?_
            refine sr_assign rfl rfl rfl rfl ?_
            refine sr_end ?_
            refine st_seq ?_
            refine st_region rfl ?_
            refine sr_move rfl rfl rfl rfl ?_
            refine sr_move rfl rfl rfl rfl ?_
            refine sr_bin rfl rfl rfl rfl rfl (b_addI (by (try simp only [List.length_append, List.length_cons, List.length_nil, List.length_set, List.length_replicate, List.length_take, List.length_drop, List.length_map, List.length_range, bytesN_length] at *); omega) (by (try simp only [List.length_append, List.length_cons, List.length_nil, List.length_set, List.length_replicate, List.length_take, List.length_drop, List.length_map, List.length_range, bytesN_length] at *); omega)) ?_
            refine sr_callM [] rfl rfl rfl rfl en65 rfl (fun w hh => U32_ok w _ bs _ _ (hA.heap0 hh) (by omega) (by omega) (by omega)) ?_
            rintro ⟨⟩ -
            refine sr_move rfl rfl rfl rfl ?_
            refine sr_extract rfl rfl rfl rfl rfl ?_
            refine sr_extract rfl rfl rfl rfl rfl ?_
            refine sr_assign rfl rfl rfl rfl ?_
            refine sr_assign rfl rfl rfl rfl ?_
            refine sr_end ?_
            refine st_seq ?_
            refine st_region rfl ?_
            refine sr_move rfl rfl rfl rfl ?_
            refine sr_move rfl rfl rfl rfl ?_
            refine sr_bin rfl rfl rfl rfl rfl (b_addI (by (try simp only [List.length_append, List.length_cons, List.length_nil, List.length_set, List.length_replicate, List.length_take, List.length_drop, List.length_map, List.length_range, bytesN_length] at *); omega) (by (try simp only [List.length_append, List.length_cons, List.length_nil, List.length_set, List.length_replicate, List.length_take, List.length_drop, List.length_map, List.length_range, bytesN_length] at *); omega)) ?_
            obtain ⟨B6, O6, eA6, hg_B6, hb_B6⟩ := hA (enc_ne (by omega))
            refine sr_indexRoE rfl rfl rfl rfl rfl el23 eA6 (by (try simp only [List.length_append, List.length_cons, List.length_nil, List.length_set, List.length_replicate, List.length_take, List.length_drop, List.length_map, List.length_range, bytesN_length] at *); omega) (by (try simp only [List.length_append, List.length_cons, List.length_nil, List.length_set, List.length_replicate, List.length_take, List.length_drop, List.length_map, List.length_range, bytesN_length] at *); omega) ?_
            refine sr_loadAt (p := O6) (off := (446 + 16 * k + 4) * 1 + 0) rfl rfl rfl rfl (by omega) (has_cells hg_B6 hb_B6) (rd1 (i := 446 + 16 * k + 4) (j := 0) ag5 (0 : UInt8) (by omega) rfl) ?_
            refine sr_conv rfl rfl rfl rfl (cvB (bs.getD (446 + 16 * k + 4) (0 : UInt8)) ki5 ki3 (by decide)) ?_
            refine sr_move rfl rfl rfl rfl ?_
            refine sr_conv rfl rfl rfl rfl (cv ki131 ki2 (w_i64 (by rw [l8]; exact le4_lt _))) ?_
            refine sr_move rfl rfl rfl rfl ?_
            refine sr_conv rfl rfl rfl rfl (cv ki131 ki2 (w_i64 (by rw [l12]; exact le4_lt _))) ?_
            refine sr_build (cs := [.int .i64 ((bs.getD (446 + 16 * k + 4) (0 : UInt8)).toNat : Int), .int .i64 ((leAt bs ((446 + 16 * (k : Int)) + 8) 4).1 : Int), .int .i64 ((leAt bs ((446 + 16 * (k : Int)) + 12) 4).1 : Int)]) rfl rfl rfl rfl (fun _ => by kernel_rfl) ?_
            refine sr_alloc rfl rfl rfl ze156 (fun b3 => ?_)
            refine sr_store (k := 0) rfl rfl rfl rfl rfl sz156 rfl rfl rfl rfl ?_
            refine sr_end ?_
            refine st_seq ?_
            refine st_seq ?_
            refine st_region rfl ?_
            refine sr_fieldAddr (m := 0) rfl rfl rfl rfl fd156_0 rfl ?_
            refine sr_load1 (k := 0) rfl rfl rfl rfl rfl ag3 rfl ?_
            refine sr_bin rfl rfl rfl rfl rfl b_eql ?_
            refine sr_fieldAddr (m := 2) rfl rfl rfl rfl fd156_2 rfl ?_
            refine sr_load1 (k := 0) rfl rfl rfl rfl rfl ag2 rfl ?_
            refine sr_bin rfl rfl rfl rfl rfl b_eql ?_
            refine sr_bin rfl rfl rfl rfl rfl (b_neqB bo4) ?_
            refine sr_end ?_
            refine st_if rfl (fun qf => ?_) (fun qf => ?_)
            · have hbad : okEnt bs k = false := (okEnt_eq (a := ((bs.getD (446 + 16 * k + 4) (0 : UInt8)).toNat : Int)) (c := ((leAt bs (446 + 16 * (k : Int) + 12) 4).1 : Int)) hst rfl (by rw [l12])).trans (by rw [Bool.not_eq_true'] at qf; exact qf)
              refine st_seq ?_
              refine st_region rfl ?_
              refine sr_assign rfl rfl rfl rfl ?_
              refine sr_assign rfl rfl rfl rfl ?_
              refine sr_end ?_
              refine st_nilrow 156 3 ?_
              exact st_retE2 (none, 0) [] 11 [0] Try.func74 rfl rfl rfl rfl (entriesL_bad hlen hmag (by omega) hbad)
            · have hqf := qf
              refine st_skip ?_
              refine st_region rfl ?_
              refine sr_move rfl rfl rfl rfl ?_
              refine sr_loadN (k := 0) (vs := [.int .i64 ((bs.getD (446 + 16 * k + 4) (0 : UInt8)).toNat : Int), .int .i64 ((leAt bs ((446 + 16 * (k : Int)) + 8) 4).1 : Int), .int .i64 ((leAt bs ((446 + 16 * (k : Int)) + 12) 4).1 : Int)]) rfl rfl rfl rfl rfl ag156 sz156 rfl rfl ?_
              refine sr_buildSlice (vs := [.agg #[.int .i64 ((bs.getD (446 + 16 * k + 4) (0 : UInt8)).toNat : Int), .int .i64 ((leAt bs ((446 + 16 * (k : Int)) + 8) 4).1 : Int), .int .i64 ((leAt bs ((446 + 16 * (k : Int)) + 12) 4).1 : Int)]]) (cs := enc ([(⟨((bs.getD (446 + 16 * k + 4) (0 : UInt8)).toNat : Int), ((leAt bs ((446 + 16 * (k : Int)) + 8) 4).1 : Int), ((leAt bs ((446 + 16 * (k : Int)) + 12) 4).1 : Int)⟩ : EntryV)] : List EntryV)) rfl rfl rfl rfl el152 rfl ze156 rfl (all_cons rfl all_nil) rfl rfl (fun b4 => ?_)
              refine sr_appendE (q := 2) (xs := (List.range k).map (entOf bs)) ([(⟨((bs.getD (446 + 16 * k + 4) (0 : UInt8)).toNat : Int), ((leAt bs ((446 + 16 * (k : Int)) + 8) 4).1 : Int), ((leAt bs ((446 + 16 * (k : Int)) + 12) 4).1 : Int)⟩ : EntryV)] : List EntryV) rfl rfl rfl rfl rfl el152 el152 rfl ze156 rfl by156 rfl (fun w hh => (rowC_has (hh.hp.get (i := 0) rfl))) rfl rfl (by (try simp only [List.length_append, List.length_cons, List.length_nil, List.length_set, List.length_replicate, List.length_take, List.length_drop, List.length_map, List.length_range, bytesN_length] at *); omega) rfl (fun o2 cap2 => ?_)
              refine sr_assign rfl rfl rfl rfl ?_
              refine sr_end ?_
              refine st_inBlock ?_
              refine st_region rfl ?_
              refine sr_bin rfl rfl rfl rfl rfl (b_addI (by (try simp only [List.length_append, List.length_cons, List.length_nil, List.length_set, List.length_replicate, List.length_take, List.length_drop, List.length_map, List.length_range, bytesN_length] at *); omega) (by (try simp only [List.length_append, List.length_cons, List.length_nil, List.length_set, List.length_replicate, List.length_take, List.length_drop, List.length_map, List.length_range, bytesN_length] at *); omega)) ?_
              refine sr_move rfl rfl rfl rfl ?_
              refine sr_end ?_
              have hok : okEnt bs k = true := (okEnt_eq (a := ((bs.getD (446 + 16 * k + 4) (0 : UInt8)).toNat : Int)) (c := ((leAt bs (446 + 16 * (k : Int) + 12) 4).1 : Int)) hst rfl (by rw [l12])).trans (by rw [Bool.not_eq_false'] at hqf; exact hqf)
              refine st_row 0 (((List.range (k + 1)).map (entOf bs)).length) (enc ((List.range (k + 1)).map (entOf bs))) rfl (by simp) (congrArg enc (by rw [List.range_succ, List.map_append]; simp only [List.map_cons, List.map_nil, entOf, l8, l12])) ?_
              refine st_val 4 rfl (congrArg (fun z => rowV o2 z cap2) (by simp)) (v' := rowV o2 (((List.range (k + 1)).map (entOf bs)).length) cap2) ?_
              exact st_go [0] (hk1 (k + 1) o2 cap2 ⟨by omega, fun j hj => (Nat.lt_succ_iff_lt_or_eq.1 hj).elim (hI.2 j) (fun h => h ▸ hok)⟩ (by omega)) ⟨rfl, rfl, congrArg (fun z : Int => some (Value.int .i64 z)) (by omega), trivial⟩ rfl
        · skip
          refine st_exit rfl ?_
          refine st_seq ?_
          refine st_region rfl ?_
          refine sr_move rfl rfl rfl rfl ?_
          refine sr_assign rfl rfl rfl rfl ?_
          refine sr_assign rfl rfl rfl rfl ?_
          refine sr_end ?_
          exact st_retE2 (ro1, rc1) ((List.range k).map (entOf bs)) 0 [0] Try.func74 rfl rfl rfl rfl (entriesL_ok hlen hmag (by omega) hI.2)

end Try
end Go.Sl
