/- A part of the proof: words and contracts that the row is built on. -/
import Derived.Test.YtjngkghhdphfcaaG10
namespace Go.Sl
open Go.RowKit Go.Proofs
set_option linter.unusedVariables false
set_option linter.unusedSimpArgs false
set_option maxRecDepth 10000
namespace Try
theorem ag111 : aggB Try.prog 111 = some true := by kernel_rfl
theorem ag56 : aggB Try.prog 56 = some true := by kernel_rfl
theorem en73 : entB Try.prog 73 = true := by kernel_rfl
theorem en74 : entB Try.prog 74 = true := by kernel_rfl
theorem en75 : entB Try.prog 75 = true := by kernel_rfl
theorem en78 : entB Try.prog 78 = true := by kernel_rfl
theorem fd111_0 : fldOf Try.prog 111 0 = some 0 := by kernel_rfl
theorem fd56_3 : fldOf Try.prog 56 3 = some 4 := by kernel_rfl
theorem if43 : (match (Try.prog).underlying 43 with | some (.interface _) => true | _ => false) = true := by kernel_rfl
theorem sz111 : szOf Try.prog 111 = some 4 := by kernel_rfl
theorem sz4 : szOf Try.prog 4 = some 1 := by kernel_rfl
theorem sz56 : szOf Try.prog 56 = some 5 := by kernel_rfl
theorem ze56 : zeroOf Try.prog 56 = some (.agg #[.slice none 0 0, .slice none 0 0, .int .i64 0, .int .i64 0, .bool false]) := by kernel_rfl
structure TableV where
  parts : List PartV
  held : List (Int × Int)
  inner : Int × Int
  guard : Bool
def zeroT : TableV := ⟨[], [], (0, 0), false⟩
def scanF (len : Int) : List EntryV → Int → List PartV → Bool → Int × List PartV × Bool
  | [], _, ps, g => (0, ps, g)
  | x :: l, i, ps, g => if x.type = 0 then scanF len l (i + 1) ps g else if x.type = 238 then scanF len l (i + 1) ps true else if (addF len 0 x i ps).1 ≠ 0 then ((addF len 0 x i ps).1, (addF len 0 x i ps).2, g) else scanF len l (i + 1) (addF len 0 x i ps).2 g
def mbr0F (bs : List UInt8) : TableV × Int :=
  if (sectF bs 0 []).1.2 ≠ 0 then (zeroT, (sectF bs 0 []).1.2) else
  if (entriesL (sectF bs 0 []).1.1).2 ≠ 0 then (zeroT, (entriesL (sectF bs 0 []).1.1).2) else
  if (scanF bs.length (entriesL (sectF bs 0 []).1.1).1 0 [] false).1 ≠ 0 then (zeroT, (scanF bs.length (entriesL (sectF bs 0 []).1.1).1 0 [] false).1) else
  if apartF ((scanF bs.length (entriesL (sectF bs 0 []).1.1).1 0 [] false).2.1.map PartV.ext) = true ∧ apartF ((sectF bs 0 []).2 ++ (scanF bs.length (entriesL (sectF bs 0 []).1.1).1 0 [] false).2.1.map PartV.ext) = true then
    (⟨(scanF bs.length (entriesL (sectF bs 0 []).1.1).1 0 [] false).2.1, (sectF bs 0 []).2, (0, 0), (scanF bs.length (entriesL (sectF bs 0 []).1.1).1 0 [] false).2.2⟩, 0) else (zeroT, 14)
theorem le_lt4 (bs : List UInt8) : le (bs.take 4) ≤ 4294967295 := by
  have h1 := le_lt (bs.take 4)
  have h2 : 256 ^ (bs.take 4).length ≤ 256 ^ 4 := Nat.pow_le_pow_right (by omega) (by simp; omega)
  omega
theorem okEnt_zero {bs : List UInt8} {k : Nat} (h : okEnt bs k = true) : (entOf bs k).type = 0 ↔ (entOf bs k).count = 0 := by
  unfold okEnt at h
  simp only [Bool.and_eq_true, decide_eq_true_eq] at h
  have := h.2
  simp only [entOf]
  constructor
  · intro h1; rw [decide_eq_true h1] at this; exact of_decide_eq_true this.symm
  · intro h1; rw [decide_eq_true h1] at this; exact of_decide_eq_true this
def GoodEnt (x : EntryV) : Prop := 0 ≤ x.type ∧ x.type ≤ 255 ∧ 0 ≤ x.first ∧ x.first ≤ 4294967295 ∧ 0 ≤ x.count ∧ x.count ≤ 4294967295 ∧ (x.type = 0 ↔ x.count = 0)
theorem entriesL_good {bs : List UInt8} (h : (entriesL bs).2 = 0) : (entriesL bs).1.length = 4 ∧ ∀ x ∈ (entriesL bs).1, GoodEnt x := by
  unfold entriesL at h ⊢
  split at h
  · simp at h
  · rename_i h1
    split at h
    · simp at h
    · rename_i h2
      split at h
      · rename_i h3
        rw [if_neg h1, if_neg h2, if_pos h3]
        rw [List.all_eq_true] at h3
        refine ⟨by simp, fun x hx => ?_⟩
        obtain ⟨k, hk, rfl⟩ := List.mem_map.1 hx
        have h4 := okEnt_zero (h3 k hk)
        have h5 := byte_lt (bs.getD (446 + 16 * k + 4) 0)
        have h6 := le_lt4 (bs.drop (446 + 16 * k + 8))
        have h7 := le_lt4 (bs.drop (446 + 16 * k + 12))
        refine ⟨by simp only [entOf]; omega, by simp only [entOf]; omega, by simp only [entOf]; omega, by simp only [entOf]; omega, by simp only [entOf]; omega, by simp only [entOf]; omega, h4⟩
      · simp at h
theorem entry_mem {l : List EntryV} {k : Nat} (h : k < l.length) : l.getD k (⟨0, 0, 0⟩ : EntryV) ∈ l := by
  rw [List.getD_eq_getElem?_getD, List.getElem?_eq_getElem h]; exact List.getElem_mem h
def PartsIn (len : Int) (ps : List PartV) : Prop := ∀ p ∈ ps, 512 ≤ p.ext.1 ∧ p.ext.1 ≤ p.ext.2 ∧ p.ext.2 ≤ len
theorem addF_in {len base slot : Int} {x : EntryV} {ps : List PartV} (h : PartsIn len ps) (hc : 0 ≤ x.count) : PartsIn len (addF len base x slot ps).2 := by
  unfold addF
  split
  · exact h
  · rename_i h1
    split
    · exact h
    · intro p hp
      simp only [List.mem_append, List.mem_singleton] at hp
      rcases hp with hp | rfl
      · exact h p hp
      · unfold extF at h1 ⊢
        split
        · rename_i h2; rw [if_pos h2] at h1; simp at h1
        · simp only; omega
theorem addF_len {len base slot : Int} {x : EntryV} {ps : List PartV} : (addF len base x slot ps).2.length ≤ ps.length + 1 := by
  unfold addF
  split
  · simp
  · split
    · simp
    · simp
theorem PartsIn.within {len : Int} {ps : List PartV} (h : PartsIn len ps) (hl : len ≤ 1125899906842624) : Within (-1125899906842624) 1125899906842624 (ps.map PartV.ext) := by
  intro p hp
  obtain ⟨q, hq, rfl⟩ := List.mem_map.1 hp
  have := h q hq
  omega
theorem Within.append {lo hi : Int} {a b : List (Int × Int)} (ha : Within lo hi a) (hb : Within lo hi b) : Within lo hi (a ++ b) := by
  intro p hp
  rcases List.mem_append.1 hp with h | h
  · exact ha p h
  · exact hb p h
theorem scanF_at {len : Int} {l : List EntryV} {k : Nat} {i : Int} {ps : List PartV} {g : Bool} (h : k < l.length) : scanF len (l.drop k) i ps g = if (l.getD k (⟨0, 0, 0⟩ : EntryV)).type = 0 then scanF len (l.drop (k + 1)) (i + 1) ps g else if (l.getD k (⟨0, 0, 0⟩ : EntryV)).type = 238 then scanF len (l.drop (k + 1)) (i + 1) ps true else if (addF len 0 (l.getD k (⟨0, 0, 0⟩ : EntryV)) i ps).1 ≠ 0 then ((addF len 0 (l.getD k (⟨0, 0, 0⟩ : EntryV)) i ps).1, (addF len 0 (l.getD k (⟨0, 0, 0⟩ : EntryV)) i ps).2, g) else scanF len (l.drop (k + 1)) (i + 1) (addF len 0 (l.getD k (⟨0, 0, 0⟩ : EntryV)) i ps).2 g := by
  rw [List.drop_eq_getElem_cons h]
  have e : l.getD k (⟨0, 0, 0⟩ : EntryV) = l[k] := by simp [List.getD_eq_getElem?_getD, h]
  rw [e]; rfl
theorem sectF_zero {bs : List UInt8} (h : (sectF bs 0 []).1.2 = 0) : (sectF bs 0 []).1.1.length = 512 ∧ (sectF bs 0 []).2 = [(0, 512)] ∧ 512 ≤ bs.length := by
  unfold sectF at h ⊢
  split at h
  · simp at h
  · rename_i h1
    rw [if_neg h1]
    refine ⟨by simp; omega, by simp, by omega⟩
theorem part_succ {ps : List PartV} {k : Nat} (h : k < ps.length) : (ps.take (k + 1)).map PartV.ext = (ps.take k).map PartV.ext ++ [(ps.getD k (⟨(0, 0), 0, 0⟩ : PartV)).ext] := by
  rw [List.take_add_one, List.map_append]
  simp [List.getD_eq_getElem?_getD, h]
theorem mbrParse_ok (w : World) (A : Option Addr) (bs : List UInt8) (c : Nat) (hA : Has [] w A (enc bs)) (hb : bs.length ≤ 1000000000000) (hc : bs.length ≤ c) (nox : ∀ x ∈ (entriesL (sectF bs 0 []).1.1).1, x.type ≠ 5 ∧ x.type ≠ 15) (res : TableV × Int) (hres : res = mbr0F bs) :
    Ct Try.prog 48 [.iface 33 (.slice A bs.length c)] [] w (fun x : (Option Nat × Nat) × (Option Nat × Nat) => .tuple #[.agg #[rowV x.1.1 res.1.parts.length x.1.2, rowV x.2.1 res.1.held.length x.2.2, .int .i64 res.1.inner.1, .int .i64 res.1.inner.2, .bool res.1.guard], .int .i64 res.2]) (fun _ => True) (fun x => [rowC x.1.1 res.1.parts.length x.1.2 111 4 (enc res.1.parts), rowC x.2.1 res.1.held.length x.2.2 54 2 (enc res.1.held)]) := by
  refine Ct.of_st Try.func48 rfl rfl (L := [(0, .iface 33 (.slice A bs.length c))]) ⟨rfl, trivial⟩ ?_
  refine st_seq ?_
  refine st_region rfl ?_
  refine sr_alloc rfl rfl rfl ze56 (fun b1 => ?_)
  refine sr_assign rfl rfl rfl rfl ?_
  refine sr_end ?_
  refine st_seq ?_
  refine st_seq ?_
  refine st_region rfl ?_
  refine sr_move rfl rfl rfl rfl ?_
  refine sr_bin rfl rfl rfl rfl rfl (b_ifaceNil if43) ?_
  refine sr_end ?_
  refine st_false rfl ?_
  refine st_skip ?_
  refine st_seq ?_
  refine st_region rfl ?_
  refine sr_move rfl rfl rfl rfl ?_
  refine sr_build (cs := [.iface 33 (.slice A bs.length c), .slice none 0 0, .slice none 0 0, .int .i64 0, .int .i64 0, .bool false]) rfl rfl rfl rfl (fun _ => by kernel_rfl) ?_
  refine sr_box rfl rfl rfl rfl (fun b2 => ?_)
  refine sr_assign rfl rfl rfl rfl ?_
  refine sr_end ?_
  refine st_seq ?_
  refine st_region rfl ?_
  refine sr_move rfl rfl rfl rfl ?_
  refine sr_nilrow 111 4 ?_
  refine sr_nilrow 54 2 ?_
  obtain ⟨res1, hres1⟩ : ∃ r, r = sectF bs 0 ([] : List (Int × Int)) := ⟨_, rfl⟩
  refine sr_callM [2, 0] rfl rfl rfl rfl en73 rfl (fun w hh => sector_ok w b2 A bs c (rowV none 0 0) none 0 0 0 false ([] : List (Int × Int)) 0 (hA.heapK hh [2, 0] rfl) (by omega) (by omega) (by omega) (by omega) (by (try simp only [List.length_append, List.length_cons, List.length_nil, List.length_set, List.length_replicate, List.length_take, List.length_drop, List.length_map, List.length_range, bytesN_length, List.length_singleton] at *); omega) res1 hres1) ?_
  rintro ⟨⟨ob1, cb1⟩, ⟨oh1, ch1⟩⟩ -
  refine sr_move rfl rfl rfl rfl ?_
  refine sr_extract rfl rfl rfl rfl rfl ?_
  refine sr_extract rfl rfl rfl rfl rfl ?_
  refine sr_assign rfl rfl rfl rfl ?_
  refine sr_assign rfl rfl rfl rfl ?_
  refine sr_end ?_
  refine st_seq ?_
  refine st_seq ?_
  refine st_region rfl ?_
  refine sr_move rfl rfl rfl rfl ?_
  refine sr_bin rfl rfl rfl rfl rfl b_neq ?_
  refine sr_end ?_
  refine st_if rfl (fun hq1 => ?_) (fun hq1 => ?_)
  · have hq1 : res1.1.2 ≠ 0 := (by simpa using hq1)
    refine st_seq ?_
    refine st_region rfl ?_
    refine sr_build (cs := [.slice none 0 0, .slice none 0 0, .int .i64 0, .int .i64 0, .bool false]) rfl rfl rfl rfl (fun _ => by kernel_rfl) ?_
    refine sr_move rfl rfl rfl rfl ?_
    refine sr_store (k := 4) rfl rfl rfl rfl rfl sz56 rfl rfl rfl rfl ?_
    refine sr_assign rfl rfl rfl rfl ?_
    refine sr_end ?_
    refine st_nilrow 111 4 ?_
    refine st_nilrow 54 2 ?_
    obtain rfl : res = (zeroT, res1.1.2) := hres.trans (by unfold mbr0F; rw [← hres1, if_pos hq1])
    exact st_retX2 (((none, 0), (none, 0))) 6 [1, 0] Try.func48 rfl rfl rfl rfl ag56 sz56 rfl rfl rfl trivial rfl
  · have hq1 : ¬ res1.1.2 ≠ 0 := (by simpa using hq1)
    have hs0 := sectF_zero (bs := bs) (by rw [← hres1]; omega)
    rw [← hres1] at hs0
    obtain ⟨hs1, hs2, hs3⟩ := hs0
    have hs2l : res1.2.length = 1 := (by rw [hs2]; rfl)
    refine st_skip ?_
    refine st_seq ?_
    refine st_region rfl ?_
    refine sr_move rfl rfl rfl rfl ?_
    obtain ⟨ent, hent⟩ : ∃ r, r = entriesL res1.1.1 := ⟨_, rfl⟩
    refine sr_callM [] rfl rfl rfl rfl en74 rfl (fun w hh => (hent ▸ Entries_ok w _ res1.1.1 _ (rowC_has (hh.hp.get (i := 0) rfl)) (by omega))) ?_
    rintro ⟨o1, cap1⟩ -
    refine sr_move rfl rfl rfl rfl ?_
    refine sr_extract rfl rfl rfl rfl rfl ?_
    refine sr_extract rfl rfl rfl rfl rfl ?_
    refine sr_assign rfl rfl rfl rfl ?_
    refine sr_assign rfl rfl rfl rfl ?_
    refine sr_end ?_
    refine st_seq ?_
    refine st_seq ?_
    refine st_region rfl ?_
    refine sr_move rfl rfl rfl rfl ?_
    refine sr_bin rfl rfl rfl rfl rfl b_neq ?_
    refine sr_end ?_
    refine st_if rfl (fun hq2 => ?_) (fun hq2 => ?_)
    · have hq2 : ent.2 ≠ 0 := (by simpa using hq2)
      refine st_seq ?_
      refine st_region rfl ?_
      refine sr_build (cs := [.slice none 0 0, .slice none 0 0, .int .i64 0, .int .i64 0, .bool false]) rfl rfl rfl rfl (fun _ => by kernel_rfl) ?_
      refine sr_move rfl rfl rfl rfl ?_
      refine sr_store (k := 5) rfl rfl rfl rfl rfl sz56 rfl rfl rfl rfl ?_
      refine sr_assign rfl rfl rfl rfl ?_
      refine sr_end ?_
      refine st_nilrow 111 4 ?_
      refine st_nilrow 54 2 ?_
      obtain rfl : res = (zeroT, ent.2) := hres.trans (by unfold mbr0F; rw [← hres1, ← hent, if_neg hq1, if_pos hq2])
      exact st_retX2 (((none, 0), (none, 0))) 7 [1, 0] Try.func48 rfl rfl rfl rfl ag56 sz56 rfl rfl rfl trivial rfl
    · have hq2 : ¬ ent.2 ≠ 0 := (by simpa using hq2)
      have hg0 := entriesL_good (bs := res1.1.1) (by rw [← hent]; omega)
      rw [← hent] at hg0
      obtain ⟨hg1, hg2⟩ := hg0
      rw [← hres1, ← hent] at nox
      refine st_skip ?_
      refine st_seq ?_
      refine st_region rfl ?_
      refine sr_assign rfl rfl rfl rfl ?_
      refine sr_end ?_
      refine st_seq ?_
      refine st_seq ?_
      refine st_region rfl ?_
      refine sr_move rfl rfl rfl rfl ?_
      refine sr_len rfl rfl rfl rfl el152 ?_
      refine sr_move rfl rfl rfl rfl ?_
      refine sr_end ?_
      refine st_block ?_
      refine st_loop5 [0, 1, 1, 1, 1] (fun (k : Nat) (ps : List PartV) (g : Bool) (ro1 : Option Nat) (rc1 : Nat) => [(2, .pointer (some ⟨b1, 0, none⟩)), (4, .pointer (some ⟨b2, 0, none⟩)), (7, rowV o1 ent.1.length cap1), (8, .int .i64 (-1)), (43, rowV o1 ent.1.length cap1), (44, .int .i64 (ent.1.length : Int)), (45, .int .i64 (k : Int))]) (fun (k : Nat) (ps : List PartV) (g : Bool) (ro1 : Option Nat) (rc1 : Nat) => [rowC o1 ent.1.length cap1 156 3 (enc ent.1), cellsC b2 151 [.iface 33 (.slice A bs.length c), rowV ro1 ps.length rc1, rowV oh1 res1.2.length ch1, .int .i64 0, .int .i64 0, .bool g], rowC oh1 res1.2.length ch1 54 2 (enc res1.2), rowC ro1 ps.length rc1 111 4 (enc ps), cellsC b1 56 [.slice none 0 0, .slice none 0 0, .int .i64 0, .int .i64 0, .bool false]]) (fun (k : Nat) (ps : List PartV) (g : Bool) (ro1 : Option Nat) (rc1 : Nat) => k ≤ 4 ∧ scanF bs.length (ent.1.drop k) k ps g = scanF bs.length ent.1 0 [] false ∧ PartsIn bs.length ps ∧ ps.length ≤ k) (fun (k : Nat) (ps : List PartV) (g : Bool) (ro1 : Option Nat) (rc1 : Nat) => 4 - k) 0 ([] : List PartV) false none 0 ⟨by omega, by simp, by simp [PartsIn], by simp⟩ ⟨rfl, rfl, rfl, rfl, rfl, rfl, rfl, trivial⟩ rfl (fun k ps g ro1 rc1 hI hk1 => ?_)
      have hlk := hI.2.2.2
      have hk4 := hI.1
      refine st_seq ?_
      refine st_region rfl ?_
      refine sr_bin rfl rfl rfl rfl rfl b_lss ?_
      refine sr_end ?_
      refine st_seq ?_
      refine st_ifD rfl (fun q1 => ?_) (fun q1 => ?_)
      · skip
        refine st_skip ?_
        refine st_seq ?_
        refine st_block ?_
        refine st_seq ?_
        have hxm := entry_mem (l := ent.1) (k := k) (by omega)
        have hxg := hg2 _ hxm
        unfold GoodEnt at hxg
        refine st_region rfl ?_
        refine sr_move rfl rfl rfl rfl ?_
        refine rk_open (q := 0) rfl (by (try simp only [List.length_append, List.length_cons, List.length_nil, List.length_set, List.length_replicate, List.length_take, List.length_drop, List.length_map, List.length_range, bytesN_length, List.length_singleton] at *); omega) (fun B1 eo1 => ?_)
        subst eo1
        refine sr_indexRowB rfl rfl rfl rfl rfl el152 (by (try simp only [List.length_append, List.length_cons, List.length_nil, List.length_set, List.length_replicate, List.length_take, List.length_drop, List.length_map, List.length_range, bytesN_length, List.length_singleton] at *); omega) (by (try simp only [List.length_append, List.length_cons, List.length_nil, List.length_set, List.length_replicate, List.length_take, List.length_drop, List.length_map, List.length_range, bytesN_length, List.length_singleton] at *); omega) ?_
        refine sr_loadRow (q := 0) (off := k * 3 + 0) rfl rfl rfl rfl rfl rfl (rdN (i := k) (j := 0) ag156 sz156 (⟨0, 0, 0⟩ : EntryV) [.int .i64 ((ent.1.getD k (⟨0, 0, 0⟩ : EntryV)).type), .int .i64 ((ent.1.getD k (⟨0, 0, 0⟩ : EntryV)).first), .int .i64 ((ent.1.getD k (⟨0, 0, 0⟩ : EntryV)).count)] (by omega) rfl rfl) ?_
        refine sr_alloc rfl rfl rfl ze156 (fun b3 => ?_)
        refine sr_assign rfl rfl rfl rfl ?_
        refine sr_store (k := 0) rfl rfl rfl rfl rfl sz156 rfl rfl rfl rfl ?_
        refine sr_end ?_
        refine st_seq ?_
        refine st_region rfl ?_
        refine sr_fieldAddr (m := 0) rfl rfl rfl rfl fd156_0 rfl ?_
        refine sr_load1 (k := 0) rfl rfl rfl rfl rfl ag3 rfl ?_
        refine sr_end ?_
        refine st_block ?_
        refine st_seq ?_
        refine st_region rfl ?_
        refine sr_bin rfl rfl rfl rfl rfl b_eql ?_
        refine sr_assign rfl rfl rfl rfl ?_
        refine sr_end ?_
        refine st_ifD rfl (fun hz0 => ?_) (fun hz0 => ?_)
        · skip
          refine st_skip ?_
          refine st_inBlock ?_
          refine st_inBlock ?_
          refine st_region rfl ?_
          refine sr_bin rfl rfl rfl rfl rfl (b_addI (by (try simp only [List.length_append, List.length_cons, List.length_nil, List.length_set, List.length_replicate, List.length_take, List.length_drop, List.length_map, List.length_range, bytesN_length, List.length_singleton] at *); omega) (by (try simp only [List.length_append, List.length_cons, List.length_nil, List.length_set, List.length_replicate, List.length_take, List.length_drop, List.length_map, List.length_range, bytesN_length, List.length_singleton] at *); omega)) ?_
          refine sr_move rfl rfl rfl rfl ?_
          refine sr_end ?_
          have hin2 := hI.2.2.1
          have hlen2 : ps.length ≤ k + 1 := by omega
          exact st_go [1, 1, 1, 1, 1] (hk1 (k + 1) ps g ro1 rc1 ⟨by omega, by rw [← hI.2.1, scanF_at (l := ent.1) (k := k) (by omega), if_pos hz0]; rfl, hin2, hlen2⟩ (by omega)) ⟨rfl, rfl, rfl, rfl, rfl, rfl, congrArg (fun z : Int => some (Value.int .i64 z)) (by omega), trivial⟩ rfl
        · skip
          refine st_seq ?_
          refine st_region rfl ?_
          refine sr_bin rfl rfl rfl rfl rfl b_eql ?_
          refine sr_assign rfl rfl rfl rfl ?_
          refine sr_end ?_
          refine st_ifD rfl (fun hz1 => ?_) (fun hz1 => ?_)
          · skip
            refine st_region rfl ?_
            refine sr_move rfl rfl rfl rfl ?_
            refine sr_nilCheck rfl rfl rfl rfl ?_
            refine sr_fieldAddr (m := 1) rfl rfl rfl rfl fd151_1 rfl ?_
            refine sr_fieldAddr (m := 5) rfl rfl rfl rfl fd56_3 rfl ?_
            refine sr_store (k := 2) rfl rfl rfl rfl rfl sz4 rfl rfl rfl rfl ?_
            refine sr_end ?_
            refine st_inBlock ?_
            refine st_inBlock ?_
            refine st_region rfl ?_
            refine sr_bin rfl rfl rfl rfl rfl (b_addI (by (try simp only [List.length_append, List.length_cons, List.length_nil, List.length_set, List.length_replicate, List.length_take, List.length_drop, List.length_map, List.length_range, bytesN_length, List.length_singleton] at *); omega) (by (try simp only [List.length_append, List.length_cons, List.length_nil, List.length_set, List.length_replicate, List.length_take, List.length_drop, List.length_map, List.length_range, bytesN_length, List.length_singleton] at *); omega)) ?_
            refine sr_move rfl rfl rfl rfl ?_
            refine sr_end ?_
            have hin2 := hI.2.2.1
            have hlen2 : ps.length ≤ k + 1 := by omega
            exact st_go [1, 1, 1, 1, 1] (hk1 (k + 1) ps true ro1 rc1 ⟨by omega, by rw [← hI.2.1, scanF_at (l := ent.1) (k := k) (by omega), if_neg hz0, if_pos hz1]; rfl, hin2, hlen2⟩ (by omega)) ⟨rfl, rfl, rfl, rfl, rfl, rfl, congrArg (fun z : Int => some (Value.int .i64 z)) (by omega), trivial⟩ rfl
          · skip
            refine st_seq ?_
            refine st_seq ?_
            refine st_region rfl ?_
            refine sr_bin rfl rfl rfl rfl rfl b_eql ?_
            refine sr_assign rfl rfl rfl rfl ?_
            refine sr_end ?_
            refine st_ifD rfl (fun h => absurd h (nox _ hxm).1) (fun _h => ?_)
            refine st_region rfl ?_
            refine sr_bin rfl rfl rfl rfl rfl b_eql ?_
            refine sr_assign rfl rfl rfl rfl ?_
            refine sr_end ?_
            refine st_ifD rfl (fun h => absurd h (nox _ hxm).2) (fun _h => ?_)
            refine st_seq ?_
            refine st_region rfl ?_
            refine sr_move rfl rfl rfl rfl ?_
            refine sr_loadN (k := 0) (vs := [.int .i64 ((ent.1.getD k (⟨0, 0, 0⟩ : EntryV)).type), .int .i64 ((ent.1.getD k (⟨0, 0, 0⟩ : EntryV)).first), .int .i64 ((ent.1.getD k (⟨0, 0, 0⟩ : EntryV)).count)]) rfl rfl rfl rfl rfl ag156 sz156 rfl rfl ?_
            refine sr_move rfl rfl rfl rfl ?_
            obtain ⟨res2, hres2⟩ : ∃ r, r = addF (bs.length : Int) 0 (ent.1.getD k (⟨0, 0, 0⟩ : EntryV)) (k : Int) ps := ⟨_, rfl⟩
            refine sr_callM [2, 3] rfl rfl rfl rfl en75 rfl (fun w hh => add_ok w b2 A bs c ro1 rc1 (rowV oh1 res1.2.length ch1) 0 0 g ps 0 (ent.1.getD k (⟨0, 0, 0⟩ : EntryV)) (k : Int) (by omega) (by omega) (by omega) (by omega) (by omega) (by omega) (by omega) (by omega) res2 hres2) ?_
            rintro ⟨op1, cp1⟩ -
            refine sr_assign rfl rfl rfl rfl ?_
            refine sr_end ?_
            refine st_seq ?_
            refine st_region rfl ?_
            refine sr_move rfl rfl rfl rfl ?_
            refine sr_bin rfl rfl rfl rfl rfl b_neq ?_
            refine sr_end ?_
            refine st_if rfl (fun hq3 => ?_) (fun hq3 => ?_)
            · have hq3 : res2.1 ≠ 0 := (by simpa using hq3)
              have hscan : scanF bs.length ent.1 0 [] false = (res2.1, res2.2, g) := (by rw [← hI.2.1, scanF_at (l := ent.1) (k := k) (by omega), if_neg hz0, if_neg hz1, ← hres2, if_pos hq3])
              refine st_seq ?_
              refine st_region rfl ?_
              refine sr_build (cs := [.slice none 0 0, .slice none 0 0, .int .i64 0, .int .i64 0, .bool false]) rfl rfl rfl rfl (fun _ => by kernel_rfl) ?_
              refine sr_move rfl rfl rfl rfl ?_
              refine sr_store (k := 5) rfl rfl rfl rfl rfl sz56 rfl rfl rfl rfl ?_
              refine sr_assign rfl rfl rfl rfl ?_
              refine sr_end ?_
              refine st_nilrow 111 4 ?_
              refine st_nilrow 54 2 ?_
              obtain rfl : res = (zeroT, res2.1) := hres.trans (by unfold mbr0F; rw [← hres1, ← hent, if_neg hq1, if_neg hq2, if_pos (by rw [hscan]; exact hq3), hscan])
              exact st_retX2 (((none, 0), (none, 0))) 7 [1, 0] Try.func48 rfl rfl rfl rfl ag56 sz56 rfl rfl rfl trivial rfl
            · have hq3 : res2.1 = 0 := (by simpa using hq3)
              have hq3' := hq3
              rw [hres2] at hq3'
              refine st_skip ?_
              refine st_inBlock ?_
              refine st_inBlock ?_
              refine st_region rfl ?_
              refine sr_bin rfl rfl rfl rfl rfl (b_addI (by (try simp only [List.length_append, List.length_cons, List.length_nil, List.length_set, List.length_replicate, List.length_take, List.length_drop, List.length_map, List.length_range, bytesN_length, List.length_singleton] at *); omega) (by (try simp only [List.length_append, List.length_cons, List.length_nil, List.length_set, List.length_replicate, List.length_take, List.length_drop, List.length_map, List.length_range, bytesN_length, List.length_singleton] at *); omega)) ?_
              refine sr_move rfl rfl rfl rfl ?_
              refine sr_end ?_
              have hin2 : PartsIn bs.length res2.2 := by rw [hres2]; exact addF_in hI.2.2.1 (by omega)
              have hlen2 : (res2.2).length ≤ k + 1 := by rw [hres2]; exact Nat.le_trans addF_len (by omega)
              exact st_go [3, 0, 2, 0, 1] (hk1 (k + 1) res2.2 g op1 cp1 ⟨by omega, by rw [← hI.2.1, scanF_at (l := ent.1) (k := k) (by omega), if_neg hz0, if_neg hz1, ← hres2, if_neg (fun h => h hq3)]; rfl, hin2, hlen2⟩ (by omega)) ⟨rfl, rfl, rfl, rfl, rfl, rfl, congrArg (fun z : Int => some (Value.int .i64 z)) (by omega), trivial⟩ rfl
      · skip
        refine st_exit rfl ?_
        refine st_seq ?_
        refine st_region rfl ?_
        refine sr_assign rfl rfl rfl rfl ?_
        refine sr_end ?_
        refine st_seq ?_
        refine st_seq ?_
        refine st_region rfl ?_
        refine sr_move rfl rfl rfl rfl ?_
        refine sr_nilCheck rfl rfl rfl rfl ?_
        refine sr_fieldAddr (m := 1) rfl rfl rfl rfl fd151_1 rfl ?_
        refine sr_fieldAddr (m := 1) rfl rfl rfl rfl fd56_0 rfl ?_
        refine sr_load1 (k := 1) rfl rfl rfl rfl rfl ag52 rfl ?_
        refine sr_len rfl rfl rfl rfl el52 ?_
        refine sr_move rfl rfl rfl rfl ?_
        refine sr_end ?_
        refine st_block ?_
        refine st_nilrow 54 2 ?_
        refine st_loop3 [0, 0, 0, 0, 0, 0] (fun (ka : Nat) (ro2 : Option Nat) (rc2 : Nat) => [(2, .pointer (some ⟨b1, 0, none⟩)), (4, .pointer (some ⟨b2, 0, none⟩)), (7, rowV o1 ent.1.length cap1), (8, .int .i64 (-1)), (12, rowV ro2 (((ps.take ka).map PartV.ext).length) rc2), (80, rowV ro1 ps.length rc1), (81, .int .i64 (ps.length : Int)), (82, .int .i64 (ka : Int))]) (fun (ka : Nat) (ro2 : Option Nat) (rc2 : Nat) => [rowC ro2 (((ps.take ka).map PartV.ext).length) rc2 54 2 (enc ((ps.take ka).map PartV.ext)), rowC o1 ent.1.length cap1 156 3 (enc ent.1), cellsC b2 151 [.iface 33 (.slice A bs.length c), rowV ro1 ps.length rc1, rowV oh1 res1.2.length ch1, .int .i64 0, .int .i64 0, .bool g], rowC oh1 res1.2.length ch1 54 2 (enc res1.2), rowC ro1 ps.length rc1 111 4 (enc ps), cellsC b1 56 [.slice none 0 0, .slice none 0 0, .int .i64 0, .int .i64 0, .bool false]]) (fun (ka : Nat) (ro2 : Option Nat) (rc2 : Nat) => ka ≤ ps.length) (fun (ka : Nat) (ro2 : Option Nat) (rc2 : Nat) => ps.length - ka) 0 none 0 (Nat.zero_le _) ⟨rfl, rfl, rfl, rfl, rfl, rfl, rfl, rfl, trivial⟩ rfl (fun ka ro2 rc2 hI1 hk2 => ?_)
        refine st_seq ?_
        refine st_region rfl ?_
        refine sr_bin rfl rfl rfl rfl rfl b_lss ?_
        refine sr_end ?_
        refine st_seq ?_
        refine st_ifD rfl (fun q2 => ?_) (fun q2 => ?_)
        · skip
          refine st_skip ?_
          refine st_seq ?_
          refine st_block ?_
          refine st_seq ?_
          refine st_region rfl ?_
          refine rk_open (q := 4) rfl (by (try simp only [List.length_append, List.length_cons, List.length_nil, List.length_set, List.length_replicate, List.length_take, List.length_drop, List.length_map, List.length_range, bytesN_length, List.length_singleton] at *); omega) (fun B2 eo2 => ?_)
          subst eo2
          refine sr_indexRowB rfl rfl rfl rfl rfl el52 (by (try simp only [List.length_append, List.length_cons, List.length_nil, List.length_set, List.length_replicate, List.length_take, List.length_drop, List.length_map, List.length_range, bytesN_length, List.length_singleton] at *); omega) (by (try simp only [List.length_append, List.length_cons, List.length_nil, List.length_set, List.length_replicate, List.length_take, List.length_drop, List.length_map, List.length_range, bytesN_length, List.length_singleton] at *); omega) ?_
          refine sr_loadRow (q := 4) (off := ka * 4 + 0) rfl rfl rfl rfl rfl rfl (rdN (i := ka) (j := 0) ag111 sz111 (⟨(0, 0), 0, 0⟩ : PartV) [.int .i64 ((ps.getD ka (⟨(0, 0), 0, 0⟩ : PartV)).ext.1), .int .i64 ((ps.getD ka (⟨(0, 0), 0, 0⟩ : PartV)).ext.2), .int .i64 ((ps.getD ka (⟨(0, 0), 0, 0⟩ : PartV)).type), .int .i64 ((ps.getD ka (⟨(0, 0), 0, 0⟩ : PartV)).slot)] (by omega) rfl rfl) ?_
          refine sr_alloc rfl rfl rfl ze111 (fun b4 => ?_)
          refine sr_store (k := 0) rfl rfl rfl rfl rfl sz111 rfl rfl rfl rfl ?_
          refine sr_end ?_
          refine st_region rfl ?_
          refine sr_move rfl rfl rfl rfl ?_
          refine sr_fieldAddr (m := 0) rfl rfl rfl rfl fd111_0 rfl ?_
          refine sr_loadN (k := 0) (vs := [.int .i64 ((ps.getD ka (⟨(0, 0), 0, 0⟩ : PartV)).ext.1), .int .i64 ((ps.getD ka (⟨(0, 0), 0, 0⟩ : PartV)).ext.2)]) rfl rfl rfl rfl rfl ag54 sz54 rfl rfl ?_
          refine sr_buildSlice (vs := [.agg #[.int .i64 ((ps.getD ka (⟨(0, 0), 0, 0⟩ : PartV)).ext.1), .int .i64 ((ps.getD ka (⟨(0, 0), 0, 0⟩ : PartV)).ext.2)]]) (cs := enc ([((ps.getD ka (⟨(0, 0), 0, 0⟩ : PartV)).ext.1, (ps.getD ka (⟨(0, 0), 0, 0⟩ : PartV)).ext.2)] : List (Int × Int))) rfl rfl rfl rfl el34 rfl ze54 rfl (all_cons rfl all_nil) rfl rfl (fun b5 => ?_)
          refine sr_appendE (q := 2) (xs := (ps.take ka).map PartV.ext) ([((ps.getD ka (⟨(0, 0), 0, 0⟩ : PartV)).ext.1, (ps.getD ka (⟨(0, 0), 0, 0⟩ : PartV)).ext.2)] : List (Int × Int)) rfl rfl rfl rfl rfl el34 el34 rfl ze54 rfl by54 rfl (fun w hh => (rowC_has (hh.hp.get (i := 0) rfl))) rfl rfl (by (try simp only [List.length_append, List.length_cons, List.length_nil, List.length_set, List.length_replicate, List.length_take, List.length_drop, List.length_map, List.length_range, bytesN_length, List.length_singleton] at *); omega) rfl (fun o2 cap2 => ?_)
          refine sr_assign rfl rfl rfl rfl ?_
          refine sr_end ?_
          refine st_inBlock ?_
          refine st_region rfl ?_
          refine sr_bin rfl rfl rfl rfl rfl (b_addI (by (try simp only [List.length_append, List.length_cons, List.length_nil, List.length_set, List.length_replicate, List.length_take, List.length_drop, List.length_map, List.length_range, bytesN_length, List.length_singleton] at *); omega) (by (try simp only [List.length_append, List.length_cons, List.length_nil, List.length_set, List.length_replicate, List.length_take, List.length_drop, List.length_map, List.length_range, bytesN_length, List.length_singleton] at *); omega)) ?_
          refine sr_move rfl rfl rfl rfl ?_
          refine sr_end ?_
          have hks : ka < ps.length := (by omega)
          refine st_row 0 (((ps.take (ka + 1)).map PartV.ext).length) (enc ((ps.take (ka + 1)).map PartV.ext)) rfl (by rw [part_succ hks]) (congrArg enc (by rw [part_succ hks])) ?_
          refine st_val 12 rfl (congrArg (fun z => rowV o2 z cap2) (by rw [part_succ hks])) (v' := rowV o2 (((ps.take (ka + 1)).map PartV.ext).length) cap2) ?_
          exact st_go [0, 2, 2, 2, 2, 2] (hk2 (ka + 1) o2 cap2 (by omega) (by omega)) ⟨rfl, rfl, rfl, rfl, rfl, rfl, rfl, congrArg (fun z : Int => some (Value.int .i64 z)) (by omega), trivial⟩ rfl
        · skip
          refine st_exit rfl ?_
          refine st_seq ?_
          refine st_seq ?_
          refine st_region rfl ?_
          refine sr_move rfl rfl rfl rfl ?_
          refine sr_bin rfl rfl rfl rfl rfl (b_fold (v' := .bool false) b_geq rfl) ?_
          refine sr_end ?_
          refine st_false rfl ?_
          refine st_skip ?_
          refine st_seq ?_
          refine st_region rfl ?_
          refine sr_move rfl rfl rfl rfl ?_
          refine sr_nilCheck rfl rfl rfl rfl ?_
          refine sr_fieldAddr (m := 1) rfl rfl rfl rfl fd151_1 rfl ?_
          refine sr_fieldAddr (m := 2) rfl rfl rfl rfl fd56_1 rfl ?_
          refine sr_load1 (k := 2) rfl rfl rfl rfl rfl ag34 rfl ?_
          refine sr_nilrow 54 2 ?_
          refine sr_appendE (q := 0) (xs := ([] : List (Int × Int))) res1.2 rfl rfl rfl rfl rfl el34 el34 rfl ze54 rfl by54 rfl (fun w hh => (rowC_has (hh.hp.get (i := 4) rfl))) rfl rfl (by (try simp only [List.length_append, List.length_cons, List.length_nil, List.length_set, List.length_replicate, List.length_take, List.length_drop, List.length_map, List.length_range, bytesN_length, List.length_singleton] at *); omega) rfl (fun o3 cap3 => ?_)
          refine sr_assign rfl rfl rfl rfl ?_
          refine sr_end ?_
          refine st_seq ?_
          refine st_seq ?_
          refine st_region rfl ?_
          refine sr_move rfl rfl rfl rfl ?_
          refine sr_nilCheck rfl rfl rfl rfl ?_
          refine sr_fieldAddr (m := 1) rfl rfl rfl rfl fd151_1 rfl ?_
          refine sr_fieldAddr (m := 1) rfl rfl rfl rfl fd56_0 rfl ?_
          refine sr_load1 (k := 3) rfl rfl rfl rfl rfl ag52 rfl ?_
          refine sr_len rfl rfl rfl rfl el52 ?_
          refine sr_move rfl rfl rfl rfl ?_
          refine sr_end ?_
          refine st_block ?_
          refine st_row 0 ((res1.2 ++ (ps.take 0).map PartV.ext).length) (enc (res1.2 ++ (ps.take 0).map PartV.ext)) rfl (by simp) (congrArg enc (by simp)) ?_
          refine st_val 16 rfl (congrArg (fun z => rowV o3 z cap3) (by simp)) (v' := rowV o3 ((res1.2 ++ (ps.take 0).map PartV.ext).length) cap3) ?_
          refine st_loop3 [0, 0, 1, 1, 1, 1] (fun (kb : Nat) (ro3 : Option Nat) (rc3 : Nat) => [(2, .pointer (some ⟨b1, 0, none⟩)), (4, .pointer (some ⟨b2, 0, none⟩)), (12, rowV ro2 (((ps.take ka).map PartV.ext).length) rc2), (16, rowV ro3 ((res1.2 ++ (ps.take kb).map PartV.ext).length) rc3), (140, rowV ro1 ps.length rc1), (141, .int .i64 (ps.length : Int)), (142, .int .i64 (kb : Int))]) (fun (kb : Nat) (ro3 : Option Nat) (rc3 : Nat) => [rowC ro3 ((res1.2 ++ (ps.take kb).map PartV.ext).length) rc3 54 2 (enc (res1.2 ++ (ps.take kb).map PartV.ext)), rowC ro2 (((ps.take ka).map PartV.ext).length) rc2 54 2 (enc ((ps.take ka).map PartV.ext)), cellsC b2 151 [.iface 33 (.slice A bs.length c), rowV ro1 ps.length rc1, rowV oh1 res1.2.length ch1, .int .i64 0, .int .i64 0, .bool g], rowC oh1 res1.2.length ch1 54 2 (enc res1.2), rowC ro1 ps.length rc1 111 4 (enc ps), cellsC b1 56 [.slice none 0 0, .slice none 0 0, .int .i64 0, .int .i64 0, .bool false]]) (fun (kb : Nat) (ro3 : Option Nat) (rc3 : Nat) => kb ≤ ps.length) (fun (kb : Nat) (ro3 : Option Nat) (rc3 : Nat) => ps.length - kb) 0 o3 cap3 (Nat.zero_le _) ⟨rfl, rfl, rfl, rfl, rfl, rfl, rfl, trivial⟩ rfl (fun kb ro3 rc3 hI2 hk3 => ?_)
          refine st_seq ?_
          refine st_region rfl ?_
          refine sr_bin rfl rfl rfl rfl rfl b_lss ?_
          refine sr_end ?_
          refine st_seq ?_
          refine st_ifD rfl (fun q3 => ?_) (fun q3 => ?_)
          · skip
            refine st_skip ?_
            refine st_seq ?_
            refine st_block ?_
            refine st_seq ?_
            refine st_region rfl ?_
            refine rk_open (q := 4) rfl (by (try simp only [List.length_append, List.length_cons, List.length_nil, List.length_set, List.length_replicate, List.length_take, List.length_drop, List.length_map, List.length_range, bytesN_length, List.length_singleton] at *); omega) (fun B3 eo3 => ?_)
            subst eo3
            refine sr_indexRowB rfl rfl rfl rfl rfl el52 (by (try simp only [List.length_append, List.length_cons, List.length_nil, List.length_set, List.length_replicate, List.length_take, List.length_drop, List.length_map, List.length_range, bytesN_length, List.length_singleton] at *); omega) (by (try simp only [List.length_append, List.length_cons, List.length_nil, List.length_set, List.length_replicate, List.length_take, List.length_drop, List.length_map, List.length_range, bytesN_length, List.length_singleton] at *); omega) ?_
            refine sr_loadRow (q := 4) (off := kb * 4 + 0) rfl rfl rfl rfl rfl rfl (rdN (i := kb) (j := 0) ag111 sz111 (⟨(0, 0), 0, 0⟩ : PartV) [.int .i64 ((ps.getD kb (⟨(0, 0), 0, 0⟩ : PartV)).ext.1), .int .i64 ((ps.getD kb (⟨(0, 0), 0, 0⟩ : PartV)).ext.2), .int .i64 ((ps.getD kb (⟨(0, 0), 0, 0⟩ : PartV)).type), .int .i64 ((ps.getD kb (⟨(0, 0), 0, 0⟩ : PartV)).slot)] (by omega) rfl rfl) ?_
            refine sr_alloc rfl rfl rfl ze111 (fun b6 => ?_)
            refine sr_store (k := 0) rfl rfl rfl rfl rfl sz111 rfl rfl rfl rfl ?_
            refine sr_end ?_
            refine st_region rfl ?_
            refine sr_move rfl rfl rfl rfl ?_
            refine sr_fieldAddr (m := 0) rfl rfl rfl rfl fd111_0 rfl ?_
            refine sr_loadN (k := 0) (vs := [.int .i64 ((ps.getD kb (⟨(0, 0), 0, 0⟩ : PartV)).ext.1), .int .i64 ((ps.getD kb (⟨(0, 0), 0, 0⟩ : PartV)).ext.2)]) rfl rfl rfl rfl rfl ag54 sz54 rfl rfl ?_
            refine sr_buildSlice (vs := [.agg #[.int .i64 ((ps.getD kb (⟨(0, 0), 0, 0⟩ : PartV)).ext.1), .int .i64 ((ps.getD kb (⟨(0, 0), 0, 0⟩ : PartV)).ext.2)]]) (cs := enc ([((ps.getD kb (⟨(0, 0), 0, 0⟩ : PartV)).ext.1, (ps.getD kb (⟨(0, 0), 0, 0⟩ : PartV)).ext.2)] : List (Int × Int))) rfl rfl rfl rfl el34 rfl ze54 rfl (all_cons rfl all_nil) rfl rfl (fun b7 => ?_)
            refine sr_appendE (q := 2) (xs := res1.2 ++ (ps.take kb).map PartV.ext) ([((ps.getD kb (⟨(0, 0), 0, 0⟩ : PartV)).ext.1, (ps.getD kb (⟨(0, 0), 0, 0⟩ : PartV)).ext.2)] : List (Int × Int)) rfl rfl rfl rfl rfl el34 el34 rfl ze54 rfl by54 rfl (fun w hh => (rowC_has (hh.hp.get (i := 0) rfl))) rfl rfl (by (try simp only [List.length_append, List.length_cons, List.length_nil, List.length_set, List.length_replicate, List.length_take, List.length_drop, List.length_map, List.length_range, bytesN_length, List.length_singleton] at *); omega) rfl (fun o4 cap4 => ?_)
            refine sr_assign rfl rfl rfl rfl ?_
            refine sr_end ?_
            refine st_inBlock ?_
            refine st_region rfl ?_
            refine sr_bin rfl rfl rfl rfl rfl (b_addI (by (try simp only [List.length_append, List.length_cons, List.length_nil, List.length_set, List.length_replicate, List.length_take, List.length_drop, List.length_map, List.length_range, bytesN_length, List.length_singleton] at *); omega) (by (try simp only [List.length_append, List.length_cons, List.length_nil, List.length_set, List.length_replicate, List.length_take, List.length_drop, List.length_map, List.length_range, bytesN_length, List.length_singleton] at *); omega)) ?_
            refine sr_move rfl rfl rfl rfl ?_
            refine sr_end ?_
            have hks : kb < ps.length := (by omega)
            refine st_row 0 ((res1.2 ++ (ps.take (kb + 1)).map PartV.ext).length) (enc (res1.2 ++ (ps.take (kb + 1)).map PartV.ext)) rfl (by rw [part_succ hks, ← List.append_assoc]) (congrArg enc (by rw [part_succ hks, ← List.append_assoc])) ?_
            refine st_val 16 rfl (congrArg (fun z => rowV o4 z cap4) (by rw [part_succ hks, ← List.append_assoc])) (v' := rowV o4 ((res1.2 ++ (ps.take (kb + 1)).map PartV.ext).length) cap4) ?_
            exact st_go [0, 2, 2, 2, 2, 2] (hk3 (kb + 1) o4 cap4 (by omega) (by omega)) ⟨rfl, rfl, rfl, rfl, rfl, rfl, congrArg (fun z : Int => some (Value.int .i64 z)) (by omega), trivial⟩ rfl
          · skip
            refine st_exit rfl ?_
            refine st_seq ?_
            refine st_seq ?_
            refine st_row 1 ((ps.map PartV.ext).length) (enc (ps.map PartV.ext)) rfl (by rw [show ka = ps.length by omega, List.take_length]) (congrArg enc (by rw [show ka = ps.length by omega, List.take_length])) ?_
            refine st_val 12 rfl (congrArg (fun z => rowV ro2 z rc2) (by rw [show ka = ps.length by omega, List.take_length])) (v' := rowV ro2 ((ps.map PartV.ext).length) rc2) ?_
            refine st_row 0 ((res1.2 ++ ps.map PartV.ext).length) (enc (res1.2 ++ ps.map PartV.ext)) rfl (by rw [show kb = ps.length by omega, List.take_length]) (congrArg enc (by rw [show kb = ps.length by omega, List.take_length])) ?_
            refine st_val 16 rfl (congrArg (fun z => rowV ro3 z rc3) (by rw [show kb = ps.length by omega, List.take_length])) (v' := rowV ro3 ((res1.2 ++ ps.map PartV.ext).length) rc3) ?_
            have hfin : scanF bs.length ent.1 0 [] false = (0, ps, g) := by rw [← hI.2.1, show k = ent.1.length by omega, List.drop_length]; rfl
            have hw1 := hI.2.2.1.within (by omega)
            have hw2 : Within (-1125899906842624) 1125899906842624 (res1.2 ++ ps.map PartV.ext) := Within.append (by rw [hs2]; intro p hp; simp at hp; subst hp; simp) hw1
            refine st_region rfl ?_
            refine sr_move rfl rfl rfl rfl ?_
            refine sr_callM [] rfl rfl rfl rfl en78 rfl (fun w hh => Apart_ok w _ (ps.map PartV.ext) _ (rowC_has (hh.hp.get (i := 1) rfl)) (by (try simp only [List.length_append, List.length_cons, List.length_nil, List.length_set, List.length_replicate, List.length_take, List.length_drop, List.length_map, List.length_range, bytesN_length, List.length_singleton] at *); omega) (by assumption)) ?_
            rintro ⟨⟩ -
            refine sr_un rfl rfl rfl rfl u_not ?_
            refine sr_move rfl rfl rfl rfl ?_
            refine sr_case (t := 155) rfl (fun ga => ?_) (fun ga => ?_)
            · have hap : ¬ (apartF (ps.map PartV.ext) = true ∧ apartF (res1.2 ++ ps.map PartV.ext) = true) := (by simp at ga; simp [ga])
              refine sr_off rfl rfl rfl ?_
              refine sr_off rfl rfl rfl ?_
              refine sr_off rfl rfl rfl ?_
              refine sr_pickT rfl rfl rfl rfl rfl ?_
              refine sr_end ?_
              refine st_true rfl ?_
              refine st_seq ?_
              refine st_region rfl ?_
              refine sr_build (cs := [.slice none 0 0, .slice none 0 0, .int .i64 0, .int .i64 0, .bool false]) rfl rfl rfl rfl (fun _ => by kernel_rfl) ?_
              refine sr_store (k := 5) rfl rfl rfl rfl rfl sz56 rfl rfl rfl rfl ?_
              refine sr_assign rfl rfl rfl rfl ?_
              refine sr_end ?_
              refine st_nilrow 111 4 ?_
              refine st_nilrow 54 2 ?_
              obtain rfl : res = (zeroT, 14) := hres.trans (by unfold mbr0F; rw [← hres1, ← hent, if_neg hq1, if_neg hq2, hfin, if_neg (by simp), if_neg hap])
              exact st_retX2 (((none, 0), (none, 0))) 7 [1, 0] Try.func48 rfl rfl rfl rfl ag56 sz56 rfl rfl rfl trivial rfl
            · skip
              refine sr_move rfl rfl rfl rfl ?_
              refine sr_callM [] rfl rfl rfl rfl en78 rfl (fun w hh => Apart_ok w _ (res1.2 ++ ps.map PartV.ext) _ (rowC_has (hh.hp.get (i := 0) rfl)) (by (try simp only [List.length_append, List.length_cons, List.length_nil, List.length_set, List.length_replicate, List.length_take, List.length_drop, List.length_map, List.length_range, bytesN_length, List.length_singleton] at *); omega) (by assumption)) ?_
              rintro ⟨⟩ -
              refine sr_un rfl rfl rfl rfl u_not ?_
              refine sr_pickF rfl rfl rfl rfl rfl ?_
              refine sr_end ?_
              refine st_if rfl (fun gb => ?_) (fun gb => ?_)
              · have hap : ¬ (apartF (ps.map PartV.ext) = true ∧ apartF (res1.2 ++ ps.map PartV.ext) = true) := (by simp at gb; simp [gb])
                refine st_seq ?_
                refine st_region rfl ?_
                refine sr_build (cs := [.slice none 0 0, .slice none 0 0, .int .i64 0, .int .i64 0, .bool false]) rfl rfl rfl rfl (fun _ => by kernel_rfl) ?_
                refine sr_store (k := 5) rfl rfl rfl rfl rfl sz56 rfl rfl rfl rfl ?_
                refine sr_assign rfl rfl rfl rfl ?_
                refine sr_end ?_
                refine st_nilrow 111 4 ?_
                refine st_nilrow 54 2 ?_
                obtain rfl : res = (zeroT, 14) := hres.trans (by unfold mbr0F; rw [← hres1, ← hent, if_neg hq1, if_neg hq2, hfin, if_neg (by simp), if_neg hap])
                exact st_retX2 (((none, 0), (none, 0))) 7 [1, 0] Try.func48 rfl rfl rfl rfl ag56 sz56 rfl rfl rfl trivial rfl
              · have hap : apartF (ps.map PartV.ext) = true ∧ apartF (res1.2 ++ ps.map PartV.ext) = true := (by simp at ga gb; exact ⟨ga, gb⟩)
                refine st_skip ?_
                refine st_seq ?_
                refine st_region rfl ?_
                refine sr_move rfl rfl rfl rfl ?_
                refine sr_nilCheck rfl rfl rfl rfl ?_
                refine sr_fieldAddr (m := 1) rfl rfl rfl rfl fd151_1 rfl ?_
                refine sr_loadN (k := 2) (vs := [rowV ro1 ps.length rc1, rowV oh1 res1.2.length ch1, .int .i64 0, .int .i64 0, .bool g]) rfl rfl rfl rfl rfl ag56 sz56 rfl rfl ?_
                refine sr_store (k := 5) rfl rfl rfl rfl rfl sz56 rfl rfl rfl rfl ?_
                refine sr_assign rfl rfl rfl rfl ?_
                refine sr_end ?_
                obtain rfl : res = (⟨ps, res1.2, (0, 0), g⟩, 0) := hres.trans (by unfold mbr0F; rw [← hres1, ← hent, if_neg hq1, if_neg hq2, hfin, if_neg (by simp), if_pos hap])
                exact st_retX2 (((ro1, rc1), (oh1, ch1))) 5 [4, 3] Try.func48 rfl rfl rfl rfl ag56 sz56 rfl rfl rfl trivial rfl

end Try
end Go.Sl
