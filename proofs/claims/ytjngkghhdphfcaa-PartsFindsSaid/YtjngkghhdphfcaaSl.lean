/- A small separation logic over the model's machine: a frame by the slots that are known, a heap by the blocks that the call made. -/
import Derived.Test.YtjngkghhdphfcaaSlM
namespace Go.Sl
open Go.RowKit
set_option linter.unusedVariables false
set_option linter.unusedSimpArgs false

/-! ### Frames -/
def lk : List (Nat × Value) → Nat → Option Value
  | [], _ => none
  | (k, v) :: r, t => bif Nat.beq k t then some v else lk r t

/-- A frame's size; the blocks in which rounds collect deferred calls. -/
structure FN where
  n : Nat
  D : List Nat
def coll (r : Nat) : Deferred := { target := .collected r, args := #[] }
structure Fr (N : FN) (L : List (Nat × Value)) (a : Act) : Prop where
  size : a.tmps.size = N.n
  defers : a.defers = N.D.map coll
  at_ : ∀ t v, lk L t = some v → a.tmps.getD t undef = v

def ev (L : List (Nat × Value)) : Operand → Option Value
  | .tmp t => lk L t
  | .const v => some v
  | .global g => some (.pointer (some ⟨g, 0, none⟩))
  | .func f => some (.func (.func f) #[] #[])

theorem Fr.ev {N : FN} {L : List (Nat × Value)} {a : Act} (h : Fr N L a) {x : Operand} {v : Value} (hx : ev L x = some v) : a.eval x = v := by
  cases x with
  | tmp t => exact h.at_ t v hx
  | const c => simpa [Sl.ev, Act.eval] using hx
  | global g => simpa [Sl.ev, Act.eval] using hx
  | func f => simpa [Sl.ev, Act.eval] using hx

theorem beq_eq_of {a b : Nat} (h : Nat.beq a b = true) : a = b := Nat.eq_of_beq_eq_true h
theorem Fr.put {N : FN} {L : List (Nat × Value)} {a : Act} (h : Fr N L a) {d : Nat} (hd : Nat.blt d N.n = true) (v : Value) : Fr N ((d, v) :: L) (a.put (some d) v) := by
  have hd' : d < N.n := by simpa [Nat.blt_eq] using hd
  refine ⟨by simp [Act.put, h.size], h.defers, fun t u hu => ?_⟩
  simp only [lk] at hu
  simp only [Act.put]
  cases hb : Nat.beq d t with
  | true =>
    obtain rfl := beq_eq_of hb
    rw [hb] at hu
    simp only [cond_true, Option.some.injEq] at hu
    subst hu
    simp [Array.getD, h.size, hd']
  | false =>
    rw [hb] at hu
    simp only [cond_false] at hu
    have hne : d ≠ t := fun e => by subst e; simp at hb
    have := h.at_ t u hu
    simp only [Array.getD, Array.size_setIfInBounds] at this ⊢
    split
    · rename_i ht
      rw [dif_pos ht] at this
      rw [← this]
      exact Array.getElem_setIfInBounds_ne _ (h := hne)
    · rename_i ht
      rw [dif_neg ht] at this
      exact this

theorem Fr.put' {N : FN} {L : List (Nat × Value)} {a : Act} (h : Fr N L a) (d : Option Nat) (v : Value) : d = none → Fr N L (a.put d v) := by
  rintro rfl; exact h

def SubL : List (Nat × Value) → List (Nat × Value) → Prop
  | [], _ => True
  | (k, v) :: r, L => lk L k = some v ∧ SubL r L

theorem SubL.at_ : ∀ {L' L : List (Nat × Value)}, SubL L' L → ∀ t v, lk L' t = some v → lk L t = some v
  | [], _, _, _, _, h => by simp [lk] at h
  | (k, u) :: r, L, ⟨h1, h2⟩, t, v, h => by
    simp only [lk] at h
    cases hb : Nat.beq k t with
    | true => rw [hb] at h; obtain rfl := beq_eq_of hb; simp only [cond_true, Option.some.injEq] at h; rw [h1, h]
    | false => rw [hb] at h; exact SubL.at_ h2 t v h
theorem Fr.sub {N : FN} {L L' : List (Nat × Value)} {a : Act} (h : Fr N L a) (s : SubL L' L) : Fr N L' a := ⟨h.size, h.defers, fun t v hv => h.at_ t v (s.at_ t v hv)⟩

/-! ### Heaps -/
structure Chunk where
  b : Option Nat
  pure : Prop
  P : Obj → Prop

def blocks : List Chunk → List (Option Nat)
  | [] => []
  | c :: H => c.b :: blocks H
/-- The numbers of a list's blocks. -/
def bl : List Chunk → List Nat
  | [] => []
  | c :: H => match c.b with
    | some g => g :: bl H
    | none => bl H

/-- One chunk, in a world. -/
def Chunk.holds (ok : Nat → Prop) (w : World) (c : Chunk) : Prop := c.pure ∧ ∀ g, c.b = some g → ok g ∧ ∃ o, w.heap[g]? = some o ∧ c.P o

def Hp (ok : Nat → Prop) (w : World) : List Chunk → Prop
  | [] => True
  | c :: H => (c.holds ok w ∧ ∀ g, c.b = some g → some g ∉ blocks H) ∧ Hp ok w H

/-- All that was there is as it was, but for the blocks of G. -/
structure Kept (G : List Nat) (w w' : World) : Prop where
  os : w'.os = w.os
  tape : w'.tape = w.tape
  output : w'.output = w.output
  size : w.heap.size ≤ w'.heap.size
  block : ∀ k, k < w.heap.size → k ∉ G → w'.heap[k]? = w.heap[k]?
theorem Kept.refl (G : List Nat) (w : World) : Kept G w w := ⟨rfl, rfl, rfl, Nat.le_refl _, fun _ _ _ => rfl⟩
theorem Kept.below {w w' : World} (h : Kept [] w w') : Below w.heap.size w w' := ⟨h.os, h.tape, h.output, h.size, fun k hk => h.block k hk (by simp)⟩
theorem Kept.of_below {G : List Nat} {w w' : World} (h : Below w.heap.size w w') : Kept G w w' := ⟨h.os, h.tape, h.output, h.size, fun k hk _ => h.block k hk⟩
theorem Kept.trans {G : List Nat} {a b c : World} (h : Kept G a b) (k : Kept G b c) : Kept G a c :=
  ⟨k.os.trans h.os, k.tape.trans h.tape, k.output.trans h.output, Nat.le_trans h.size k.size, fun i hi hg => (k.block i (Nat.lt_of_lt_of_le hi h.size) hg).trans (h.block i hi hg)⟩

/-- The blocks that may be owned: new ones, and those that were handed in. -/
def okB (w : World) (G : List Nat) (g : Nat) : Prop := w.heap.size ≤ g ∨ g ∈ G

structure Heap (w0 : World) (G : List Nat) (H : List Chunk) (w : World) : Prop where
  kept : Kept G w0 w
  hp : Hp (okB w0 G) w H

/-- A call's effect: nothing but the blocks that were handed in has changed; these chunks are handed back. -/
structure Upd (w w' : World) (G : List Nat) (H : List Chunk) : Prop where
  kept : Kept G w w'
  hp : Hp (okB w G) w' H

theorem Chunk.holds.lt {ok : Nat → Prop} {w : World} {c : Chunk} (h : c.holds ok w) {g : Nat} (hg : c.b = some g) : g < w.heap.size := by
  obtain ⟨_, o, ho, _⟩ := h.2 g hg
  exact (Array.getElem?_eq_some_iff.1 ho).1
theorem Hp.mem {ok : Nat → Prop} {w : World} : ∀ {H : List Chunk}, Hp ok w H → ∀ {c : Chunk}, c ∈ H → c.holds ok w
  | c1 :: H, h, c, hm => by
    rcases List.mem_cons.1 hm with rfl | hm
    · exact h.1.1
    · exact h.2.mem hm
theorem mem_blocks : ∀ {H : List Chunk} {g : Nat}, some g ∈ blocks H → ∃ c ∈ H, c.b = some g
  | c :: H, g, h => by
    simp only [blocks, List.mem_cons] at h
    rcases h with h | h
    · exact ⟨c, .head _, h.symm⟩
    · obtain ⟨c', hm, he⟩ := mem_blocks h
      exact ⟨c', .tail _ hm, he⟩
theorem blocks_of_mem : ∀ {H : List Chunk} {c : Chunk}, c ∈ H → c.b ∈ blocks H
  | _ :: _, _, .head _ => .head _
  | _ :: _, _, .tail _ h => .tail _ (blocks_of_mem h)
theorem mem_bl : ∀ {H : List Chunk} {g : Nat}, g ∈ bl H ↔ some g ∈ blocks H
  | [], g => by simp [bl, blocks]
  | c :: H, g => by
    have := mem_bl (H := H) (g := g)
    cases hc : c.b with
    | none => simp [bl, blocks, hc, this]
    | some k => simp [bl, blocks, hc, this]
theorem Hp.lt {ok : Nat → Prop} {w : World} {H : List Chunk} (h : Hp ok w H) {g : Nat} (hg : some g ∈ blocks H) : ok g ∧ g < w.heap.size := by
  obtain ⟨c, hm, he⟩ := mem_blocks hg
  exact ⟨((h.mem hm).2 g he).1, (h.mem hm).lt he⟩

/-- The chunks live on where their blocks do. -/
theorem Hp.kept {ok : Nat → Prop} {w w' : World} : ∀ {H : List Chunk}, Hp ok w H → (∀ g, some g ∈ blocks H → w'.heap[g]? = w.heap[g]?) → Hp ok w' H
  | [], _, _ => trivial
  | c :: H, ⟨⟨⟨hp, hh⟩, hd⟩, hr⟩, hk => by
    refine ⟨⟨⟨hp, fun g hg => ?_⟩, hd⟩, hr.kept fun g hg => hk g (.tail _ hg)⟩
    obtain ⟨hb, o, ho, hP⟩ := hh g hg
    exact ⟨hb, o, by rw [hk g (by rw [← hg]; exact .head _)]; exact ho, hP⟩
theorem Hp.weaken {ok ok' : Nat → Prop} {w : World} : ∀ {H : List Chunk}, (∀ g, some g ∈ blocks H → ok g → ok' g) → Hp ok w H → Hp ok' w H
  | [], _, _ => trivial
  | c :: H, hb, ⟨⟨⟨hp, hh⟩, hd⟩, hr⟩ => ⟨⟨⟨hp, fun g hg => ⟨hb g (by rw [← hg]; exact .head _) (hh g hg).1, (hh g hg).2⟩⟩, hd⟩, hr.weaken fun g hg => hb g (.tail _ hg)⟩
theorem blocks_append : ∀ (H H' : List Chunk), blocks (H ++ H') = blocks H ++ blocks H'
  | [], _ => rfl
  | c :: H, H' => by simp [blocks, blocks_append H H']
theorem Hp.append {ok : Nat → Prop} {w : World} : ∀ {H H' : List Chunk}, Hp ok w H → Hp ok w H' → (∀ g, some g ∈ blocks H → some g ∉ blocks H') → Hp ok w (H ++ H')
  | [], _, _, h', _ => h'
  | c :: H, H', ⟨⟨hh, hd⟩, hr⟩, h', hx => by
    refine ⟨⟨hh, fun g hg => ?_⟩, hr.append h' fun g hg => hx g (.tail _ hg)⟩
    show ¬ some g ∈ blocks (H ++ H')
    rw [blocks_append, List.mem_append]
    rintro (h1 | h1)
    · exact hd g hg h1
    · exact hx g (by rw [← hg]; exact .head _) h1
theorem Hp.get {ok : Nat → Prop} {w : World} : ∀ {H : List Chunk} {i : Nat} {c : Chunk}, Hp ok w H → H[i]? = some c → c.holds ok w
  | [], _, _, _, h => by simp at h
  | c :: H, 0, c', h, e => by simp at e; subst e; exact h.1.1
  | c :: H, i + 1, c', h, e => h.2.get (by simpa using e)
theorem Hp.pick {ok : Nat → Prop} {w : World} : ∀ {H : List Chunk} {i : Nat}, Hp ok w H → Hp ok w (H.eraseIdx i)
  | [], _, h => by simpa using h
  | c :: H, 0, h => h.2
  | c :: H, i + 1, h => by
    refine ⟨⟨h.1.1, fun g hg hm => h.1.2 g hg ?_⟩, h.2.pick⟩
    obtain ⟨c', hm', he⟩ := mem_blocks hm
    rw [← he]
    exact blocks_of_mem (List.mem_of_mem_eraseIdx hm')
theorem eraseIdx_not {ok : Nat → Prop} {w : World} : ∀ {H : List Chunk} {q : Nat} {c1 : Chunk}, Hp ok w H → H[q]? = some c1 → ∀ g, c1.b = some g → some g ∉ blocks (H.eraseIdx q)
  | [], q, _, _, h => by simp at h
  | c0 :: H, 0, c1, hp, hq => fun g hg hm => by simp at hq; subst hq; exact hp.1.2 g hg hm
  | c0 :: H, q + 1, c1, hp, hq => fun g hg hm => by
    simp only [List.getElem?_cons_succ] at hq
    simp only [List.eraseIdx_cons_succ, blocks, List.mem_cons] at hm
    rcases hm with hm | hm
    · exact hp.1.2 g hm.symm (by rw [← hg]; exact blocks_of_mem (List.mem_of_getElem? hq))
    · exact eraseIdx_not hp.2 hq g hg hm
theorem erase_sub {H : List Chunk} {k : Nat} {g : Nat} (h : some g ∈ blocks (H.eraseIdx k)) : some g ∈ blocks H := by
  obtain ⟨c, hm, he⟩ := mem_blocks h
  rw [← he]
  exact blocks_of_mem (List.mem_of_mem_eraseIdx hm)

/-- Some chunks, by their places; what is left. -/
def pickH (H : List Chunk) : List Nat → Option (List Chunk)
  | [] => some []
  | k :: r => match H[k]?, pickH (H.eraseIdx k) r with
    | some c, some cs => some (c :: cs)
    | _, _ => none
def dropH (H : List Chunk) : List Nat → List Chunk
  | [] => H
  | k :: r => dropH (H.eraseIdx k) r
theorem pickH_sub : ∀ {ks : List Nat} {H cs : List Chunk}, pickH H ks = some cs → ∀ x ∈ cs, x ∈ H
  | [], H, cs, h, x, hx => by simp [pickH] at h; subst h; cases hx
  | k :: ks, H, cs, h, x, hx => by
    simp only [pickH] at h
    split at h
    · rename_i c1 cs' h1 h2
      simp only [Option.some.injEq] at h
      subst h
      rcases List.mem_cons.1 hx with rfl | hx
      · exact List.mem_of_getElem? h1
      · exact List.mem_of_mem_eraseIdx (pickH_sub h2 x hx)
    · cases h
theorem pickH_blocks {ks : List Nat} {H cs : List Chunk} (h : pickH H ks = some cs) {g : Nat} (hg : some g ∈ blocks cs) : some g ∈ blocks H := by
  obtain ⟨c, hm, he⟩ := mem_blocks hg
  rw [← he]; exact blocks_of_mem (pickH_sub h c hm)
theorem Hp.pickH {ok : Nat → Prop} {w : World} : ∀ {ks : List Nat} {H cs : List Chunk}, Hp ok w H → Sl.pickH H ks = some cs → Hp ok w cs
  | [], H, cs, _, h => by simp [Sl.pickH] at h; subst h; trivial
  | k :: ks, H, cs, hp, h => by
    simp only [Sl.pickH] at h
    split at h
    · rename_i c1 cs' h1 h2
      simp only [Option.some.injEq] at h
      subst h
      exact ⟨⟨hp.get h1, fun g hg hm => eraseIdx_not hp h1 g hg (pickH_blocks h2 hm)⟩, (hp.pick (i := k)).pickH h2⟩
    · cases h
theorem Hp.dropH {ok : Nat → Prop} {w : World} : ∀ {ks : List Nat} {H : List Chunk}, Hp ok w H → Hp ok w (Sl.dropH H ks)
  | [], _, h => h
  | k :: ks, H, h => (h.pick (i := k)).dropH (ks := ks)
theorem dropH_blocks : ∀ {ks : List Nat} {H : List Chunk} {g : Nat}, some g ∈ blocks (dropH H ks) → some g ∈ blocks H
  | [], _, _, h => h
  | k :: ks, H, g, h => erase_sub (dropH_blocks (ks := ks) h)
theorem pick_drop {ok : Nat → Prop} {w : World} : ∀ {ks : List Nat} {H cs : List Chunk}, Hp ok w H → pickH H ks = some cs → ∀ {g : Nat}, some g ∈ blocks cs → some g ∉ blocks (dropH H ks)
  | [], H, cs, _, h, g, hg => by simp [Sl.pickH] at h; subst h; simp [blocks] at hg
  | k :: ks, H, cs, hp, h, g, hg => by
    simp only [Sl.pickH] at h
    split at h
    · rename_i c1 cs' h1 h2
      simp only [Option.some.injEq] at h
      subst h
      simp only [blocks, List.mem_cons] at hg
      rcases hg with hg | hg
      · exact fun hm => eraseIdx_not hp h1 g hg.symm (dropH_blocks (ks := ks) hm)
      · exact pick_drop (hp.pick (i := k)) h2 hg
    · cases h

/-- A call that took these chunks. -/
theorem Heap.call {w0 w w' : World} {G : List Nat} {H Hin Hn : List Chunk} (ks : List Nat) (h : Heap w0 G H w) (hk : pickH H ks = some Hin) (hu : Upd w w' (bl Hin) Hn) : Heap w0 G (Hn ++ dropH H ks) w' := by
  have hin := h.hp.pickH hk
  refine ⟨⟨hu.kept.os.trans h.kept.os, hu.kept.tape.trans h.kept.tape, hu.kept.output.trans h.kept.output, Nat.le_trans h.kept.size hu.kept.size, fun k hk0 hg => ?_⟩, ?_⟩
  · rw [hu.kept.block k (Nat.lt_of_lt_of_le hk0 h.kept.size) (fun hm => ?_)]
    · exact h.kept.block k hk0 hg
    · rcases (hin.lt (mem_bl.1 hm)).1 with h1 | h1
      · omega
      · exact hg h1
  · refine (hu.hp.weaken fun g _ hok => ?_).append ((h.hp.dropH (ks := ks)).kept fun g hg => ?_) fun g hg hg2 => ?_
    · rcases hok with h1 | h1
      · exact .inl (Nat.le_trans h.kept.size h1)
      · exact (hin.lt (mem_bl.1 h1)).1
    · exact hu.kept.block g ((h.hp.dropH (ks := ks)).lt hg).2 fun hm => pick_drop h.hp hk (mem_bl.1 hm) hg
    · rcases (hu.hp.lt hg).1 with h1 | h1
      · have := ((h.hp.dropH (ks := ks)).lt hg2).2; omega
      · exact pick_drop h.hp hk (mem_bl.1 h1) hg2
theorem Heap.grow {w0 w w' : World} {G : List Nat} {H Hn : List Chunk} (h : Heap w0 G H w) (hg : Upd w w' [] Hn) : Heap w0 G (Hn ++ H) w' := h.call [] rfl hg
theorem Heap.start (w : World) : Heap w [] [] w := ⟨Kept.refl _ _, trivial⟩
theorem Heap.startM {w : World} {H : List Chunk} (h : Hp (fun _ => True) w H) : Heap w (bl H) H w := ⟨Kept.refl _ _, h.weaken fun g hg _ => .inr (mem_bl.2 hg)⟩
theorem Heap.gives {w0 w : World} {G : List Nat} {H cs : List Chunk} (h : Heap w0 G H w) (ks : List Nat) (hk : pickH H ks = some cs) : Upd w0 w G cs := ⟨h.kept, h.hp.pickH hk⟩
theorem Heap.alike {w0 w w' : World} {G : List Nat} {H : List Chunk} (h : Heap w0 G H w) (h1 : w'.os = w.os) (h2 : w'.tape = w.tape) (h3 : w'.output = w.output) (h4 : w'.heap = w.heap) : Heap w0 G H w' :=
  ⟨⟨h1.trans h.kept.os, h2.trans h.kept.tape, h3.trans h.kept.output, by rw [h4]; exact h.kept.size, fun k hk hg => by rw [h4]; exact h.kept.block k hk hg⟩, h.hp.kept fun g _ => by rw [h4]⟩

/-- A block of a chunk is turned: all others live on. -/
theorem Hp.upd {ok : Nat → Prop} {w w' : World} : ∀ {H : List Chunk} {i : Nat} {c : Chunk} (c' : Chunk) {g : Nat}, Hp ok w H → H[i]? = some c → c.b = some g → c'.b = some g →
    (∀ k, k ≠ g → k < w.heap.size → w'.heap[k]? = w.heap[k]?) → (c'.pure ∧ ∃ o, w'.heap[g]? = some o ∧ c'.P o) → Hp ok w' (H.set i c')
  | [], _, _, _, _, _, h, _, _, _, _ => by simp at h
  | c :: H, 0, c1, c', g, hH, h, hg, hg', hk, hn => by
    simp at h; subst h
    refine ⟨⟨⟨hn.1, fun g1 e => ?_⟩, fun g1 e => ?_⟩, hH.2.kept fun k hm => hk k (fun e => ?_) (hH.2.lt hm).2⟩
    · rw [hg'] at e; cases e; exact ⟨(hH.1.1.2 g hg).1, hn.2⟩
    · rw [hg'] at e; cases e; exact hH.1.2 g hg
    · subst e; exact hH.1.2 k hg hm
  | c :: H, i + 1, c1, c', g, hH, h, hg, hg', hk, hn => by
    have h' : H[i]? = some c1 := by simpa using h
    have hgm : some g ∈ blocks H := by rw [← hg]; exact blocks_of_mem (List.mem_of_getElem? h')
    refine ⟨⟨⟨hH.1.1.1, fun g1 e => ?_⟩, fun g1 e hm => ?_⟩, hH.2.upd c' h' hg hg' hk hn⟩
    · obtain ⟨h1, o, ho, hP⟩ := hH.1.1.2 g1 e
      have hne : g1 ≠ g := fun e' => by subst e'; exact hH.1.2 g1 e hgm
      exact ⟨h1, o, by rw [hk g1 hne (Array.getElem?_eq_some_iff.1 ho).1]; exact ho, hP⟩
    · obtain ⟨c2, hm2, he2⟩ := mem_blocks hm
      rcases List.mem_or_eq_of_mem_set hm2 with hm3 | rfl
      · exact hH.1.2 g1 e (by rw [← he2]; exact blocks_of_mem hm3)
      · rw [hg'] at he2; cases he2; exact hH.1.2 g e hgm
theorem Heap.upd {w0 w w' : World} {G : List Nat} {H : List Chunk} {i : Nat} {c : Chunk} (c' : Chunk) {g : Nat} (h : Heap w0 G H w) (hi : H[i]? = some c) (hg : c.b = some g) (hg' : c'.b = some g)
    (hb : w'.os = w.os ∧ w'.tape = w.tape ∧ w'.output = w.output ∧ w.heap.size ≤ w'.heap.size) (hk : ∀ k, k ≠ g → k < w.heap.size → w'.heap[k]? = w.heap[k]?) (hn : c'.pure ∧ ∃ o, w'.heap[g]? = some o ∧ c'.P o) : Heap w0 G (H.set i c') w' := by
  have hge := ((h.hp.get hi).2 g hg).1
  refine ⟨⟨hb.1.trans h.kept.os, hb.2.1.trans h.kept.tape, hb.2.2.1.trans h.kept.output, Nat.le_trans h.kept.size hb.2.2.2, fun k hk' hgG => ?_⟩, h.hp.upd c' hi hg hg' hk hn⟩
  rw [hk k (fun e => ?_) (Nat.lt_of_lt_of_le hk' h.kept.size)]
  · exact h.kept.block k hk' hgG
  · subst e
    rcases hge with h1 | h1
    · omega
    · exact hgG h1

/-! ### The two kinds of chunks -/
/-- A block of cells. -/
def cellsC (b : Nat) (t : TypeId) (cs : List Value) : Chunk := ⟨some b, True, fun o => o = .cells cs.toArray t (0, 0)⟩
/-- A row that can be appended to; its value is 'rowV o n cap'. -/
def rowV (o : Option Nat) (n cap : Nat) : Value := .slice (o.map fun g => ⟨g, 0, none⟩) n cap
def rowC (o : Option Nat) (n cap : Nat) (t : TypeId) (size : Nat) (cs : List Value) : Chunk :=
  ⟨o, cs.length = n * size ∧ n ≤ cap ∧ cap ≤ maxLen ∧ (o = none → n = 0 ∧ cap = 0), fun ob => ∃ cur : Array Value, ob = .cells cur t (0, 0) ∧ cur.size = cap * size ∧ cur.toList.take (n * size) = cs⟩

theorem rowC_owns {ok : Nat → Prop} {w : World} {o : Option Nat} {n cap : Nat} {t : TypeId} {size : Nat} {cs : List Value} (h : (rowC o n cap t size cs).holds ok w) : w.ownsRow 0 t size (rowV o n cap) n cs := by
  obtain ⟨⟨h1, h2, h3, h4⟩, hh⟩ := h
  refine ⟨h1, ?_⟩
  cases o with
  | none => obtain ⟨rfl, rfl⟩ := h4 rfl; exact .inl ⟨rfl, rfl⟩
  | some g =>
    obtain ⟨hb, ob, ho, cur, rfl, hs, ht⟩ := hh g rfl
    exact .inr ⟨g, cap, cur, rfl, Nat.zero_le _, ho, h2, h3, hs, ht⟩
theorem rowC_of_owns {w : World} {v : Value} {n : Nat} {t : TypeId} {size : Nat} {cs : List Value} (h : w.ownsRow 0 t size v n cs) : ∃ o cap, v = rowV o n cap ∧ v.ownBlock = o ∧ ∀ ok : Nat → Prop, (∀ g, o = some g → ok g) → (rowC o n cap t size cs).holds ok w := by
  obtain ⟨h1, h2⟩ := h
  rcases h2 with ⟨rfl, rfl⟩ | ⟨g, cap, cur, rfl, hb, ho, hn, hm, hs, ht⟩
  · exact ⟨none, 0, rfl, rfl, fun ok _ => ⟨⟨h1, Nat.le_refl _, by simp, fun _ => ⟨rfl, rfl⟩⟩, fun g e => by cases e⟩⟩
  · refine ⟨some g, cap, rfl, rfl, fun ok hok => ⟨⟨h1, hn, hm, fun e => by cases e⟩, fun g' e => ?_⟩⟩
    cases e
    exact ⟨hok g rfl, _, ho, cur, rfl, hs, ht⟩

/-! ### Reading -/
/-- From an address on, in no block of G, these cells stand. -/
def Has (G : List Nat) (w : World) (A : Option Addr) (cs : List Value) : Prop := cs ≠ [] → ∃ b off, A = some ⟨b, off, none⟩ ∧ b ∉ G ∧ ∀ (i : Nat) v, cs[i]? = some v → w.cell? ⟨b, off + i, none⟩ = some v
theorem Has.lt {G : List Nat} {w : World} {b off : Nat} {cs : List Value} (hc : ∀ (i : Nat) v, cs[i]? = some v → w.cell? ⟨b, off + i, none⟩ = some v) (hne : cs ≠ []) : b < w.heap.size := by
  cases cs with
  | nil => exact absurd rfl hne
  | cons v cs => exact World.block_lt_of_cell? w _ (hc 0 v rfl)
theorem Has.kept {G : List Nat} {w w' : World} {A : Option Addr} {cs : List Value} (h : Has G w A cs) (hb : Kept G w w') : Has G w' A cs := fun hne => by
  obtain ⟨b, off, e, hg, hc⟩ := h hne
  exact ⟨b, off, e, hg, fun i v hv => by rw [World.cell?_of_block (w := w) (hb.block b (World.block_lt_of_cell? w _ (hc i v hv)) hg)]; exact hc i v hv⟩
theorem Has.nil (G : List Nat) (w : World) (A : Option Addr) : Has G w A [] := fun h => absurd rfl h
/-- What came in is none of the chunks. -/
theorem Has.heap {w0 w : World} {G : List Nat} {H : List Chunk} {A : Option Addr} {cs : List Value} (h : Has G w0 A cs) (hh : Heap w0 G H w) (G' : List Nat) (hG : ∀ g, g ∈ G' → some g ∈ blocks H) : Has G' w A cs := fun hne => by
  obtain ⟨b, off, e, hg, hc⟩ := h.kept hh.kept hne
  refine ⟨b, off, e, fun hm => ?_, hc⟩
  obtain ⟨b', off', e', hg', hc'⟩ := h hne
  rw [e] at e'
  simp only [Option.some.injEq, Addr.mk.injEq, and_true] at e'
  obtain ⟨rfl, rfl⟩ := e'
  have hlt := Has.lt (G := G) hc' hne
  rcases (hh.hp.lt (hG b hm)).1 with h1 | h1
  · omega
  · exact hg h1
theorem Has.heap0 {w0 w : World} {G : List Nat} {H : List Chunk} {A : Option Addr} {cs : List Value} (h : Has G w0 A cs) (hh : Heap w0 G H w) : Has [] w A cs := h.heap hh [] (fun g hg => by cases hg)
theorem Has.heapK {w0 w : World} {G : List Nat} {H Hin : List Chunk} {A : Option Addr} {cs : List Value} (h : Has G w0 A cs) (hh : Heap w0 G H w) (ks : List Nat) (hk : pickH H ks = some Hin) : Has (bl Hin) w A cs := h.heap hh _ (fun g hg => pickH_blocks hk (mem_bl.1 hg))
theorem cellsC_has {ok : Nat → Prop} {w : World} {b : Nat} {t : TypeId} {cs : List Value} (h : (cellsC b t cs).holds ok w) : Has [] w (some ⟨b, 0, none⟩) cs := fun _ => by
  obtain ⟨_, o, ho, rfl⟩ := h.2 b rfl
  exact ⟨b, 0, rfl, by simp, fun i v hv => by simp [World.cell?, ho, hv]⟩
theorem rowC_has {ok : Nat → Prop} {w : World} {o : Option Nat} {n cap : Nat} {t : TypeId} {size : Nat} {cs : List Value} (h : (rowC o n cap t size cs).holds ok w) : Has [] w (o.map fun g => ⟨g, 0, none⟩) cs := fun hne => by
  obtain ⟨⟨h1, h2, h3, h4⟩, hh⟩ := h
  cases o with
  | none => obtain ⟨rfl, rfl⟩ := h4 rfl; simp at h1; exact absurd h1 hne
  | some g =>
    obtain ⟨hb, ob, ho, cur, rfl, hs, ht⟩ := hh g rfl
    refine ⟨g, 0, rfl, by simp, fun i v hv => ?_⟩
    rw [← ht, List.getElem?_take] at hv
    split at hv
    · simp [World.cell?, ho]; simpa using hv
    · cases hv

/-! ### What the machine comes to -/
structure Cx where
  P : Program
  f : FuncId
  N : Nat
  R : Ending → World → Prop
  w0 : World
  G : List Nat
  D : List Nat
  rd : Option Nat

abbrev Cx.F (c : Cx) : FN := ⟨c.N, c.D⟩
def Cx.base (c : Cx) : Frame := { (default : Frame) with fn := c.f, kind := .normal }

def GoA (c : Cx) (T : List Item) (a : Act) (w : World) : Prop := match c.rd with
  | none => ∀ cs, ∃ e w' fr, c.R e w' ∧ Comes c.P (lone (atR c.base none a T) cs w) (lone fr cs w') e ∧ fr.fn = c.f ∧ fr.leaving c.P w' e
  | some l => ∀ x cs, ∃ v w', c.R (.returned v) w' ∧ Steps c.P (lone (atR c.base (some l) a T) (x :: cs) w) (lone (x.finish v) cs w')

theorem GoA.via {c : Cx} {T T' : List Item} {a : Act} {w : World} (h : ∀ cs, ∃ a' w', GoA c T' a' w' ∧ Steps c.P (lone (atR c.base c.rd a T) cs w) (lone (atR c.base c.rd a' T') cs w')) : GoA c T a w := by
  unfold GoA
  unfold GoA at h
  split
  · rename_i hrd
    intro cs
    obtain ⟨a', w', g, hs⟩ := h cs
    rw [hrd] at g hs
    obtain ⟨e, w2, fr, hR, hc, hf, hl⟩ := g cs
    exact ⟨e, w2, fr, hR, Comes.of_steps hs hc, hf, hl⟩
  · rename_i l hrd
    intro x cs
    obtain ⟨a', w', g, hs⟩ := h (x :: cs)
    rw [hrd] at g hs
    obtain ⟨v, w2, hR, hc⟩ := g x cs
    exact ⟨v, w2, hR, hs.trans hc⟩
theorem GoA.step {c : Cx} {T T' : List Item} {a a' : Act} {w w' : World} (h : ∀ cs, step c.P (lone (atR c.base c.rd a T) cs w) = .next (lone (atR c.base c.rd a' T') cs w')) (g : GoA c T' a' w') : GoA c T a w := .via fun cs => ⟨a', w', g, .one (h cs)⟩

def St (c : Cx) (T : List Item) (L : List (Nat × Value)) (H : List Chunk) : Prop := ∀ a w, Fr c.F L a → Heap c.w0 c.G H w → GoA c T a w
def QN (c : Cx) (T : List Item) : Exit → Act → World → Prop := fun e a w => e = .normal ∧ GoA c T a w
/-- In a state that is so: what holds behind. -/
def Rk (c : Cx) (K : Act → World → Prop) (L : List (Nat × Value)) (H : List Chunk) : Prop := ∀ a w, Fr c.F L a → Heap c.w0 c.G H w → K a w
/-- Operations, one behind the other. -/
def wpL (P : Program) (ops : Array Oper) (Q : Exit → Act → World → Prop) : List Nat → Act → World → Prop
  | [] => Q .normal
  | i :: l => wpOp P ops Q i (wpL P ops Q l)
theorem wpL_eq {P : Program} {ops : Array Oper} {Q : Exit → Act → World → Prop} : ∀ (l : List Nat), wpL P ops Q l = wpOps P ops Q l
  | [] => by funext a w; simp [wpL, wpOps]
  | i :: l => by funext a w; rw [wpOps_cons, ← wpL_eq l]; rfl
/-- Within a region: these operations are left. -/
abbrev Sr (c : Cx) (ops : Array Oper) (l : List Nat) (T : List Item) (L : List (Nat × Value)) (H : List Chunk) : Prop := Rk c (wpL c.P ops (QN c T) l) L H

theorem calls_of_st {P : Program} {f : FuncId} {fn : Func} {code : Code} {args : Array Value} {w : World} {R : Ending → World → Prop} {L : List (Nat × Value)}
    (hf : P.funcs[f]? = some fn) (hb : fn.body = some code) (hn : args.size ≤ fn.ntmps) (hL : SubL L (args.toList.zipIdx.map fun (v, i) => (i, v)))
    (G : List Nat) (H : List Chunk) (hH : Heap w G H w)
    (h : St ⟨P, f, fn.ntmps, R, w, G, [], none⟩ [.code code] L H) : Calls P f args w R := by
  intro cs
  have henter : Frame.enter P f args .normal = (Cx.mk P f fn.ntmps R w G [] none).base.at { tmps := args ++ Array.replicate (fn.ntmps - args.size) undef, defers := [] } [.code code] := by
    simp [Frame.enter, Frame.at, hf, hb, Cx.base]
  have hfr : Fr ⟨fn.ntmps, []⟩ L { tmps := args ++ Array.replicate (fn.ntmps - args.size) undef, defers := [] } := by
    refine ⟨by simp; omega, rfl, fun t v hv => ?_⟩
    have h1 := hL.at_ t v hv
    have key : ∀ (l : List Value) (k t : Nat) (v : Value), lk ((l.zipIdx k).map fun (v, i) => (i, v)) t = some v → ∃ j, t = k + j ∧ l[j]? = some v := by
      intro l
      induction l with
      | nil => intro k t v h; simp [lk] at h
      | cons x l ih =>
        intro k t v h
        simp only [List.zipIdx_cons, List.map_cons, lk] at h
        cases hb : Nat.beq k t with
        | true => rw [hb] at h; obtain rfl := beq_eq_of hb; exact ⟨0, rfl, by simpa using h⟩
        | false => rw [hb] at h; obtain ⟨j, rfl, hj⟩ := ih (k + 1) t v h; exact ⟨j + 1, by omega, by simpa using hj⟩
    obtain ⟨j, hj, hv'⟩ := key args.toList 0 t v h1
    obtain rfl : t = j := by omega
    have hlt : t < args.size := by
      have := (List.getElem?_eq_some_iff.1 hv').1
      simpa using this
    rw [Array.getD_eq_getD_getElem?, Array.getElem?_append_left hlt]
    have h2 : args[t]? = some v := by rw [← Array.getElem?_toList]; exact hv'
    rw [h2]; rfl
  have := h _ w hfr hH cs
  rw [henter]
  exact this

section code
variable {c : Cx} {T : List Item} {L : List (Nat × Value)} {H : List Chunk}
theorem st_seq {x y : Code} (h : St c (.code x :: .code y :: T) L H) : St c (.code (.seq x y) :: T) L H := fun a w ha hw => .step (fun cs => stepR_seq) (h a w ha hw)
theorem st_skip (h : St c T L H) : St c (.code .skip :: T) L H := fun a w ha hw => .step (fun cs => stepR_skip) (h a w ha hw)
theorem st_block {id : Nat} {x : Code} (h : St c (.code x :: .inBlock id :: T) L H) : St c (.code (.block id x) :: T) L H := fun a w ha hw => .step (fun cs => stepR_block) (h a w ha hw)
theorem st_inBlock {id : Nat} (h : St c T L H) : St c (.inBlock id :: T) L H := fun a w ha hw => .step (fun cs => stepR_inBlock) (h a w ha hw)
theorem st_exit {id : Nat} {T' : List Item} (e : exitTo id T = some T') (h : St c T' L H) : St c (.code (.exit id) :: T) L H := fun a w ha hw => .step (fun cs => stepR_exit e) (h a w ha hw)
theorem st_inLoop {x : Code} (h : St c (.code x :: .inLoop x :: T) L H) : St c (.inLoop x :: T) L H := fun a w ha hw => .step (fun cs => stepR_inLoop) (h a w ha hw)
theorem st_loop0 {x : Code} (h : St c (.code x :: .inLoop x :: T) L H) : St c (.code (.loop x) :: T) L H := fun a w ha hw => .step (fun cs => stepR_loop) (h a w ha hw)
theorem st_true {x : Operand} {p q : Code} (hx : ev L x = some (.bool true)) (h : St c (.code p :: T) L H) : St c (.code (.cond x p q) :: T) L H := fun a w ha hw => .step (fun cs => stepR_cond (ha.ev hx)) (h a w ha hw)
theorem st_false {x : Operand} {p q : Code} (hx : ev L x = some (.bool false)) (h : St c (.code q :: T) L H) : St c (.code (.cond x p q) :: T) L H := fun a w ha hw => .step (fun cs => stepR_cond (ha.ev hx)) (h a w ha hw)
theorem st_if {x : Operand} {p q : Code} {b : Bool} (hx : ev L x = some (.bool b)) (h1 : b = true → St c (.code p :: T) L H) (h2 : b = false → St c (.code q :: T) L H) : St c (.code (.cond x p q) :: T) L H := by
  cases b with
  | true => exact st_true hx (h1 rfl)
  | false => exact st_false hx (h2 rfl)
theorem st_ifD {x : Operand} {p q : Code} {b : Prop} [Decidable b] (hx : ev L x = some (.bool (decide b))) (h1 : b → St c (.code p :: T) L H) (h2 : ¬ b → St c (.code q :: T) L H) : St c (.code (.cond x p q) :: T) L H :=
  st_if hx (fun e => h1 (of_decide_eq_true e)) (fun e => h2 (of_decide_eq_false e))
theorem st_sub {L' : List (Nat × Value)} (s : SubL L' L) (h : St c T L' H) : St c T L H := fun a w ha hw => h a w (ha.sub s) hw
theorem GoA.of_ops {ops : Array Oper} {l : List Nat} {a : Act} {w : World} (hn : noDefer c.rd ops = true) (h : wpOps c.P ops (QN c T) l a w) : GoA c (.inRegion ops l :: T) a w := .via fun cs =>
  let ⟨a', w', h1, h2⟩ := opsR (b := c.base) (k := T) (cs := cs) hn l a w h
  ⟨a', w', h1, h2⟩
theorem st_region {id : Nat} {ops : Array Oper} (hn : noDefer c.rd ops = true) (h : Sr c ops (List.range ops.size) T L H) : St c (.code (.region id ops false) :: T) L H := fun a w ha hw => .step (fun cs => stepR_region) (GoA.of_ops hn (by rw [← wpL_eq]; exact h a w ha hw))
/-- A loop: a family of states, what holds of them, a measure. -/
theorem st_loop {σ : Type} {x : Code} (Lf : σ → List (Nat × Value)) (Hf : σ → List Chunk) (I : σ → Prop) (μ : σ → Nat) (s0 : σ) (h0 : I s0) (hL : SubL (Lf s0) L) (hH : H = Hf s0)
    (round : ∀ s, I s → (∀ s', I s' → μ s' < μ s → St c (.inLoop x :: T) (Lf s') (Hf s')) → St c (.code x :: .inLoop x :: T) (Lf s) (Hf s)) : St c (.code (.loop x) :: T) L H := by
  have key : ∀ n s, μ s = n → I s → St c (.code x :: .inLoop x :: T) (Lf s) (Hf s) := by
    intro n
    induction n using Nat.strongRecOn with
    | _ n ih => exact fun s hn hs => round s hs fun s' hs' hlt => st_inLoop (ih _ (hn ▸ hlt) s' rfl hs')
  subst hH
  exact st_loop0 (st_sub hL (key _ s0 rfl h0))
theorem sr_end {ops : Array Oper} (h : St c T L H) : Sr c ops [] T L H := fun a w ha hw => ⟨rfl, h a w ha hw⟩
theorem GoA.ret {fn : Func} {a : Act} {w : World} {v : Value} (hrd : c.rd = none) (hd : a.defers = []) (hf : c.P.funcs[c.f]? = some fn) (hr : (results fn a.tmps).run c.P w = .ok v w) (h : c.R (.returned v) w) : GoA c (.code .ret :: T) a w := by
  unfold GoA; rw [hrd]
  exact fun cs => ⟨.returned v, w, _, h, .one step_ret, rfl, rfl, hd, rfl, fn, hf, hr⟩
theorem GoA.fin {fn : Func} {a : Act} {w : World} {v : Value} (hrd : c.rd = none) (hd : a.defers = []) (hf : c.P.funcs[c.f]? = some fn) (hr : (results fn a.tmps).run c.P w = .ok v w) (h : c.R (.returned v) w) : GoA c [] a w := by
  unfold GoA; rw [hrd]
  exact fun cs => ⟨.returned v, w, _, h, .one step_end, rfl, rfl, hd, rfl, fn, hf, hr⟩
theorem Fr.none {F : FN} {L : List (Nat × Value)} {a : Act} (h : Fr F L a) (hD : F.D = []) : a.defers = [] := by rw [h.defers, hD]; rfl
theorem st_retG {fn : Func} {v : Value} (hrd : c.rd = none) (hD : c.D = []) (hf : c.P.funcs[c.f]? = some fn) (hr : ∀ a w, Fr c.F L a → Heap c.w0 c.G H w → (results fn a.tmps).run c.P w = .ok v w) (h : ∀ w, Heap c.w0 c.G H w → c.R (.returned v) w) : St c (.code .ret :: T) L H := fun a w ha hw =>
  GoA.ret hrd (ha.none hD) hf (hr a w ha hw) (h w hw)
theorem st_endG {fn : Func} {v : Value} (hrd : c.rd = none) (hD : c.D = []) (hf : c.P.funcs[c.f]? = some fn) (hr : ∀ a w, Fr c.F L a → Heap c.w0 c.G H w → (results fn a.tmps).run c.P w = .ok v w) (h : ∀ w, Heap c.w0 c.G H w → c.R (.returned v) w) : St c [] L H := fun a w ha hw =>
  GoA.fin hrd (ha.none hD) hf (hr a w ha hw) (h w hw)
theorem st_ret {fn : Func} {t : Tmp} {v : Value} (hrd : c.rd = none) (hD : c.D = []) (hf : c.P.funcs[c.f]? = some fn) (hr : fn.results = #[.tmp t]) (hv : lk L t = some v) (h : ∀ w, Heap c.w0 c.G H w → c.R (.returned v) w) : St c (.code .ret :: T) L H :=
  st_retG hrd hD hf (fun a w ha _ => by rw [results_tmp hr]; exact congrArg (Result.ok · w) (ha.at_ t v hv)) h
theorem st_ret2 {fn : Func} {t u : Tmp} {v v' : Value} (hrd : c.rd = none) (hD : c.D = []) (hf : c.P.funcs[c.f]? = some fn) (hr : fn.results = #[.tmp t, .tmp u]) (hv : lk L t = some v) (hu : lk L u = some v') (h : ∀ w, Heap c.w0 c.G H w → c.R (.returned (.tuple #[v, v'])) w) : St c (.code .ret :: T) L H :=
  st_retG hrd hD hf (fun a w ha _ => by rw [results_tmp2 hr]; show Result.ok (Value.tuple #[a.tmps.getD t undef, a.tmps.getD u undef]) w = _; rw [ha.at_ t v hv, ha.at_ u v' hu]) h
theorem st_ret0 {fn : Func} (hrd : c.rd = none) (hD : c.D = []) (hf : c.P.funcs[c.f]? = some fn) (hr : fn.results = #[]) (h : ∀ w, Heap c.w0 c.G H w → c.R (.returned (.tuple #[])) w) : St c (.code .ret :: T) L H :=
  st_retG hrd hD hf (fun a w ha _ => by rw [results_none hr]) h
theorem st_end0 {fn : Func} (hrd : c.rd = none) (hD : c.D = []) (hf : c.P.funcs[c.f]? = some fn) (hr : fn.results = #[]) (h : ∀ w, Heap c.w0 c.G H w → c.R (.returned (.tuple #[])) w) : St c [] L H :=
  st_endG hrd hD hf (fun a w ha _ => by rw [results_none hr]) h
end code

end Go.Sl
