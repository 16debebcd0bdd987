/- What is proved here: facts that lie in blocks of their own stay told behind calls that make memory, and behind a call that writes one of them. No condition beyond those that each theorem states. Written by this session. -/
import Derived.Test.YtkifenbcepicjabWWords
import Derived.Test.YtkifenbcepicjabWApart
import Derived.Test.YtkifenbcepicjabWMore
namespace Go.Proofs.Ytkifenbcepicjab.Lv
open Go.RowKit Go.Proofs.YtkifenbcepicjabW.PrintWords
set_option linter.unusedVariables false
set_option linter.unusedSimpArgs false
/-- A fact, told of the blocks that it may lie in and of a world. -/
abbrev Fact := (Nat → Prop) → World → Prop
/-- Facts, each in blocks of its own, all within U. -/
def Live (W : World) : List Fact → (Nat → Prop) → Prop
  | [], _ => True
  | P :: Ps, U => ∃ S : Nat → Prop, (∀ k, S k → U k) ∧ Foot (P S) W S ∧ Live W Ps (fun k => U k ∧ ¬ S k)
theorem Live.mono {W : World} : ∀ {Ps : List Fact} {U V : Nat → Prop}, (∀ k, U k → V k) → Live W Ps U → Live W Ps V
  | [], _, _, _, _ => trivial
  | _ :: _, _, _, hv, ⟨S, h1, h2, h3⟩ => ⟨S, fun k hk => hv k (h1 k hk), h2, Live.mono (fun k hk => ⟨hv k hk.1, hk.2⟩) h3⟩
theorem Live.step {W W' : World} : ∀ {Ps : List Fact} {U : Nat → Prop}, (∀ k, U k → W'.heap[k]? = W.heap[k]?) → Live W Ps U → Live W' Ps U
  | [], _, _, _ => trivial
  | _ :: _, _, hm, ⟨S, h1, h2, h3⟩ => ⟨S, h1, h2.step (fun k hk _ => hm k (h1 k hk)), Live.step (fun k hk => hm k hk.1) h3⟩
theorem Live.get {W : World} : ∀ {Ps : List Fact} {U : Nat → Prop} {i : Nat} {P : Fact}, Live W Ps U → Ps[i]? = some P → ∃ S : Nat → Prop, (∀ k, S k → U k) ∧ P S W
  | [], _, _, _, _, hi => by simp at hi
  | Q :: Ps, U, 0, P, ⟨S, h1, h2, _⟩, hi => by
    obtain rfl : Q = P := by simpa using hi
    exact ⟨S, h1, h2.now⟩
  | _ :: Ps, U, i + 1, P, ⟨S, h1, _, h3⟩, hi => by
    obtain ⟨S', h4, h5⟩ := Live.get h3 (i := i) (P := P) (by simpa using hi)
    exact ⟨S', fun k hk => (h4 k hk).1, h5⟩
theorem Live.write {W : World} : ∀ {Ps : List Fact} {U : Nat → Prop} {i : Nat} {P : Fact}, Live W Ps U → Ps[i]? = some P →
    ∃ S : Nat → Prop, (∀ k, S k → U k) ∧ Foot (P S) W S ∧ ∀ (W' : World) (P' : Fact), (∀ k, U k → ¬ S k → W'.heap[k]? = W.heap[k]?) → Foot (P' S) W' S → Live W' (Ps.set i P') U
  | [], _, _, _, _, hi => by simp at hi
  | Q :: Ps, U, 0, P, ⟨S, h1, h2, h3⟩, hi => by
    obtain rfl : Q = P := by simpa using hi
    exact ⟨S, h1, h2, fun W' P' hm hf => ⟨S, h1, hf, h3.step (fun k hk => hm k hk.1 hk.2)⟩⟩
  | Q :: Ps, U, i + 1, P, ⟨S0, h1, h2, h3⟩, hi => by
    obtain ⟨S, h4, h5, h6⟩ := Live.write h3 (i := i) (P := P) (by simpa using hi)
    exact ⟨S, fun k hk => (h4 k hk).1, h5, fun W' P' hm hf => ⟨S0, h1, h2.step (fun k hk _ => hm k (h1 k hk) (fun h => (h4 k h).2 hk)), h6 W' P' (fun k hk hn => hm k hk.1 hn) hf⟩⟩
/-- W is w, grown, and the facts hold of it, each in blocks that were made since. -/
structure Inv (w W : World) (Ps : List Fact) : Prop where
  bel : Below w.heap.size w W
  live : Live W Ps (fun k => w.heap.size ≤ k ∧ k < W.heap.size)
/-- A row, a row of rows, a block that is known whole. -/
def rowF {α : Type} (d : Kd α) (e base : Nat) (v : Value) (xs : List α) : Fact := fun S W => Kd.R d e W base S v xs
def rowsF {α : Type} (d : Kd α) (e base : Nat) (v : Value) (xs : List α) : Fact := fun S W => Kd.S d e W base S v xs
def boxF (g : Nat) (cs : Array Value) (t : TypeId) : Fact := fun S W => S g ∧ W.heap[g]? = some (.cells cs t (0, 0))
/-- Nothing (what was told is not told any more). -/
def noF : Fact := fun _ _ => True
theorem of_if {c : Prop} [Decidable c] {r : Bool} (h : (if c then some true else none) = some r) : c ∧ true = r := by
  by_cases hc : c
  · rw [if_pos hc] at h; exact ⟨hc, Option.some.inj h⟩
  · rw [if_neg hc] at h; cases h
section
variable {w W W' : World} {Ps : List Fact} {P : Fact} {i : Nat}
theorem Inv.refl (w : World) : Inv w w [] := ⟨Below.refl _ _, trivial⟩
theorem Inv.below (h : Inv w W Ps) (hb : Below W.heap.size W W') : Inv w W' Ps :=
  ⟨h.bel.trans (hb.mono h.bel.size), (h.live.step (fun k hk => hb.block k hk.2)).mono (fun k hk => ⟨hk.1, Nat.lt_of_lt_of_le hk.2 hb.size⟩)⟩
theorem Inv.drew (h : Inv w W Ps) : Inv w W.drew Ps := h.below (below_drew (Below.refl _ _))
theorem Inv.drewN (h : Inv w W Ps) (n : Nat) : Inv w (W.drewN n) Ps := h.below (pw_below_drewN (Below.refl _ _) n)
theorem Inv.tail (h : Inv w W (P :: Ps)) : Inv w W Ps := ⟨h.bel, by obtain ⟨S, _, _, h3⟩ := h.live; exact h3.mono (fun k hk => hk.1)⟩
theorem Inv.get (h : Inv w W Ps) (i : Nat) {P : Fact} (hi : Ps[i]? = some P) : ∃ S : Nat → Prop, (∀ k, S k → w.heap.size ≤ k ∧ k < W.heap.size) ∧ P S W := h.live.get hi
theorem Inv.push (h : Inv w W Ps) (hb : Below W.heap.size W W') (hf : Foot (P (fun k => W.heap.size ≤ k ∧ k < W'.heap.size)) W' (fun k => W.heap.size ≤ k ∧ k < W'.heap.size)) : Inv w W' (P :: Ps) := by
  refine ⟨(h.below hb).bel, _, fun k hk => ⟨Nat.le_trans h.bel.size hk.1, hk.2⟩, hf, ?_⟩
  exact (h.live.step (fun k hk => hb.block k hk.2)).mono (fun k hk => ⟨⟨hk.1, Nat.lt_of_lt_of_le hk.2 hb.size⟩, fun h2 => Nat.not_lt_of_le h2.1 hk.2⟩)
/-- Two facts in blocks apart. -/
theorem Inv.push2 {P1 P2 : Fact} {S : Nat → Prop} (h : Inv w W Ps) (hb : Below W.heap.size W W') (h1 : Foot (P1 (fun k => (W.heap.size ≤ k ∧ k < W'.heap.size) ∧ S k)) W' (fun k => (W.heap.size ≤ k ∧ k < W'.heap.size) ∧ S k))
    (h2 : Foot (P2 (fun k => (W.heap.size ≤ k ∧ k < W'.heap.size) ∧ ¬ S k)) W' (fun k => (W.heap.size ≤ k ∧ k < W'.heap.size) ∧ ¬ S k)) : Inv w W' (P1 :: P2 :: Ps) := by
  refine ⟨(h.below hb).bel, _, fun k hk => ⟨Nat.le_trans h.bel.size hk.1.1, hk.1.2⟩, h1, _, fun k hk => ⟨⟨Nat.le_trans h.bel.size hk.1.1, hk.1.2⟩, fun h3 => hk.2 h3.2⟩, h2, ?_⟩
  exact (h.live.step (fun k hk => hb.block k hk.2)).mono (fun k hk => ⟨⟨⟨hk.1, Nat.lt_of_lt_of_le hk.2 hb.size⟩, fun h2 => Nat.not_lt_of_le h2.1.1 hk.2⟩, fun h2 => Nat.not_lt_of_le h2.1.1 hk.2⟩)
theorem Inv.write (h : Inv w W Ps) (i : Nat) (hi : Ps[i]? = some P) : ∃ S : Nat → Prop, (∀ k, S k → w.heap.size ≤ k ∧ k < W.heap.size) ∧ Foot (P S) W S ∧
    ∀ (W' : World) (P' : Fact), Below w.heap.size w W' → Kept W W' S → Foot (P' S) W' S → Inv w W' (Ps.set i P') := by
  obtain ⟨S, h1, h2, h3⟩ := h.live.write hi
  refine ⟨S, h1, h2, fun W' P' hb hk hf => ⟨hb, (h3 W' P' (fun k hu hn => hk.2 k hu.2 hn) hf).mono (fun k hk2 => ⟨hk2.1, Nat.lt_of_lt_of_le hk2.2 hk.1⟩)⟩⟩
theorem foot_row {α : Type} {d : Kd α} {e base : Nat} {S : Nat → Prop} {v : Value} {xs : List α} (h : Kd.R d e W base S v xs) : Foot (rowF d e base v xs S) W S := fun _ hW => Kd.R_step h hW
theorem foot_rows {α : Type} {d : Kd α} {e base : Nat} {S : Nat → Prop} {v : Value} {xs : List α} (h : Kd.S d e W base S v xs) : Foot (rowsF d e base v xs S) W S := fun _ hW => Kd.S_step h hW
theorem foot_box {g : Nat} {cs : Array Value} {t : TypeId} {S : Nat → Prop} (hs : S g) (h : W.heap[g]? = some (.cells cs t (0, 0))) : Foot (boxF g cs t S) W S := fun _ hW => ⟨hs, (hW g hs (blk_lt h)).trans h⟩
theorem foot_no (W : World) (S : Nat → Prop) : Foot (noF S) W S := fun _ _ => trivial
/-- A new row. -/
theorem Inv.row {α : Type} {d : Kd α} {e : Nat} {v : Value} {xs : List α} (h : Inv w W Ps) (hr : Kd.R d e W' W.heap.size (fun _ => True) v xs) (hb : Below W.heap.size W W') : Inv w W' (rowF d e w.heap.size v xs :: Ps) :=
  h.push hb (foot_row (Kd.R_mono (Kd.R_lower (Kd.R_bound hr) h.bel.size) (fun k hk => ⟨hk.2.1, hk.2.2.1⟩)))
theorem Inv.rows {α : Type} {d : Kd α} {e : Nat} {v : Value} {xs : List α} (h : Inv w W Ps) (hr : Kd.S d e W' W.heap.size (fun _ => True) v xs) (hb : Below W.heap.size W W') : Inv w W' (rowsF d e w.heap.size v xs :: Ps) :=
  h.push hb (foot_rows (Kd.S_mono (Kd.S_lower (Kd.S_bound hr) h.bel.size) (fun k hk => ⟨hk.2.1, hk.2.2.1⟩)))
/-- A new block. -/
theorem Inv.box (h : Inv w W Ps) (cs : Array Value) (t : TypeId) : Inv w (W.alloc (.cells cs t)) (boxF W.heap.size cs t :: Ps) :=
  h.push (below_alloc (Below.refl _ _) _) (foot_box ⟨Nat.le_refl _, by simp⟩ (blk_new _ _))
/-- A store into a block. -/
theorem Inv.set {g : Nat} {cs : Array Value} {t : TypeId} (h : Inv w W Ps) (i : Nat) (hi : Ps[i]? = some (boxF g cs t)) (j : Nat) (u : Value) : Inv w (W.setCell ⟨g, j, none⟩ u) (Ps.set i (boxF g (cs.setIfInBounds j u) t)) := by
  obtain ⟨S, h1, h2, h3⟩ := h.write i hi
  obtain ⟨hs, hb⟩ := h2.now
  have hk : Kept W (W.setCell ⟨g, j, none⟩ u) S := (Kept.refl W S).setCell (p := ⟨g, j, none⟩) (.inl hs) u
  exact h3 _ _ (h.bel.trans ⟨rfl, rfl, rfl, hk.1, fun k hk2 => Below.heap_setCell W ⟨g, j, none⟩ u k (fun e => by have := h1 g hs; simp at e; omega)⟩) hk (foot_box hs (blk_set hb j u))
theorem Inv.blk {g : Nat} {cs : Array Value} {t : TypeId} (h : Inv w W Ps) (i : Nat) (hi : Ps[i]? = some (boxF g cs t)) : W.heap[g]? = some (.cells cs t (0, 0)) := by
  obtain ⟨S, _, h2⟩ := h.get i hi
  exact h2.2
theorem Inv.cell {g : Nat} {cs : Array Value} {t : TypeId} (h : Inv w W Ps) (i : Nat) (hi : Ps[i]? = some (boxF g cs t)) (j : Nat) {u : Value} (hj : cs[j]? = some u) : W.cell? ⟨g, j, none⟩ = some u := (blk_cell (h.blk i hi) j).trans hj
theorem Inv.free {g : Nat} {cs : Array Value} {t : TypeId} (h : Inv w W Ps) (i : Nat) (hi : Ps[i]? = some (boxF g cs t)) (j : Nat) : W.frozen? ⟨g, j, none⟩ = false := blk_frozen (h.blk i hi) j
/-- What a row reads as. -/
theorem Inv.reads {α : Type} {d : Kd α} {e base : Nat} {A : Option Addr} {n c : Nat} {xs : List α} (h : Inv w W Ps) (i : Nat) (hi : Ps[i]? = some (rowF d e base (.slice A n c) xs)) : n = xs.length ∧ n ≤ c ∧ Kd.C d W A xs.length xs := by
  obtain ⟨S, _, h2⟩ := h.get i hi
  exact Kd.R_reads' h2
theorem Inv.readss {α : Type} {d : Kd α} {e base : Nat} {A : Option Addr} {n c : Nat} {xs : List α} (h : Inv w W Ps) (i : Nat) (hi : Ps[i]? = some (rowsF d e base (.slice A n c) xs)) : n = xs.length ∧ n ≤ c ∧ Kd.C d W A xs.length xs := by
  obtain ⟨S, _, h2⟩ := h.get i hi
  exact Kd.S_reads' h2
theorem Inv.slice {α : Type} {d : Kd α} {e base : Nat} {v : Value} {xs : List α} (h : Inv w W Ps) (i : Nat) (hi : Ps[i]? = some (rowF d e base v xs)) : ∃ A c, v = .slice A xs.length c := by
  obtain ⟨S, _, h2⟩ := h.get i hi
  exact Kd.R_slice h2
theorem Inv.slices {α : Type} {d : Kd α} {e base : Nat} {v : Value} {xs : List α} (h : Inv w W Ps) (i : Nat) (hi : Ps[i]? = some (rowsF d e base v xs)) : ∃ A c, v = .slice A xs.length c := by
  obtain ⟨S, _, h2⟩ := h.get i hi
  exact Kd.S_slice h2
theorem Inv.cR {α : Type} {d : Kd α} {e base : Nat} {A : Option Addr} {c : Nat} {xs : List α} (h : Inv w W Ps) (i : Nat) (hi : Ps[i]? = some (rowF d e base (.slice A xs.length c) xs)) : Kd.C d W A xs.length xs := (h.reads i hi).2.2
theorem Inv.lR {α : Type} {d : Kd α} {e base : Nat} {A : Option Addr} {c : Nat} {xs : List α} (h : Inv w W Ps) (i : Nat) (hi : Ps[i]? = some (rowF d e base (.slice A xs.length c) xs)) : xs.length ≤ c := (h.reads i hi).2.1
theorem Inv.cS {α : Type} {d : Kd α} {e base : Nat} {A : Option Addr} {c : Nat} {xs : List α} (h : Inv w W Ps) (i : Nat) (hi : Ps[i]? = some (rowsF d e base (.slice A xs.length c) xs)) : Kd.C d W A xs.length xs := (h.readss i hi).2.2
theorem Inv.lS {α : Type} {d : Kd α} {e base : Nat} {A : Option Addr} {c : Nat} {xs : List α} (h : Inv w W Ps) (i : Nat) (hi : Ps[i]? = some (rowsF d e base (.slice A xs.length c) xs)) : xs.length ≤ c := (h.readss i hi).2.1
theorem Inv.vR {α : Type} {d : Kd α} {e base : Nat} {A : Option Addr} {c : Nat} {xs : List α} (h : Inv w W Ps) (i : Nat) (hi : Ps[i]? = some (rowF d e base (.slice A xs.length c) xs)) {e' b' : Nat} : Kd.V d e' W b' (fun _ => True) (.slice A xs.length c) xs := by
  obtain ⟨S, _, h2⟩ := h.get i hi
  exact ⟨A, c, rfl, (Kd.R_reads' h2).2.1, Kd.F_mono (Kd.R_F h2) (fun _ _ => trivial)⟩
theorem Inv.vS {α : Type} {d : Kd α} {e base : Nat} {A : Option Addr} {c : Nat} {xs : List α} (h : Inv w W Ps) (i : Nat) (hi : Ps[i]? = some (rowsF d e base (.slice A xs.length c) xs)) {e' b' : Nat} : Kd.V d e' W b' (fun _ => True) (.slice A xs.length c) xs := by
  obtain ⟨S, _, h2⟩ := h.get i hi
  exact ⟨A, c, rfl, (Kd.S_reads' h2).2.1, Kd.F_mono (Kd.S_F h2) (fun _ _ => trivial)⟩
/-- A row of a plain kind is written by a call. -/
theorem Inv.mark {α : Type} {d : Kd α} {e : Nat} {v : Value} {xs ys : List α} {P : Program} {f : FuncId} {args : Array Value} {u : Value} (h : Inv w W Ps) (i : Nat) (hi : Ps[i]? = some (rowF d e w.heap.size v xs)) (hE : d.E = [])
    (hc : ∀ S, Kd.R d e W w.heap.size S v xs → Calls P f args W fun en w' => en = .returned u ∧ Kd.R d e w' w.heap.size (fun k => S k ∨ W.heap.size ≤ k) v ys ∧ Below w.heap.size w w' ∧ Kept W w' (fun k => S k)) :
    Calls P f args W fun en w' => en = .returned u ∧ Inv w w' (Ps.set i (rowF d e w.heap.size v ys)) := by
  obtain ⟨S, h1, h2, h3⟩ := h.write i hi
  refine (hc S h2.now).mono ?_
  rintro en w' ⟨rfl, hr, hb, hk⟩
  exact ⟨rfl, h3 _ _ hb hk (foot_row (Kd.R_mono (Kd.R_tight hE hr) (fun k hk2 => h2.now.1 k hk2.symm)))⟩
/-- A row of rows is written by a call. -/
theorem Inv.marks {α : Type} {d : Kd α} {e : Nat} {v : Value} {xs : List α} {P : Program} {f : FuncId} {args : Array Value} {u : Value} (h : Inv w W Ps) (i : Nat) (hi : Ps[i]? = some (rowsF d e w.heap.size v xs))
    (hc : ∀ S, Kd.S d e W w.heap.size S v xs → Calls P f args W fun en w' => en = .returned u ∧ Below w.heap.size w w' ∧ Kept W w' (fun k => S k)) :
    Calls P f args W fun en w' => en = .returned u ∧ Inv w w' (Ps.set i noF) := by
  obtain ⟨S, h1, h2, h3⟩ := h.write i hi
  refine (hc S h2.now).mono ?_
  rintro en w' ⟨rfl, hb, hk⟩
  exact ⟨rfl, h3 _ _ hb hk (foot_no _ _)⟩
end
end Go.Proofs.Ytkifenbcepicjab.Lv
