/- What is proved here: a row told apart from what is told of its block. No condition beyond those that it states. Written by this session. -/
import Derived.Test.YtkifenbcepicjaaCp
namespace Go.Proofs.Ytkifenbcepicjaa.Cp
open Go.RowKit Go.Proofs.YtkifenbcepicjaaW.PrintWords
/-- Short for what tables of done operations hold. -/
abbrev zT : Bool := true
abbrev zF : Bool := false
theorem zfar {W : World} {b c i j : Nat} {u : Value} (h : Aside0 (b ≠ c)) : (W.setCell ⟨c, j, none⟩ u).cell? ⟨b, i, none⟩ = W.cell? ⟨b, i, none⟩ := cell_far (p := ⟨c, j, none⟩) h.out u
theorem znb {w : World} {a b : Addr} {v : Value} {g n : Nat} (h : w.cell? a = some v) (hle : n ≤ g) (hb : b.block = a.block) (hn : w.heap.size = n := by rfl) : b.block ≠ g := by
  rw [hb]
  subst hn
  exact Nat.ne_of_lt (Nat.lt_of_lt_of_le (World.block_lt_of_cell? _ _ h) hle)
theorem zq1 {α β : Type} {f : α → β} {l : List α} : l.toArray.map f = (l.map f).toArray := List.map_toArray ..
theorem zq2 {α β : Type} {f : α → β} {x : α} {l : List α} : (x :: l).map f = f x :: l.map f := List.map_cons ..
theorem zq3 {α β : Type} {f : α → β} : ([] : List α).map f = [] := List.map_nil ..
theorem zod {p : Prop} [Decidable p] (h : decide p = true := by first | (with_reducible assumption) | assumption) : p := of_decide_eq_true h
theorem zfs {p : Prop} (h : p := by first | rfl | (simp; done) | (simp [*]; done)) : p := h
theorem zfr {p : Prop} (h : p := by first | rfl | (simp <;> rfl) | (simp [*] <;> rfl)) : p := h
variable {α : Type} {d : Kd α} {e base : Nat} {ok : Nat → Prop} {w : World} {v : Value} {xs : List α}
theorem znest (hE : d.E = []) (h : Kd.R d e w base ok v xs) {P : Nat → Prop} (hp : ∀ k, P k → some k ≠ v.ownBlock) : Kd.R d e w base (fun k => ok k ∧ ¬ P k) v xs := Kd.R_mono (Kd.R_tight2 hE h) (fun k hk => ⟨hk.2, fun h2 => hp k h2 hk.1⟩)
end Go.Proofs.Ytkifenbcepicjaa.Cp
