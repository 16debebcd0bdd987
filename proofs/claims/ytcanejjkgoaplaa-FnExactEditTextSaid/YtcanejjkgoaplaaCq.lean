/- What is proved here: a row told apart from what is told of its block. No condition beyond those that it states. Written by this session. -/
import Derived.Test.YtcanejjkgoaplaaCp
namespace Go.Proofs.Ytcanejjkgoaplaa.Cp
open Go.RowKit Go.Proofs.YtcanejjkgoaplaaW.PrintWords
variable {α : Type} {d : Kd α} {e base : Nat} {ok : Nat → Prop} {w : World} {v : Value} {xs : List α}
theorem znest (hE : d.E = []) (h : Kd.R d e w base ok v xs) {P : Nat → Prop} (hp : ∀ k, P k → some k ≠ v.ownBlock) : Kd.R d e w base (fun k => ok k ∧ ¬ P k) v xs := Kd.R_mono (Kd.R_tight2 hE h) (fun k hk => ⟨hk.2, fun h2 => hp k h2 hk.1⟩)
end Go.Proofs.Ytcanejjkgoaplaa.Cp
