/- What is proved here: short names for steps that printed proofs take often: what a world tells stays told behind an alloc, a draw, or a call that leaves the blocks there alone. No condition beyond those that each states. Written by this session. -/
import Derived.Test.YtkifenbcepicjaaWWords
import Derived.Test.YtkifenbcepicjaaWApart
import Derived.Test.YtkifenbcepicjaaWMore
namespace Go.Proofs.Ytkifenbcepicjaa.Cp
open Go.RowKit Go.Proofs.YtkifenbcepicjaaW.PrintWords

/-- W is w, grown. -/
class Gr (w W : World) : Prop where
  out : Below w.heap.size w W
instance (w : World) : Gr w w := ⟨Below.refl _ _⟩
instance (w W : World) (o : Obj) [h : Gr w W] : Gr w (W.alloc o) := ⟨below_alloc h.out o⟩
instance (w W : World) [h : Gr w W] : Gr w W.drew := ⟨below_drew h.out⟩
instance (w W : World) (n : Nat) [h : Gr w W] : Gr w (W.drewN n) := ⟨pw_below_drewN h.out n⟩
section
variable {w w0 W w2 : World} {g b : Nat} {o : Obj}
theorem zk0 [h : Gr w W] (k : Aside0 (w.heap[g]? = some o)) : W.heap[g]? = some o := blk_below k.out h.out
theorem zb0 [Gr w W] (k : Aside0 (w.heap[g]? = some o)) (hb : Below W.heap.size W w2) : Aside0 (w2.heap[g]? = some o) := ⟨blk_below (zk0 k) hb⟩
theorem znl [Gr w W] (k : Aside0 (w.heap[g]? = some o)) (hg : b = W.heap.size) : Aside0 (g ≠ b) := ⟨by rw [hg]; exact Nat.ne_of_lt (blk_lt (zk0 (W := W) k))⟩
theorem znr [Gr w W] (k : Aside0 (w.heap[g]? = some o)) (hg : b = W.heap.size) : Aside0 (b ≠ g) := ⟨by rw [hg]; exact Nat.ne_of_gt (blk_lt (zk0 (W := W) k))⟩
theorem zh0 [k : Gr w W] (h : Aside0 (Below w0.heap.size w0 w)) : Below w0.heap.size w0 W := h.out.trans (k.out.mono h.out.size)
theorem zhs [Gr w W] (h : Aside0 (Below w0.heap.size w0 w)) (hb : Below W.heap.size W w2) : Aside0 (Below w0.heap.size w0 w2) := ⟨below_step (zh0 h) hb⟩
theorem zge [Gr w W] (h : Aside0 (Below w0.heap.size w0 w)) (hg : b = W.heap.size) : Aside0 (w0.heap.size ≤ b) := ⟨by rw [hg]; exact below_size (zh0 (W := W) h)⟩
end
section
variable {α : Type} {d : Kd α} {e base : Nat} {ok : Nat → Prop} {w W w2 : World} {v : Value} {xs : List α}
theorem zs0 [h : Gr w W] (k : Aside0 (Kd.S d e w base ok v xs)) : Kd.S d e W base ok v xs := Kd.S_below k.out h.out
theorem zsb [Gr w W] (k : Aside0 (Kd.S d e w base ok v xs)) (hb : Below W.heap.size W w2) : Aside0 (Kd.S d e w2 base ok v xs) := ⟨Kd.S_below (zs0 k) hb⟩
theorem zr0 [h : Gr w W] (k : Aside0 (Kd.R d e w base ok v xs)) : Kd.R d e W base ok v xs := Kd.R_below k.out h.out
theorem zrb [Gr w W] (k : Aside0 (Kd.R d e w base ok v xs)) (hb : Below W.heap.size W w2) : Aside0 (Kd.R d e w2 base ok v xs) := ⟨Kd.R_below (zr0 k) hb⟩
end
theorem zc0 {w : World} {g t : Nat} {cs : Array Value} (k : Aside0 (w.heap[g]? = some (.cells cs t (0, 0)))) (i : Nat) {v : Value} (h : cs[i]? = some v) : w.cell? ⟨g, i, none⟩ = some v := (blk_cell k.out i).trans h
theorem zp1 {α : Type} {xs : List α} {i : Nat} {a : α} : xs.toArray.setIfInBounds i a = (xs.set i a).toArray := List.setIfInBounds_toArray ..
theorem zp2 {α : Type} {x a : α} {xs : List α} : (x :: xs).set 0 a = a :: xs := List.set_cons_zero ..
theorem zp3 {α : Type} {x a : α} {xs : List α} {n : Nat} : (x :: xs).set (n + 1) a = x :: xs.set n a := List.set_cons_succ ..
end Go.Proofs.Ytkifenbcepicjaa.Cp
