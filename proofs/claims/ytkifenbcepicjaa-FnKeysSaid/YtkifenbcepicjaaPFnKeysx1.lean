/- What is proved here: each Go function that is named below answers, and leaves memory, as the theorem of its name says; no condition beyond those that each theorem states. Laid by this session's own program (wip/driver.py) over the kit's print. -/
import Derived.Test.YtkifenbcepicjaaPFnKeysx0
namespace Go.Proofs.Ytkifenbcepicjaa.PFnKeys
open Go.RowKit Go.Proofs.YtkifenbcepicjaaW.PrintWords Go.Proofs.YtkifenbcepicjaaW.PrintLast Go.Proofs.YtkifenbcepicjaaW.PrintMore
attribute [local go_sem] max2_int min2_int max_two min_two max_three min_three max_four min_four   -- for this text's walks alone
set_option linter.unusedVariables false
set_option linter.unusedSimpArgs false

open Go.Proofs.Ytkifenbcepicjaa.Cp
/-! ### laws_vBig: function 20 -/
def laws_vBig.f (l0 : List Int) : Option (Bool) := some (decide ((l0.length : Int) > 65536))
set_option maxHeartbeats 8000000 in
set_option maxRecDepth 100000 in
theorem laws_vBig.calls (A0 : Option Addr) (c0 : Nat) (l0 : List Int) (r : Bool) (w : World) (hr0 : Kd.C (Kd.int .u8) w A0 l0.length l0) (hc0 : l0.length ≤ c0) (h : laws_vBig.f l0 = some r) :
  Calls Try.prog 20 #[.slice A0 l0.length c0] w fun e w' => e = .returned (.bool r) ∧ Drawn0 w w' := by
 have HR0 := Aside0.mk hr0
 have HC0 := Aside0.mk hc0
 clear hr0 hc0
 have H : (some (decide ((l0.length : Int) > 65536))) = some r := h
 clear h
 obtain rfl := Option.some.inj H
 go_enter Try.func20, Try.ntmps20
 go_wp2
 go_ret
 exact ⟨by first | rfl | (simp; done) | (simp [*]; done), by repeat (first | exact Drawn0.refl _ | apply Drawn0.step)⟩

open Go.Proofs.Ytkifenbcepicjaa.Cp
/-- A state of type 82 at block g of W; what its slices lead to came in by w0. -/
def IsS82 (w0 W : World) (g : Nat) (f0 : List Int) (f1 : Int) (f2 : Int) : Prop := ∃ A0 c0, W.heap[g]? = some (.cells #[.slice A0 f0.length c0, .int .i64 f1, .int .u64 f2] 82 (0, 0)) ∧ w0.heap.size ≤ g ∧ Kd.C (Kd.int .u8) w0 A0 f0.length f0
theorem IsS82.grown {w0 W : World} {g : Nat} {f0 : List Int} {f1 : Int} {f2 : Int} {W1 : World} {row : Option Nat} (h : IsS82 w0 W g f0 f1 f2) (hw : W.grownBy W1 row) (hne : some g ≠ row) : IsS82 w0 W1 g f0 f1 f2 := by
 obtain ⟨A0, c0, hb, hg, hr0⟩ := h
 exact ⟨A0, c0, blk_grown hb hw hne, hg, hr0⟩
theorem IsS82.own_neN {w0 W : World} {g : Nat} {f0 : List Int} {f1 : Int} {f2 : Int} {α : Type} {d : Kd α} {e : Nat} {base : Nat} {ok : Nat → Prop} {v : Value} {xs : List α} (h : IsS82 w0 W g f0 f1 f2) (ho : Kd.N d e W base ok v xs) (ht : e ≠ 82) : some g ≠ v.ownBlock := by
 obtain ⟨A0, c0, hb, hg, hr0⟩ := h
 exact Kd.N_ne ho hb ht
theorem IsS82.fresh {w0 W : World} {g : Nat} {f0 : List Int} {f1 : Int} {f2 : Int} (h : IsS82 w0 W g f0 f1 f2) : ∀ k, W.heap.size ≤ k → k ≠ g := by
 obtain ⟨A0, c0, hb, hg, hr0⟩ := h
 exact Kd.freshB hb
theorem IsS82.kept {w0 W : World} {g : Nat} {f0 : List Int} {f1 : Int} {f2 : Int} {W1 : World} {S : Nat → Prop} (h : IsS82 w0 W g f0 f1 f2) (hk : Kept W W1 S) (hne : ¬ S g) : IsS82 w0 W1 g f0 f1 f2 := by
 obtain ⟨A0, c0, hb, hg, hr0⟩ := h
 exact ⟨A0, c0, blk_kept hb hk hne, hg, hr0⟩
theorem IsS82.below {w0 W : World} {g : Nat} {f0 : List Int} {f1 : Int} {f2 : Int} {W1 : World} (h : IsS82 w0 W g f0 f1 f2) (hw : Below W.heap.size W W1) : IsS82 w0 W1 g f0 f1 f2 := h.grown (grown_of_below hw none) (by simp)
theorem IsS82.alloc {w0 W : World} {g : Nat} {f0 : List Int} {f1 : Int} {f2 : Int} (h : IsS82 w0 W g f0 f1 f2) (o : Obj) : IsS82 w0 (W.alloc o) g f0 f1 f2 := h.below (below_alloc (Below.refl _ _) o)
theorem IsS82.drewN {w0 W : World} {g : Nat} {f0 : List Int} {f1 : Int} {f2 : Int} (h : IsS82 w0 W g f0 f1 f2) (m : Nat) : IsS82 w0 (W.drewN m) g f0 f1 f2 := h
theorem IsS82.drew {w0 W : World} {g : Nat} {f0 : List Int} {f1 : Int} {f2 : Int} (h : IsS82 w0 W g f0 f1 f2) : IsS82 w0 W.drew g f0 f1 f2 := h
theorem IsS82.at_ {w0 W : World} {g : Nat} {f0 : List Int} {f1 : Int} {f2 : Int} {w' : World} {m : Nat} (hq : W.drewN m = w') (h : IsS82 w0 W g f0 f1 f2) : IsS82 w0 w' g f0 f1 f2 := by subst hq; exact IsS82.drewN h m
theorem IsS82.apart {w0 W : World} {g : Nat} {f0 : List Int} {f1 : Int} {f2 : Int} {α : Type} {d : Kd α} {e : Nat} {base : Nat} {ok : Nat → Prop} {v : Value} {xs : List α} (h : IsS82 w0 W g f0 f1 f2) (ho : d.R e W base ok v xs) (ht : ∀ q, q ∈ e :: d.E → q ≠ 82) : d.R e W base (fun k => ok k ∧ k ≠ g) v xs := by
 obtain ⟨A0, c0, hb, hg, hr0⟩ := h
 exact Kd.R_types ho hb ht
theorem IsS82.own_ne {w0 W : World} {g : Nat} {f0 : List Int} {f1 : Int} {f2 : Int} {α : Type} {d : Kd α} {e : Nat} {base : Nat} {ok : Nat → Prop} {v : Value} {xs : List α} (h : IsS82 w0 W g f0 f1 f2) (ho : d.R e W base ok v xs) (ht : e ≠ 82) : some g ≠ v.ownBlock := by
 obtain ⟨A0, c0, hb, hg, hr0⟩ := h
 exact Kd.R_ne ho hb ht
theorem IsS82.apartQ {w0 W : World} {g : Nat} {f0 : List Int} {f1 : Int} {f2 : Int} {α : Type} {d : Kd α} {e : Nat} {base : Nat} {ok : Nat → Prop} {v : Value} {xs : List α} (h : IsS82 w0 W g f0 f1 f2) (ho : d.Q e W base ok v xs) (ht : ∀ q, q ∈ e :: d.E → q ≠ 82) : d.Q e W base (fun k => ok k ∧ k ≠ g) v xs := by
 obtain ⟨A0, c0, hb, hg, hr0⟩ := h
 exact Kd.Q_types ho hb ht
theorem IsS82.own_neQ {w0 W : World} {g : Nat} {f0 : List Int} {f1 : Int} {f2 : Int} {α : Type} {d : Kd α} {e : Nat} {base : Nat} {ok : Nat → Prop} {v : Value} {xs : List α} (h : IsS82 w0 W g f0 f1 f2) (ho : d.Q e W base ok v xs) (ht : e ≠ 82) : some g ≠ v.ownBlock := by
 obtain ⟨A0, c0, hb, hg, hr0⟩ := h
 exact Kd.Q_ne ho hb ht
theorem IsS82.apartS {w0 W : World} {g : Nat} {f0 : List Int} {f1 : Int} {f2 : Int} {α : Type} {d : Kd α} {e : Nat} {base : Nat} {ok : Nat → Prop} {v : Value} {xs : List α} (h : IsS82 w0 W g f0 f1 f2) (ho : d.S e W base ok v xs) (ht : ∀ q, q ∈ e :: d.E → q ≠ 82) : d.S e W base (fun k => ok k ∧ k ≠ g) v xs := by
 obtain ⟨A0, c0, hb, hg, hr0⟩ := h
 exact Kd.S_types ho hb ht
theorem IsS82.own_neS {w0 W : World} {g : Nat} {f0 : List Int} {f1 : Int} {f2 : Int} {α : Type} {d : Kd α} {e : Nat} {base : Nat} {ok : Nat → Prop} {v : Value} {xs : List α} (h : IsS82 w0 W g f0 f1 f2) (ho : d.S e W base ok v xs) (ht : e ≠ 82) : some g ≠ v.ownBlock := by
 obtain ⟨A0, c0, hb, hg, hr0⟩ := h
 exact Kd.S_ne ho hb ht
theorem IsS82.lt {w0 W : World} {g : Nat} {f0 : List Int} {f1 : Int} {f2 : Int} (h : IsS82 w0 W g f0 f1 f2) : g < W.heap.size := by
 obtain ⟨A0, c0, hb, hg, hr0⟩ := h
 exact blk_lt hb
theorem IsS82.ge {w0 W : World} {g : Nat} {f0 : List Int} {f1 : Int} {f2 : Int} (h : IsS82 w0 W g f0 f1 f2) : w0.heap.size ≤ g := by
 obtain ⟨A0, c0, hb, hg, hr0⟩ := h
 exact hg
theorem IsS82.ne_blk {w0 W : World} {g : Nat} {f0 : List Int} {f1 : Int} {f2 : Int} {a : Nat} {cs : Array Value} {t : TypeId} {fr : Nat × Nat} (h : IsS82 w0 W g f0 f1 f2) (hb2 : W.heap[a]? = some (.cells cs t fr)) (ht : t ≠ 82) : g ≠ a := by
 obtain ⟨A0, c0, hb, hg, hr0⟩ := h
 rintro rfl
 rw [hb] at hb2
 injection hb2 with hb2
 injection hb2 with _ ht2
 exact ht ht2.symm
theorem IsS82.far {w0 W : World} {g : Nat} {f0 : List Int} {f1 : Int} {f2 : Int} {p : Addr} (h : IsS82 w0 W g f0 f1 f2) (hne : g ≠ p.block) (u : Value) : IsS82 w0 (W.setCell p u) g f0 f1 f2 := by
 obtain ⟨A0, c0, hb, hg, hr0⟩ := h
 exact ⟨A0, c0, blk_far hb hne u, hg, hr0⟩
theorem cellS82_0 {W : World} {g : Nat} {A0 : Option Addr} {c0 : Nat} {f0 : List Int} {f1 : Int} {f2 : Int} (h : W.heap[g]? = some (.cells #[.slice A0 f0.length c0, .int .i64 f1, .int .u64 f2] 82 (0, 0))) : W.cell? ⟨g, 0, none⟩ = some (.slice A0 f0.length c0) := (blk_cell h 0).trans rfl
theorem cellS82_1 {W : World} {g : Nat} {A0 : Option Addr} {c0 : Nat} {f0 : List Int} {f1 : Int} {f2 : Int} (h : W.heap[g]? = some (.cells #[.slice A0 f0.length c0, .int .i64 f1, .int .u64 f2] 82 (0, 0))) : W.cell? ⟨g, 1, none⟩ = some (.int .i64 f1) := (blk_cell h 1).trans rfl
theorem IsS82.set_1 {w0 W : World} {g : Nat} {f0 : List Int} {f1 : Int} {f2 : Int} (h : IsS82 w0 W g f0 f1 f2) (x : Int) : IsS82 w0 (W.setCell ⟨g, 1, none⟩ (.int .i64 x)) g f0 x f2 := by
 obtain ⟨A0, c0, hb, hg, hr0⟩ := h
 exact ⟨A0, c0, by simpa using blk_set hb 1 (.int .i64 x), hg, hr0⟩
theorem cellS82_2 {W : World} {g : Nat} {A0 : Option Addr} {c0 : Nat} {f0 : List Int} {f1 : Int} {f2 : Int} (h : W.heap[g]? = some (.cells #[.slice A0 f0.length c0, .int .i64 f1, .int .u64 f2] 82 (0, 0))) : W.cell? ⟨g, 2, none⟩ = some (.int .u64 f2) := (blk_cell h 2).trans rfl
theorem IsS82.set_2 {w0 W : World} {g : Nat} {f0 : List Int} {f1 : Int} {f2 : Int} (h : IsS82 w0 W g f0 f1 f2) (x : Int) : IsS82 w0 (W.setCell ⟨g, 2, none⟩ (.int .u64 x)) g f0 f1 x := by
 obtain ⟨A0, c0, hb, hg, hr0⟩ := h
 exact ⟨A0, c0, by simpa using blk_set hb 2 (.int .u64 x), hg, hr0⟩
theorem IsS82.new (w0 W : World) (A0 : Option Addr) (c0 : Nat) (f0 : List Int) (f1 : Int) (f2 : Int) (hB : Below w0.heap.size w0 W) (hr0 : Kd.C (Kd.int .u8) w0 A0 f0.length f0) : IsS82 w0 (W.alloc (.cells #[.slice A0 f0.length c0, .int .i64 f1, .int .u64 f2] 82)) W.heap.size f0 f1 f2 := ⟨A0, c0, by simpa using heap_alloc_new W _, hB.size, hr0⟩

/-! ### spec_l1Cur_next: function 78 -/
def spec_l1Cur_next.f (s0_0 : List Int) (s0_1 : Int) (s0_2 : Int) : Option (Int × Int × Int) := if s0_1 < (s0_0.length : Int) then (if 0 ≤ s0_1 then (if (wrap64 (s0_1 + 1)) ≤ (s0_0.length : Int) then (some (wrap64 (rd s0_0 s0_1), wrap64 (s0_1 + 1), IntKind.u64.wrap ((IntKind.u64.wrap ((IntKind.u64.wrap (s0_2 * 6364136223846793005)) + (IntKind.u64.wrap (wrap64 (rd s0_0 s0_1))))) + 462197))) else (some (wrap64 (Go.bits .and .u64 ((IntKind.u64.wrap ((IntKind.u64.wrap ((IntKind.u64.wrap (s0_2 * 6364136223846793005)) + (IntKind.u64.wrap (wrap64 (rd s0_0 s0_1))))) + 462197)) / 1099511627776) 255), wrap64 (s0_1 + 1), IntKind.u64.wrap ((IntKind.u64.wrap ((IntKind.u64.wrap (s0_2 * 6364136223846793005)) + (IntKind.u64.wrap (wrap64 (rd s0_0 s0_1))))) + 462197)))) else (none)) else (if (wrap64 (s0_1 + 1)) ≤ (s0_0.length : Int) then (some (0, wrap64 (s0_1 + 1), IntKind.u64.wrap ((IntKind.u64.wrap (IntKind.u64.wrap (s0_2 * 6364136223846793005))) + 462197))) else (some (wrap64 (Go.bits .and .u64 ((IntKind.u64.wrap ((IntKind.u64.wrap (IntKind.u64.wrap (s0_2 * 6364136223846793005))) + 462197)) / 1099511627776) 255), wrap64 (s0_1 + 1), IntKind.u64.wrap ((IntKind.u64.wrap (IntKind.u64.wrap (s0_2 * 6364136223846793005))) + 462197))))
set_option maxHeartbeats 8000000 in
set_option maxRecDepth 100000 in
theorem spec_l1Cur_next.calls (g : Nat) (s0_0 : List Int) (s0_1 : Int) (s0_2 : Int) (r1 : Int) (r2 : Int) (r3 : Int) (w0 w : World) (hI : IsS82 w0 w g s0_0 s0_1 s0_2) (hB : Below w0.heap.size w0 w) (h : spec_l1Cur_next.f s0_0 s0_1 s0_2 = some (r1, r2, r3)) :
  Calls Try.prog 78 #[.pointer (some ⟨g, 0, none⟩)] w fun e w' => e = .returned (.int .i64 r1) ∧ IsS82 w0 w' g s0_0 r2 r3 ∧ Below w0.heap.size w0 w' ∧ KeepBut w w' g none := by
 have HI0 := Aside0.mk hI
 have HK := Aside0.mk (KeepBut.refl w g none)
 have HL := Aside0.mk hB.size
 clear hI
 have HW0 := Aside0.mk hB.size
 have HB := Aside0.mk hB
 clear hB
 have H : (if s0_1 < (s0_0.length : Int) then (if 0 ≤ s0_1 then (if (wrap64 (s0_1 + 1)) ≤ (s0_0.length : Int) then (some (wrap64 (rd s0_0 s0_1), wrap64 (s0_1 + 1), IntKind.u64.wrap ((IntKind.u64.wrap ((IntKind.u64.wrap (s0_2 * 6364136223846793005)) + (IntKind.u64.wrap (wrap64 (rd s0_0 s0_1))))) + 462197))) else (some (wrap64 (Go.bits .and .u64 ((IntKind.u64.wrap ((IntKind.u64.wrap ((IntKind.u64.wrap (s0_2 * 6364136223846793005)) + (IntKind.u64.wrap (wrap64 (rd s0_0 s0_1))))) + 462197)) / 1099511627776) 255), wrap64 (s0_1 + 1), IntKind.u64.wrap ((IntKind.u64.wrap ((IntKind.u64.wrap (s0_2 * 6364136223846793005)) + (IntKind.u64.wrap (wrap64 (rd s0_0 s0_1))))) + 462197)))) else (none)) else (if (wrap64 (s0_1 + 1)) ≤ (s0_0.length : Int) then (some (0, wrap64 (s0_1 + 1), IntKind.u64.wrap ((IntKind.u64.wrap (IntKind.u64.wrap (s0_2 * 6364136223846793005))) + 462197))) else (some (wrap64 (Go.bits .and .u64 ((IntKind.u64.wrap ((IntKind.u64.wrap (IntKind.u64.wrap (s0_2 * 6364136223846793005))) + 462197)) / 1099511627776) 255), wrap64 (s0_1 + 1), IntKind.u64.wrap ((IntKind.u64.wrap (IntKind.u64.wrap (s0_2 * 6364136223846793005))) + 462197))))) = some (r1, r2, r3) := h
 clear h
 by_cases c2 : s0_1 < (s0_0.length : Int)
 ·rw [if_pos c2] at H
  have c2b0 : decide (s0_1 < (s0_0.length : Int)) = true := decide_eq_true c2
  clear c2
  by_cases c3 : 0 ≤ s0_1
  ·rw [if_pos c3] at H
   have c3b0 : decide (0 ≤ s0_1) = true := decide_eq_true c3
   clear c3
   by_cases c4 : (wrap64 (s0_1 + 1)) ≤ (s0_0.length : Int)
   ·rw [if_pos c4] at H
    have c4b0 : decide ((wrap64 (s0_1 + 1)) ≤ (s0_0.length : Int)) = true := decide_eq_true c4
    clear c4
    simp only [Option.some.injEq, Prod.mk.injEq] at H
    obtain ⟨rfl, rfl, rfl⟩ := H
    obtain ⟨ASz5_0, cSz5_0, HGz5, hgz5, HSz5_0⟩ := HI0.out
    have hcz5_0 := cellS82_0 HGz5
    have hcz5_1 := cellS82_1 HGz5
    have hcz5_2 := cellS82_2 HGz5
    have hfz5_1 := blk_frozen HGz5 1
    have hfz5_2 := blk_frozen HGz5 2
    clear HGz5 hgz5
    have p101 : 0 ≤ (s0_1 : Int) := of_decide_eq_true (by first | (with_reducible assumption) | assumption)
    have q101 : s0_1 < (s0_0.length : Int) := of_decide_eq_true (by first | (with_reducible assumption) | assumption)
    obtain ⟨ad101, e101, hx101_0⟩ := Kd.at_int HSz5_0 s0_1 p101 q101
    cases e101
    replace hx101_0 := pw_cell_below HB.out hx101_0
    replace p101 := eq_true p101
    replace q101 := eq_true q101
    go_enter Try.func78, Try.ntmps78
    go_wp2
    repeat (go_quiet (fail); try go_wp2)
    go_ret
    exact ⟨by first | rfl | (simp <;> rfl) | (simp [*] <;> rfl), by repeat (first | (with_reducible first | exact HI0.out | apply IsS82.alloc | apply IsS82.drewN | apply IsS82.drew | apply IsS82.set_1 | apply IsS82.set_2) | exact HI0.out), by repeat (first | (with_reducible first | exact HB.out | apply below_alloc | apply pw_below_drewN | apply below_drew1 | refine below_set ?_ (IsS82.ge HI0.out)) | exact HB.out), by repeat (first | (with_reducible first | exact HK.out | apply KeepBut.set_ | apply keep_drewN | apply keep_drew | apply keep_alloc) | exact HK.out)⟩
   ·rw [if_neg c4] at H
    have c4b0 : decide ((wrap64 (s0_1 + 1)) ≤ (s0_0.length : Int)) = false := decide_eq_false c4
    clear c4
    simp only [Option.some.injEq, Prod.mk.injEq] at H
    obtain ⟨rfl, rfl, rfl⟩ := H
    obtain ⟨ASz6_0, cSz6_0, HGz6, hgz6, HSz6_0⟩ := HI0.out
    have hcz6_0 := cellS82_0 HGz6
    have hcz6_1 := cellS82_1 HGz6
    have hcz6_2 := cellS82_2 HGz6
    have hfz6_1 := blk_frozen HGz6 1
    have hfz6_2 := blk_frozen HGz6 2
    clear HGz6 hgz6
    have p101 : 0 ≤ (s0_1 : Int) := of_decide_eq_true (by first | (with_reducible assumption) | assumption)
    have q101 : s0_1 < (s0_0.length : Int) := of_decide_eq_true (by first | (with_reducible assumption) | assumption)
    obtain ⟨ad101, e101, hx101_0⟩ := Kd.at_int HSz6_0 s0_1 p101 q101
    cases e101
    replace hx101_0 := pw_cell_below HB.out hx101_0
    replace p101 := eq_true p101
    replace q101 := eq_true q101
    go_enter Try.func78, Try.ntmps78
    go_wp2
    repeat (go_quiet (fail); try go_wp2)
    go_ret
    exact ⟨by first | rfl | (simp <;> rfl) | (simp [*] <;> rfl), by repeat (first | (with_reducible first | exact HI0.out | apply IsS82.alloc | apply IsS82.drewN | apply IsS82.drew | apply IsS82.set_1 | apply IsS82.set_2) | exact HI0.out), by repeat (first | (with_reducible first | exact HB.out | apply below_alloc | apply pw_below_drewN | apply below_drew1 | refine below_set ?_ (IsS82.ge HI0.out)) | exact HB.out), by repeat (first | (with_reducible first | exact HK.out | apply KeepBut.set_ | apply keep_drewN | apply keep_drew | apply keep_alloc) | exact HK.out)⟩
  ·rw [if_neg c3] at H
   exact absurd H (by simp)
 ·rw [if_neg c2] at H
  have c2b0 : decide (s0_1 < (s0_0.length : Int)) = false := decide_eq_false c2
  clear c2
  by_cases c7 : (wrap64 (s0_1 + 1)) ≤ (s0_0.length : Int)
  ·rw [if_pos c7] at H
   have c7b0 : decide ((wrap64 (s0_1 + 1)) ≤ (s0_0.length : Int)) = true := decide_eq_true c7
   clear c7
   simp only [Option.some.injEq, Prod.mk.injEq] at H
   obtain ⟨rfl, rfl, rfl⟩ := H
   obtain ⟨ASz8_0, cSz8_0, HGz8, hgz8, HSz8_0⟩ := HI0.out
   have hcz8_0 := cellS82_0 HGz8
   have hcz8_1 := cellS82_1 HGz8
   have hcz8_2 := cellS82_2 HGz8
   have hfz8_1 := blk_frozen HGz8 1
   have hfz8_2 := blk_frozen HGz8 2
   clear HGz8 hgz8
   go_enter Try.func78, Try.ntmps78
   go_wp2
   repeat (go_quiet (fail); try go_wp2)
   go_ret
   exact ⟨by first | rfl | (simp <;> rfl) | (simp [*] <;> rfl), by repeat (first | (with_reducible first | exact HI0.out | apply IsS82.alloc | apply IsS82.drewN | apply IsS82.drew | apply IsS82.set_1 | apply IsS82.set_2) | exact HI0.out), by repeat (first | (with_reducible first | exact HB.out | apply below_alloc | apply pw_below_drewN | apply below_drew1 | refine below_set ?_ (IsS82.ge HI0.out)) | exact HB.out), by repeat (first | (with_reducible first | exact HK.out | apply KeepBut.set_ | apply keep_drewN | apply keep_drew | apply keep_alloc) | exact HK.out)⟩
  ·rw [if_neg c7] at H
   have c7b0 : decide ((wrap64 (s0_1 + 1)) ≤ (s0_0.length : Int)) = false := decide_eq_false c7
   clear c7
   simp only [Option.some.injEq, Prod.mk.injEq] at H
   obtain ⟨rfl, rfl, rfl⟩ := H
   obtain ⟨ASz9_0, cSz9_0, HGz9, hgz9, HSz9_0⟩ := HI0.out
   have hcz9_0 := cellS82_0 HGz9
   have hcz9_1 := cellS82_1 HGz9
   have hcz9_2 := cellS82_2 HGz9
   have hfz9_1 := blk_frozen HGz9 1
   have hfz9_2 := blk_frozen HGz9 2
   clear HGz9 hgz9
   go_enter Try.func78, Try.ntmps78
   go_wp2
   repeat (go_quiet (fail); try go_wp2)
   go_ret
   exact ⟨by first | rfl | (simp <;> rfl) | (simp [*] <;> rfl), by repeat (first | (with_reducible first | exact HI0.out | apply IsS82.alloc | apply IsS82.drewN | apply IsS82.drew | apply IsS82.set_1 | apply IsS82.set_2) | exact HI0.out), by repeat (first | (with_reducible first | exact HB.out | apply below_alloc | apply pw_below_drewN | apply below_drew1 | refine below_set ?_ (IsS82.ge HI0.out)) | exact HB.out), by repeat (first | (with_reducible first | exact HK.out | apply KeepBut.set_ | apply keep_drewN | apply keep_drew | apply keep_alloc) | exact HK.out)⟩

open Go.Proofs.Ytkifenbcepicjaa.Cp
/-! ### spec_l1Cur_pick: function 56 -/
def spec_l1Cur_pick.f (s0_0 : List Int) (s0_1 : Int) (s0_2 : Int) (a1 : Int) : Option (Int × Int × Int) := if a1 ≤ 1 then (some (0, s0_1, s0_2)) else ((spec_l1Cur_next.f s0_0 s0_1 s0_2).bind fun bt102 => (if a1 > 200 then ((spec_l1Cur_next.f s0_0 bt102.2.1 bt102.2.2).bind fun bt105 => (if a1 = 0 then (none) else (some (Int.tmod (wrap64 ((wrap64 (bt102.1 * 256)) + bt105.1)) a1, bt105.2.1, bt105.2.2)))) else (if a1 = 0 then (none) else (some (Int.tmod bt102.1 a1, bt102.2.1, bt102.2.2)))))
set_option maxHeartbeats 8000000 in
set_option maxRecDepth 100000 in
theorem spec_l1Cur_pick.calls (g : Nat) (s0_0 : List Int) (s0_1 : Int) (s0_2 : Int) (a1 : Int) (r1 : Int) (r2 : Int) (r3 : Int) (w0 w : World) (hI : IsS82 w0 w g s0_0 s0_1 s0_2) (hB : Below w0.heap.size w0 w) (h : spec_l1Cur_pick.f s0_0 s0_1 s0_2 a1 = some (r1, r2, r3)) :
  Calls Try.prog 56 #[.pointer (some ⟨g, 0, none⟩), .int .i64 a1] w fun e w' => e = .returned (.int .i64 r1) ∧ IsS82 w0 w' g s0_0 r2 r3 ∧ Below w0.heap.size w0 w' ∧ KeepBut w w' g none := by
 have HI0 := Aside0.mk hI
 have HK := Aside0.mk (KeepBut.refl w g none)
 have HL := Aside0.mk hB.size
 clear hI
 have HW0 := Aside0.mk hB.size
 have HB := Aside0.mk hB
 clear hB
 have H : (if a1 ≤ 1 then (some (0, s0_1, s0_2)) else ((spec_l1Cur_next.f s0_0 s0_1 s0_2).bind fun bt102 => (if a1 > 200 then ((spec_l1Cur_next.f s0_0 bt102.2.1 bt102.2.2).bind fun bt105 => (if a1 = 0 then (none) else (some (Int.tmod (wrap64 ((wrap64 (bt102.1 * 256)) + bt105.1)) a1, bt105.2.1, bt105.2.2)))) else (if a1 = 0 then (none) else (some (Int.tmod bt102.1 a1, bt102.2.1, bt102.2.2)))))) = some (r1, r2, r3) := h
 clear h
 by_cases c3 : a1 ≤ 1
 ·rw [if_pos c3] at H
  have c3b0 : decide (a1 ≤ 1) = true := decide_eq_true c3
  clear c3
  simp only [Option.some.injEq, Prod.mk.injEq] at H
  obtain ⟨rfl, rfl, rfl⟩ := H
  go_enter Try.func56, Try.ntmps56
  go_wp2
  go_ret
  exact ⟨by first | rfl | (simp <;> rfl) | (simp [*] <;> rfl), by repeat (first | (with_reducible first | exact HI0.out | apply IsS82.alloc | apply IsS82.drewN | apply IsS82.drew | apply IsS82.set_1 | apply IsS82.set_2) | exact HI0.out), by repeat (first | (with_reducible first | exact HB.out | apply below_alloc | apply pw_below_drewN | apply below_drew1 | refine below_set ?_ (IsS82.ge HI0.out)) | exact HB.out), by repeat (first | (with_reducible first | exact HK.out | apply KeepBut.set_ | apply keep_drewN | apply keep_drew | apply keep_alloc) | exact HK.out)⟩
 ·rw [if_neg c3] at H
  have c3b0 : decide (a1 ≤ 1) = false := decide_eq_false c3
  clear c3
  replace H := Option.bind_eq_some_iff.mp H
  obtain ⟨⟨t102, t103, t104⟩, A40, H⟩ := H
  replace H : (if a1 > 200 then ((spec_l1Cur_next.f s0_0 t103 t104).bind fun bt105 => (if a1 = 0 then (none) else (some (Int.tmod (wrap64 ((wrap64 (t102 * 256)) + bt105.1)) a1, bt105.2.1, bt105.2.2)))) else (if a1 = 0 then (none) else (some (Int.tmod t102 a1, t103, t104)))) = some (r1, r2, r3) := H
  have A4 := Aside0.mk A40
  clear A40
  by_cases c5 : a1 > 200
  ·rw [if_pos c5] at H
   have c5b0 : decide (200 < a1) = true := decide_eq_true c5
   clear c5
   replace H := Option.bind_eq_some_iff.mp H
   obtain ⟨⟨t105, t106, t107⟩, A60, H⟩ := H
   replace H : (if a1 = 0 then (none) else (some (Int.tmod (wrap64 ((wrap64 (t102 * 256)) + t105)) a1, t106, t107))) = some (r1, r2, r3) := H
   have A6 := Aside0.mk A60
   clear A60
   by_cases c7 : a1 = 0
   ·rw [if_pos c7] at H
    exact absurd H (by simp)
   ·rw [if_neg c7] at H
    have c7b0 : (a1 == 0) = false := beq_eq_false_iff_ne.mpr c7
    have c7b1 : (a1 != 0) = true := bne_iff_ne.mpr c7
    simp only [Option.some.injEq, Prod.mk.injEq] at H
    obtain ⟨rfl, rfl, rfl⟩ := H
    go_enter Try.func56, Try.ntmps56
    go_wp2_with (first | ((with_reducible refine gate_callee (f := 78) rfl ?_); refine goesL_ (some 9) rfl rfl Try.func78 (by kernel_rfl) rfl #[.pointer (some ⟨g, 0, none⟩)] rfl (by (try simp only [zq1, zq2, zq3]); first | done | rfl | (simp only [List.length_drop, List.length_take]; rfl)) ?_; (with_reducible refine (spec_l1Cur_next.calls g s0_0 s0_1 s0_2 t102 t103 t104 w0 _ ?side1 ?side2 A4.out).mono ?_); (case side1 => repeat (first | (with_reducible first | exact HI0.out | apply IsS82.alloc | apply IsS82.drewN | apply IsS82.drew | apply IsS82.set_1 | apply IsS82.set_2) | exact HI0.out)); (case side2 => repeat (first | (with_reducible first | exact HB.out | apply below_alloc | apply pw_below_drewN | apply below_drew1 | refine below_set ?_ (IsS82.ge HI0.out)) | exact HB.out)); rintro e w8 ⟨rfl, hi, hb, hk⟩; refine ⟨_, rfl, ?_⟩; replace HK := Aside0.mk (KeepBut.trans (by repeat (first | (with_reducible first | exact HK.out | apply KeepBut.set_ | apply keep_drewN | apply keep_drew | apply keep_alloc) | exact HK.out)) hk (.inl rfl)); replace HB := Aside0.mk (hb); replace HI0 := Aside0.mk (hi); (try clear hb); (try clear hb2); (try clear hk); (try clear hi)) | ((with_reducible refine gate_callee (f := 78) rfl ?_); refine goesL_ (some 15) rfl rfl Try.func78 (by kernel_rfl) rfl #[.pointer (some ⟨g, 0, none⟩)] rfl (by (try simp only [zq1, zq2, zq3]); first | done | rfl | (simp only [List.length_drop, List.length_take]; rfl)) ?_; (with_reducible refine (spec_l1Cur_next.calls g s0_0 t103 t104 t105 t106 t107 w0 _ ?side1 ?side2 A6.out).mono ?_); (case side1 => repeat (first | (with_reducible first | exact HI0.out | apply IsS82.alloc | apply IsS82.drewN | apply IsS82.drew | apply IsS82.set_1 | apply IsS82.set_2) | exact HI0.out)); (case side2 => repeat (first | (with_reducible first | exact HB.out | apply below_alloc | apply pw_below_drewN | apply below_drew1 | refine below_set ?_ (IsS82.ge HI0.out)) | exact HB.out)); rintro e w9 ⟨rfl, hi, hb, hk⟩; refine ⟨_, rfl, ?_⟩; replace HK := Aside0.mk (KeepBut.trans (by repeat (first | (with_reducible first | exact HK.out | apply KeepBut.set_ | apply keep_drewN | apply keep_drew | apply keep_alloc) | exact HK.out)) hk (.inl rfl)); replace HB := Aside0.mk (hb); replace HI0 := Aside0.mk (hi); (try clear hb); (try clear hb2); (try clear hk); (try clear hi)))
    go_ret
    exact ⟨by first | rfl | (simp <;> rfl) | (simp [*] <;> rfl), by repeat (first | (with_reducible first | exact HI0.out | apply IsS82.alloc | apply IsS82.drewN | apply IsS82.drew | apply IsS82.set_1 | apply IsS82.set_2) | exact HI0.out), by repeat (first | (with_reducible first | exact HB.out | apply below_alloc | apply pw_below_drewN | apply below_drew1 | refine below_set ?_ (IsS82.ge HI0.out)) | exact HB.out), by repeat (first | (with_reducible first | exact HK.out | apply KeepBut.set_ | apply keep_drewN | apply keep_drew | apply keep_alloc) | exact HK.out)⟩
  ·rw [if_neg c5] at H
   have c5b0 : decide (200 < a1) = false := decide_eq_false c5
   clear c5
   by_cases c10 : a1 = 0
   ·rw [if_pos c10] at H
    exact absurd H (by simp)
   ·rw [if_neg c10] at H
    have c10b0 : (a1 == 0) = false := beq_eq_false_iff_ne.mpr c10
    have c10b1 : (a1 != 0) = true := bne_iff_ne.mpr c10
    simp only [Option.some.injEq, Prod.mk.injEq] at H
    obtain ⟨rfl, rfl, rfl⟩ := H
    go_enter Try.func56, Try.ntmps56
    go_wp2_with (first | ((with_reducible refine gate_callee (f := 78) rfl ?_); refine goesL_ (some 9) rfl rfl Try.func78 (by kernel_rfl) rfl #[.pointer (some ⟨g, 0, none⟩)] rfl (by (try simp only [zq1, zq2, zq3]); first | done | rfl | (simp only [List.length_drop, List.length_take]; rfl)) ?_; (with_reducible refine (spec_l1Cur_next.calls g s0_0 s0_1 s0_2 t102 t103 t104 w0 _ ?side1 ?side2 A4.out).mono ?_); (case side1 => repeat (first | (with_reducible first | exact HI0.out | apply IsS82.alloc | apply IsS82.drewN | apply IsS82.drew | apply IsS82.set_1 | apply IsS82.set_2) | exact HI0.out)); (case side2 => repeat (first | (with_reducible first | exact HB.out | apply below_alloc | apply pw_below_drewN | apply below_drew1 | refine below_set ?_ (IsS82.ge HI0.out)) | exact HB.out)); rintro e w11 ⟨rfl, hi, hb, hk⟩; refine ⟨_, rfl, ?_⟩; replace HK := Aside0.mk (KeepBut.trans (by repeat (first | (with_reducible first | exact HK.out | apply KeepBut.set_ | apply keep_drewN | apply keep_drew | apply keep_alloc) | exact HK.out)) hk (.inl rfl)); replace HB := Aside0.mk (hb); replace HI0 := Aside0.mk (hi); (try clear hb); (try clear hb2); (try clear hk); (try clear hi)))
    go_ret
    exact ⟨by first | rfl | (simp <;> rfl) | (simp [*] <;> rfl), by repeat (first | (with_reducible first | exact HI0.out | apply IsS82.alloc | apply IsS82.drewN | apply IsS82.drew | apply IsS82.set_1 | apply IsS82.set_2) | exact HI0.out), by repeat (first | (with_reducible first | exact HB.out | apply below_alloc | apply pw_below_drewN | apply below_drew1 | refine below_set ?_ (IsS82.ge HI0.out)) | exact HB.out), by repeat (first | (with_reducible first | exact HK.out | apply KeepBut.set_ | apply keep_drewN | apply keep_drew | apply keep_alloc) | exact HK.out)⟩

open Go.Proofs.Ytkifenbcepicjaa.Cp
/-! ### spec_l1Cur_one: function 50 -/
def spec_l1Cur_one.f (s0_0 : List Int) (s0_1 : Int) (s0_2 : Int) (a1 : Int) : Option (Bool × Int × Int) := (spec_l1Cur_pick.f s0_0 s0_1 s0_2 a1).bind fun bt108 => (some ((bt108.1 == 0), bt108.2.1, bt108.2.2))
set_option maxHeartbeats 8000000 in
set_option maxRecDepth 100000 in
theorem spec_l1Cur_one.calls (g : Nat) (s0_0 : List Int) (s0_1 : Int) (s0_2 : Int) (a1 : Int) (r1 : Bool) (r2 : Int) (r3 : Int) (w0 w : World) (hI : IsS82 w0 w g s0_0 s0_1 s0_2) (hB : Below w0.heap.size w0 w) (h : spec_l1Cur_one.f s0_0 s0_1 s0_2 a1 = some (r1, r2, r3)) :
  Calls Try.prog 50 #[.pointer (some ⟨g, 0, none⟩), .int .i64 a1] w fun e w' => e = .returned (.bool r1) ∧ IsS82 w0 w' g s0_0 r2 r3 ∧ Below w0.heap.size w0 w' ∧ KeepBut w w' g none := by
 have HI0 := Aside0.mk hI
 have HK := Aside0.mk (KeepBut.refl w g none)
 have HL := Aside0.mk hB.size
 clear hI
 have HW0 := Aside0.mk hB.size
 have HB := Aside0.mk hB
 clear hB
 have H : ((spec_l1Cur_pick.f s0_0 s0_1 s0_2 a1).bind fun bt108 => (some ((bt108.1 == 0), bt108.2.1, bt108.2.2))) = some (r1, r2, r3) := h
 clear h
 replace H := Option.bind_eq_some_iff.mp H
 obtain ⟨⟨t108, t109, t110⟩, A30, H⟩ := H
 replace H : (some ((t108 == 0), t109, t110)) = some (r1, r2, r3) := H
 have A3 := Aside0.mk A30
 clear A30
 simp only [Option.some.injEq, Prod.mk.injEq] at H
 obtain ⟨rfl, rfl, rfl⟩ := H
 go_enter Try.func50, Try.ntmps50
 go_wp2_with (first | ((with_reducible refine gate_callee (f := 56) rfl ?_); refine goesL_ (some 7) rfl rfl Try.func56 (by kernel_rfl) rfl #[.pointer (some ⟨g, 0, none⟩), .int .i64 a1] rfl (by (try simp only [zq1, zq2, zq3]); first | done | rfl | (simp only [List.length_drop, List.length_take]; rfl)) ?_; (with_reducible refine (spec_l1Cur_pick.calls g s0_0 s0_1 s0_2 a1 t108 t109 t110 w0 _ ?side1 ?side2 A3.out).mono ?_); (case side1 => repeat (first | (with_reducible first | exact HI0.out | apply IsS82.alloc | apply IsS82.drewN | apply IsS82.drew | apply IsS82.set_1 | apply IsS82.set_2) | exact HI0.out)); (case side2 => repeat (first | (with_reducible first | exact HB.out | apply below_alloc | apply pw_below_drewN | apply below_drew1 | refine below_set ?_ (IsS82.ge HI0.out)) | exact HB.out)); rintro e w4 ⟨rfl, hi, hb, hk⟩; refine ⟨_, rfl, ?_⟩; replace HK := Aside0.mk (KeepBut.trans (by repeat (first | (with_reducible first | exact HK.out | apply KeepBut.set_ | apply keep_drewN | apply keep_drew | apply keep_alloc) | exact HK.out)) hk (.inl rfl)); replace HB := Aside0.mk (hb); replace HI0 := Aside0.mk (hi); (try clear hb); (try clear hb2); (try clear hk); (try clear hi)))
 go_ret
 exact ⟨by first | rfl | (simp <;> rfl) | (simp [*] <;> rfl), by repeat (first | (with_reducible first | exact HI0.out | apply IsS82.alloc | apply IsS82.drewN | apply IsS82.drew | apply IsS82.set_1 | apply IsS82.set_2) | exact HI0.out), by repeat (first | (with_reducible first | exact HB.out | apply below_alloc | apply pw_below_drewN | apply below_drew1 | refine below_set ?_ (IsS82.ge HI0.out)) | exact HB.out), by repeat (first | (with_reducible first | exact HK.out | apply KeepBut.set_ | apply keep_drewN | apply keep_drew | apply keep_alloc) | exact HK.out)⟩

open Go.Proofs.Ytkifenbcepicjaa.Cp
/-! ### spec_l1Cur_among: function 55 -/
def spec_l1Cur_among.f (s0_0 : List Int) (s0_1 : Int) (s0_2 : Int) (l1 : List Int) : Option (Int × Int × Int) := (spec_l1Cur_pick.f s0_0 s0_1 s0_2 (l1.length : Int)).bind fun bt111 => (if 0 ≤ bt111.1 then (if bt111.1 < (l1.length : Int) then (some (rd l1 bt111.1, bt111.2.1, bt111.2.2)) else (none)) else (none))
set_option maxHeartbeats 8000000 in
set_option maxRecDepth 100000 in
theorem spec_l1Cur_among.calls (g : Nat) (s0_0 : List Int) (s0_1 : Int) (s0_2 : Int) (A1 : Option Addr) (c1 : Nat) (l1 : List Int) (r1 : Int) (r2 : Int) (r3 : Int) (w0 w : World) (hI : IsS82 w0 w g s0_0 s0_1 s0_2) (hB : Below w0.heap.size w0 w) (hr1 : Kd.C (Kd.int .i64) w A1 l1.length l1) (hc1 : l1.length ≤ c1) (hf1 : ∀ ad, A1 = some ad → 0 < l1.length → ad.block ≠ g) (h : spec_l1Cur_among.f s0_0 s0_1 s0_2 l1 = some (r1, r2, r3)) :
  Calls Try.prog 55 #[.pointer (some ⟨g, 0, none⟩), .slice A1 l1.length c1] w fun e w' => e = .returned (.int .i64 r1) ∧ IsS82 w0 w' g s0_0 r2 r3 ∧ Below w0.heap.size w0 w' ∧ KeepBut w w' g none := by
 have HR1 := Aside0.mk hr1
 have HC1 := Aside0.mk hc1
 clear hr1 hc1
 have HI0 := Aside0.mk hI
 have HK := Aside0.mk (KeepBut.refl w g none)
 have HL := Aside0.mk hB.size
 clear hI
 have HW0 := Aside0.mk hB.size
 have HB := Aside0.mk hB
 clear hB
 have H : ((spec_l1Cur_pick.f s0_0 s0_1 s0_2 (l1.length : Int)).bind fun bt111 => (if 0 ≤ bt111.1 then (if bt111.1 < (l1.length : Int) then (some (rd l1 bt111.1, bt111.2.1, bt111.2.2)) else (none)) else (none))) = some (r1, r2, r3) := h
 clear h
 replace H := Option.bind_eq_some_iff.mp H
 obtain ⟨⟨t111, t112, t113⟩, A30, H⟩ := H
 replace H : (if 0 ≤ t111 then (if t111 < (l1.length : Int) then (some (rd l1 t111, t112, t113)) else (none)) else (none)) = some (r1, r2, r3) := H
 have A3 := Aside0.mk A30
 clear A30
 by_cases c4 : 0 ≤ t111
 ·rw [if_pos c4] at H
  have c4b0 : decide (0 ≤ t111) = true := decide_eq_true c4
  clear c4
  by_cases c5 : t111 < (l1.length : Int)
  ·rw [if_pos c5] at H
   have c5b0 : decide (t111 < (l1.length : Int)) = true := decide_eq_true c5
   clear c5
   simp only [Option.some.injEq, Prod.mk.injEq] at H
   obtain ⟨rfl, rfl, rfl⟩ := H
   go_enter Try.func55, Try.ntmps55
   go_wp2_with (first | ((with_reducible refine gate_callee (f := 56) rfl ?_); refine goesL_ (some 9) rfl rfl Try.func56 (by kernel_rfl) rfl #[.pointer (some ⟨g, 0, none⟩), .int .i64 (l1.length : Int)] rfl (by (try simp only [zq1, zq2, zq3]); first | done | rfl | (simp only [List.length_drop, List.length_take]; rfl)) ?_; (with_reducible refine (spec_l1Cur_pick.calls g s0_0 s0_1 s0_2 (l1.length : Int) t111 t112 t113 w0 _ ?side1 ?side2 A3.out).mono ?_); (case side1 => repeat (first | (with_reducible first | exact HI0.out | apply IsS82.alloc | apply IsS82.drewN | apply IsS82.drew | apply IsS82.set_1 | apply IsS82.set_2) | exact HI0.out)); (case side2 => repeat (first | (with_reducible first | exact HB.out | apply below_alloc | apply pw_below_drewN | apply below_drew1 | refine below_set ?_ (IsS82.ge HI0.out)) | exact HB.out)); rintro e w6 ⟨rfl, hi, hb, hk⟩; refine ⟨_, rfl, ?_⟩; replace HK := Aside0.mk (KeepBut.trans (by repeat (first | (with_reducible first | exact HK.out | apply KeepBut.set_ | apply keep_drewN | apply keep_drew | apply keep_alloc) | exact HK.out)) hk (.inl rfl)); replace HB := Aside0.mk (hb); replace HI0 := Aside0.mk (hi); (try clear hb); (try clear hb2); (try clear hk); (try clear hi); have p114 : 0 ≤ (t111 : Int) := of_decide_eq_true (by first | (with_reducible assumption) | assumption); have q114 : t111 < (l1.length : Int) := of_decide_eq_true (by first | (with_reducible assumption) | assumption); obtain ⟨ad114, e114, hx114_0⟩ := Kd.at_int HR1.out t111 p114 q114; cases e114; replace hx114_0 := keep_cell HK.out hx114_0 (by first | (rw [add_block]; exact hf1 _ rfl (by omega)) | exact hf1 _ rfl (by omega) | exact hf1 ad114 rfl (by omega)); replace p114 := eq_true p114; replace q114 := eq_true q114))
   go_ret
   exact ⟨by first | rfl | (simp <;> rfl) | (simp [*] <;> rfl), by repeat (first | (with_reducible first | exact HI0.out | apply IsS82.alloc | apply IsS82.drewN | apply IsS82.drew | apply IsS82.set_1 | apply IsS82.set_2) | exact HI0.out), by repeat (first | (with_reducible first | exact HB.out | apply below_alloc | apply pw_below_drewN | apply below_drew1 | refine below_set ?_ (IsS82.ge HI0.out)) | exact HB.out), by repeat (first | (with_reducible first | exact HK.out | apply KeepBut.set_ | apply keep_drewN | apply keep_drew | apply keep_alloc) | exact HK.out)⟩
  ·rw [if_neg c5] at H
   exact absurd H (by simp)
 ·rw [if_neg c4] at H
  exact absurd H (by simp)

open Go.Proofs.Ytkifenbcepicjaa.Cp
/-! ### spec_l1Cur_bytesOf: function 54 -/
def spec_l1Cur_bytesOf.l0 : Nat → Int → List Int → Int → List Int → Int → Int → Option (List Int × Int × Int)
 | 0, _, _, _, _, _, _ => none
 | k + 1, x1, x5, x6, x1000, x1001, x1002 => if x6 < x1 then ((spec_l1Cur_among.f x1000 x1001 x1002 (([0, 1, 2, 3, 65, 66, 255, 16] : List Int))).bind fun bt121 => (if x5.length < 140737488355328 then (spec_l1Cur_bytesOf.l0 k x1 (x5 ++ [(bt121.1) % 256]) (wrap64 (x6 + 1)) x1000 bt121.2.1 bt121.2.2) else (none))) else (some (x5, x1001, x1002))
def spec_l1Cur_bytesOf.f (k : Nat) (s0_0 : List Int) (s0_1 : Int) (s0_2 : Int) (a1 : Int) : Option (List Int × Int × Int) := spec_l1Cur_bytesOf.l0 k a1 (([] : List Int)) 0 s0_0 s0_1 s0_2
theorem spec_l1Cur_bytesOf.mono_l : ∀ k, (∀ y0 y1 y2 y3 y4 y5, LeO (spec_l1Cur_bytesOf.l0 k y0 y1 y2 y3 y4 y5) (spec_l1Cur_bytesOf.l0 (k + 1) y0 y1 y2 y3 y4 y5))
 | 0 => fun _ _ _ _ _ _ r h => by simp [spec_l1Cur_bytesOf.l0] at h
 | k + 1 => by
  have ih0 := spec_l1Cur_bytesOf.mono_l k
  ·intro y0 y1 y2 y3 y4 y5
   unfold spec_l1Cur_bytesOf.l0
   repeat' first
   | (with_reducible exact ih0 _ _ _ _ _ _)
   | (with_reducible exact LeO.refl _)
   | (with_reducible exact LeO.none _)
   | (with_reducible refine LeO.ite ?_ ?_)
   | (with_reducible refine LeO.bind ?_ (fun _ => ?_))
   | exact ih0 _ _ _ _ _ _
   | exact LeO.none _
   | refine LeO.ite ?_ ?_
   | refine LeO.bind ?_ (fun _ => ?_)
theorem spec_l1Cur_bytesOf.mono : ∀ a0 a1 a2 a3 k, LeO (spec_l1Cur_bytesOf.f k a0 a1 a2 a3) (spec_l1Cur_bytesOf.f (k + 1) a0 a1 a2 a3) := by
 intro a0 a1 a2 a3 k
 have ih0 := spec_l1Cur_bytesOf.mono_l k
 unfold spec_l1Cur_bytesOf.f
 repeat' first
   | (with_reducible exact ih0 _ _ _ _ _ _)
   | (with_reducible exact LeO.refl _)
   | (with_reducible exact LeO.none _)
   | (with_reducible refine LeO.ite ?_ ?_)
   | (with_reducible refine LeO.bind ?_ (fun _ => ?_))
   | exact ih0 _ _ _ _ _ _
   | exact LeO.none _
   | refine LeO.ite ?_ ?_
   | refine LeO.bind ?_ (fun _ => ?_)
set_option maxHeartbeats 8000000 in
set_option maxRecDepth 100000 in
theorem spec_l1Cur_bytesOf.calls (k : Nat) (g : Nat) (s0_0 : List Int) (s0_1 : Int) (s0_2 : Int) (a1 : Int) (r1 : List Int) (r2 : Int) (r3 : Int) (w0 w : World) (hI : IsS82 w0 w g s0_0 s0_1 s0_2) (hB : Below w0.heap.size w0 w) (h : spec_l1Cur_bytesOf.f k s0_0 s0_1 s0_2 a1 = some (r1, r2, r3)) :
  Calls Try.prog 54 #[.pointer (some ⟨g, 0, none⟩), .int .i64 a1] w fun e w' => ∃ v0_ : Value, e = .returned (v0_) ∧ Kd.R (Kd.int .u8) 5 w' w.heap.size (fun _ => True) v0_ r1 ∧ IsS82 w0 w' g s0_0 r2 r3 ∧ Below w0.heap.size w0 w' ∧ KeepBut w w' g none := by
 have HI0 := Aside0.mk hI
 have HK := Aside0.mk (KeepBut.refl w g none)
 have HL := Aside0.mk hB.size
 clear hI
 have HW0 := Aside0.mk hB.size
 have HB := Aside0.mk hB
 clear hB
 have H : (spec_l1Cur_bytesOf.l0 k a1 (([] : List Int)) 0 s0_0 s0_1 s0_2) = some (r1, r2, r3) := h
 clear h
 obtain ⟨y115, hy115⟩ : ∃ y_ : List Int, y_ = (([] : List Int)) := ⟨_, rfl⟩
 replace H : (spec_l1Cur_bytesOf.l0 k a1 y115 0 s0_0 s0_1 s0_2) = some (r1, r2, r3) := by first | (rw [hy115]; with_reducible exact H) | (have H2_ := (Option.bind_some _ _).symm.trans H; rw [hy115]; with_reducible exact H2_) | (have H2_ := (Option.bind_some _ _).symm.trans H; with_reducible exact H2_) | with_reducible exact H | (rw [hy115]; exact H) | exact H
 have Ny115 := Aside0.mk hy115
 clear hy115
 have H' := Aside0.mk H
 clear H
 go_enter Try.func54, Try.ntmps54
 go_wp2_with (first | ((with_reducible refine gate_dst (N := 7) rfl ?_); refine Kd.R_lit (Kd.int .u8) _ 5 ?hg (N := 7) ?hd (xs := ([] : List Int)) (inner := []) (ok := fun _ => True) (okp := fun _ => True) ?hr ?hp (fun _ hk => hk) trivial (Below.refl _ _) (Nat.le_refl _) (by simp) ?_; (case hd => rfl); (case hg => rfl); (case hr => first | (go_simp; done) | (go_simp; rfl)); (case hp => exact (Reps.none _ _)); intro v116 w3 ho4 hb hg_ hnew_; clear hg_ hnew_; (first | rw [← Ny115.out] at ho4 | (simp only [Int.reduceToNat] at ho4; rw [← Ny115.out] at ho4)); have n0_ := Aside0.mk (Kd.R_lower ho4 (keep_size (w := w) (g := g) (row := none) (by repeat (first | (with_reducible first | exact HK.out | apply KeepBut.set_ | apply keep_drewN | apply keep_drew | apply keep_alloc) | exact HK.out)))); have n1_ := Aside0.mk (IsS82.below (by repeat (first | (with_reducible first | exact HI0.out | apply IsS82.alloc | apply IsS82.drewN | apply IsS82.drew | apply IsS82.set_1 | apply IsS82.set_2) | exact HI0.out)) hb); have n2_ := Aside0.mk (KeepBut.trans (by repeat (first | (with_reducible first | exact HK.out | apply KeepBut.set_ | apply keep_drewN | apply keep_drew | apply keep_alloc) | exact HK.out)) (KeepBut.of_below hb g none) (.inl rfl)); have n3_ := Aside0.mk (below_step (by repeat (first | (with_reducible first | exact HB.out | apply below_alloc | apply pw_below_drewN | apply below_drew1 | refine below_set ?_ (IsS82.ge HI0.out)) | exact HB.out)) hb); clear HI0; clear HK; clear HB; have HO117 := n0_; have HI0 := n1_; have HK := n2_; have HB := n3_; clear n0_ n1_ n2_ n3_; clear hb ho4))
 go_loopg [5, 6] k (fun kq v5 v6 w' => ∃ (x5_1 : List Int) (x6_1 : Int) (x1001_1 : Int) (x1002_1 : Int), v6 = .int .i64 x6_1 ∧ Aside0 (spec_l1Cur_bytesOf.l0 kq a1 x5_1 x6_1 s0_0 x1001_1 x1002_1 = some (r1, r2, r3)) ∧ Aside0 (kq ≤ k) ∧ Aside0 (Kd.R (Kd.int .u8) 5 w' w.heap.size (fun _ => True) v5 x5_1) ∧ Aside0 (IsS82 w0 w' g s0_0 x1001_1 x1002_1) ∧ Aside0 (KeepBut w w' g none) ∧ Aside0 (Below w0.heap.size w0 w'))
 case atStart => exact ⟨(y115), (0), (s0_1), (s0_2), (by first | rfl | (simp; done) | (simp [*]; done)), H', ⟨Nat.le_refl _⟩, ⟨zr0 HO117⟩, ⟨by repeat (first | (with_reducible first | exact HI0.out | apply IsS82.alloc | apply IsS82.drewN | apply IsS82.drew | apply IsS82.set_1 | apply IsS82.set_2) | exact HI0.out)⟩, ⟨by repeat (first | (with_reducible first | exact HK.out | apply KeepBut.set_ | apply keep_drewN | apply keep_drew | apply keep_alloc) | exact HK.out)⟩, ⟨by repeat (first | (with_reducible first | exact HB.out | apply below_alloc | apply pw_below_drewN | apply below_drew1 | refine below_set ?_ (IsS82.ge HI0.out)) | exact HB.out)⟩⟩
 case round =>
  clear H'
  try clear p2
  obtain ⟨x5_1, x6_1, x1001_1, x1002_1, rfl, HA, HK1, HO_5, HI0, HK, HB⟩ := hrel
  cases gk with
  | zero => exact absurd HA.out (by simp [spec_l1Cur_bytesOf.l0])
  | succ k1 =>
   have H := HA.out
   clear HA
   simp only [spec_l1Cur_bytesOf.l0] at H
   by_cases c5 : x6_1 < a1
   ·rw [if_pos c5] at H
    have c5b0 : decide (x6_1 < a1) = true := decide_eq_true c5
    clear c5
    obtain ⟨y118, hy118⟩ : ∃ y_ : List Int, y_ = (([0, 1, 2, 3, 65, 66, 255, 16] : List Int)) := ⟨_, rfl⟩
    replace H : ((spec_l1Cur_among.f s0_0 x1001_1 x1002_1 y118).bind fun bt121 => (if x5_1.length < 140737488355328 then (spec_l1Cur_bytesOf.l0 k1 a1 (x5_1 ++ [(bt121.1) % 256]) (wrap64 (x6_1 + 1)) s0_0 bt121.2.1 bt121.2.2) else (none))) = some (r1, r2, r3) := by first | (rw [hy118]; with_reducible exact H) | (have H2_ := (Option.bind_some _ _).symm.trans H; rw [hy118]; with_reducible exact H2_) | (have H2_ := (Option.bind_some _ _).symm.trans H; with_reducible exact H2_) | with_reducible exact H | (rw [hy118]; exact H) | exact H
    have Ny118 := Aside0.mk hy118
    clear hy118
    replace H := Option.bind_eq_some_iff.mp H
    obtain ⟨⟨t121, t122, t123⟩, A60, H⟩ := H
    replace H : (if x5_1.length < 140737488355328 then (spec_l1Cur_bytesOf.l0 k1 a1 (x5_1 ++ [(t121) % 256]) (wrap64 (x6_1 + 1)) s0_0 t122 t123) else (none)) = some (r1, r2, r3) := H
    have A6 := Aside0.mk A60
    clear A60
    by_cases c7 : x5_1.length < 140737488355328
    ·rw [if_pos c7] at H
     have LMc7 := Aside0.mk c7
     clear c7
     obtain ⟨y124, hy124⟩ : ∃ y_ : List Int, y_ = (x5_1 ++ [(t121) % 256]) := ⟨_, rfl⟩
     replace H : (spec_l1Cur_bytesOf.l0 k1 a1 y124 (wrap64 (x6_1 + 1)) s0_0 t122 t123) = some (r1, r2, r3) := by first | (rw [hy124]; with_reducible exact H) | (have H2_ := (Option.bind_some _ _).symm.trans H; rw [hy124]; with_reducible exact H2_) | (have H2_ := (Option.bind_some _ _).symm.trans H; with_reducible exact H2_) | with_reducible exact H | (rw [hy124]; exact H) | exact H
     have Ny124 := Aside0.mk hy124
     clear hy124
     have H' := Aside0.mk H
     clear H
     go_wp2_with (first | ((with_reducible refine gate_dst (N := 15) rfl ?_); refine Kd.R_lit (Kd.int .i64) _ 3 ?hg (N := 15) ?hd (xs := ([0, 1, 2, 3, 65, 66, 255, 16] : List Int)) (inner := [.int .i64 0, .int .i64 1, .int .i64 2, .int .i64 3, .int .i64 65, .int .i64 66, .int .i64 255, .int .i64 16]) (ok := fun _ => True) (okp := fun _ => True) ?hr ?hp (fun _ hk => hk) trivial (Below.refl _ _) (Nat.le_refl _) (by simp) ?_; (case hd => rfl); (case hg => rfl); (case hr => first | (go_simp; done) | (go_simp; rfl)); (case hp => exact (Reps.one (show Kd.M (Kd.int .i64) _ _ _ 0 [.int .i64 0] from rfl) (Reps.one (show Kd.M (Kd.int .i64) _ _ _ 1 [.int .i64 1] from rfl) (Reps.one (show Kd.M (Kd.int .i64) _ _ _ 2 [.int .i64 2] from rfl) (Reps.one (show Kd.M (Kd.int .i64) _ _ _ 3 [.int .i64 3] from rfl) (Reps.one (show Kd.M (Kd.int .i64) _ _ _ 65 [.int .i64 65] from rfl) (Reps.one (show Kd.M (Kd.int .i64) _ _ _ 66 [.int .i64 66] from rfl) (Reps.one (show Kd.M (Kd.int .i64) _ _ _ 255 [.int .i64 255] from rfl) (Reps.one (show Kd.M (Kd.int .i64) _ _ _ 16 [.int .i64 16] from rfl) (Reps.none _ _)))))))))); intro v119 w8 ho9 hb hg_ hnew_; clear hg_ hnew_; (first | rw [← Ny118.out] at ho9 | (simp only [Int.reduceToNat] at ho9; rw [← Ny118.out] at ho9)); have n0_ := zrb HO_5 hb; have n1_ := Aside0.mk (Kd.R_lower ho9 (keep_size (w := w) (g := g) (row := none) (by repeat (first | (with_reducible first | exact HK.out | apply KeepBut.set_ | apply keep_drewN | apply keep_drew | apply keep_alloc) | exact HK.out)))); have n2_ := Aside0.mk (IsS82.below (by repeat (first | (with_reducible first | exact HI0.out | apply IsS82.alloc | apply IsS82.drewN | apply IsS82.drew | apply IsS82.set_1 | apply IsS82.set_2) | exact HI0.out)) hb); have n3_ := Aside0.mk (KeepBut.trans (by repeat (first | (with_reducible first | exact HK.out | apply KeepBut.set_ | apply keep_drewN | apply keep_drew | apply keep_alloc) | exact HK.out)) (KeepBut.of_below hb g none) (.inl rfl)); have n4_ := Aside0.mk (below_step (by repeat (first | (with_reducible first | exact HB.out | apply below_alloc | apply pw_below_drewN | apply below_drew1 | refine below_set ?_ (IsS82.ge HI0.out)) | exact HB.out)) hb); clear HO_5; clear HI0; clear HK; clear HB; have HO_5 := n0_; have HO120 := n1_; have HI0 := n2_; have HK := n3_; have HB := n4_; clear n0_ n1_ n2_ n3_ n4_; clear hb ho9; obtain ⟨Ao10, co10, eo10⟩ := Kd.R_slice HO120.out; subst eo10) | ((with_reducible refine gate_callee (f := 55) rfl ?_); refine goesL_ (some 16) rfl rfl Try.func55 (by kernel_rfl) rfl #[.pointer (some ⟨g, 0, none⟩), .slice Ao10 y118.length co10] rfl (by (try simp only [zq1, zq2, zq3]); first | done | rfl | (simp only [List.length_drop, List.length_take]; rfl)) ?_; (with_reducible refine (spec_l1Cur_among.calls g s0_0 x1001_1 x1002_1 _ _ y118 t121 t122 t123 w0 _ ?side1 ?side2 ?side3 ?side4 ?side5 A6.out).mono ?_); (case side1 => repeat (first | (with_reducible first | exact HI0.out | apply IsS82.alloc | apply IsS82.drewN | apply IsS82.drew | apply IsS82.set_1 | apply IsS82.set_2) | exact HI0.out)); (case side2 => repeat (first | (with_reducible first | exact HB.out | apply below_alloc | apply pw_below_drewN | apply below_drew1 | refine below_set ?_ (IsS82.ge HI0.out)) | exact HB.out)); (case side3 => repeat (first | exact (Kd.R_reads' HO120.out).2.2 | (with_reducible refine Kd.C_alloc ?_ _) | (with_reducible refine Kd.C_drewN ?_ _) | (with_reducible refine Kd.C_drew ?_))); (case side4 => exact (Kd.R_reads' HO120.out).2.1); (case side5 => exact far_slice (IsS82.own_ne HI0.out HO120.out (by decide))); rintro e w11 ⟨rfl, hi, hb, hk⟩; refine ⟨_, rfl, ?_⟩; replace HO_5 := Aside0.mk (Kd.R_mono (Kd.R_keep (IsS82.apart (show IsS82 w0 _ g s0_0 x1001_1 x1002_1 from by repeat (first | (with_reducible first | exact HI0.out | apply IsS82.alloc | apply IsS82.drewN | apply IsS82.drew | apply IsS82.set_1 | apply IsS82.set_2) | exact HI0.out)) (zr0 HO_5) (by decide)) hk (fun _ h => h.2)) (fun _ h => h.1)); replace HO120 := Aside0.mk (Kd.R_mono (Kd.R_keep (IsS82.apart (show IsS82 w0 _ g s0_0 x1001_1 x1002_1 from by repeat (first | (with_reducible first | exact HI0.out | apply IsS82.alloc | apply IsS82.drewN | apply IsS82.drew | apply IsS82.set_1 | apply IsS82.set_2) | exact HI0.out)) (zr0 HO120) (by decide)) hk (fun _ h => h.2)) (fun _ h => h.1)); replace HK := Aside0.mk (KeepBut.trans (by repeat (first | (with_reducible first | exact HK.out | apply KeepBut.set_ | apply keep_drewN | apply keep_drew | apply keep_alloc) | exact HK.out)) hk (.inl rfl)); replace HB := Aside0.mk (hb); replace HI0 := Aside0.mk (hi); (try clear hb); (try clear hb2); (try clear hk); (try clear hi)) | ((with_reducible refine gate_builtin (b := .append) (xs := #[.tmp 13, .tmp 18]) rfl ?_); at_builtin; refine Kd.R_append (Kd.int .u8) w.heap.size rfl (.tmp 13) (.tmp 18) 43 5 (.int .u8 0) 1 rfl Try.underlying43 info5 rfl (by decide) (by omega) u5 x5_1 ((t121) % 256) [.int .u8 ((t121) % 256)] (fun _ => True) (fun _ => False) rfl rfl ?aP (fun _ hk => hk.elim) ?aF ?aO (Below.refl _ _) ?aS ?aL ?_; (case aP => exact rfl); (case aF => exact (fun _ _ => trivial)); (case aO => exact (zr0 HO_5)); (case aS => exact (keep_size (w := w) (g := g) (row := none) (by repeat (first | (with_reducible first | exact HK.out | apply KeepBut.set_ | apply keep_drewN | apply keep_drew | apply keep_alloc) | exact HK.out)))); (case aL => have := LMc7.out; omega); intro v125 w12 ho hb hg hat; rw [← Ny124.out] at ho; have n0_ := Aside0.mk (IsS82.grown (by repeat (first | (with_reducible first | exact HI0.out | apply IsS82.alloc | apply IsS82.drewN | apply IsS82.drew | apply IsS82.set_1 | apply IsS82.set_2) | exact HI0.out)) hg (IsS82.own_ne HI0.out HO_5.out (by decide))); have n1_ := Aside0.mk (Kd.R_over' (zr0 HO120) (Kd.R_typed (zr0 HO_5)) (by decide) hg); have n2_ := Aside0.mk (below_weaken (by repeat (first | (with_reducible first | exact HB.out | apply below_alloc | apply pw_below_drewN | apply below_drew1 | refine below_set ?_ (IsS82.ge HI0.out)) | exact HB.out)) HL.out hb); have n3_ := Aside0.mk (KeepBut.trans (by repeat (first | (with_reducible first | exact HK.out | apply KeepBut.set_ | apply keep_drewN | apply keep_drew | apply keep_alloc) | exact HK.out)) (KeepBut.of_grown hg g) (Kd.R_base2 HO_5.out)); have n4_ := Aside0.mk (ho); clear HI0; clear HO120; clear HB; clear HK; clear HO_5; have HI0 := n0_; have HO120 := n1_; have HB := n2_; have HK := n3_; have HO126 := n4_; clear n0_ n1_ n2_ n3_ n4_; clear ho hb hg hat))
     go_roundg k1
     case measure => have := HK1.out; omega
     case rel => exact ⟨(y124), (wrap64 (x6_1 + 1)), (t122), (t123), (by first | rfl | (simp; done) | (simp [*]; done)), H', ⟨by have := HK1.out; omega⟩, ⟨zr0 HO126⟩, ⟨by repeat (first | (with_reducible first | exact HI0.out | apply IsS82.alloc | apply IsS82.drewN | apply IsS82.drew | apply IsS82.set_1 | apply IsS82.set_2) | exact HI0.out)⟩, ⟨by repeat (first | (with_reducible first | exact HK.out | apply KeepBut.set_ | apply keep_drewN | apply keep_drew | apply keep_alloc) | exact HK.out)⟩, ⟨by repeat (first | (with_reducible first | exact HB.out | apply below_alloc | apply pw_below_drewN | apply below_drew1 | refine below_set ?_ (IsS82.ge HI0.out)) | exact HB.out)⟩⟩
    ·rw [if_neg c7] at H
     exact absurd H (by simp)
   ·rw [if_neg c5] at H
    have c5b0 : decide (x6_1 < a1) = false := decide_eq_false c5
    clear c5
    simp only [Option.some.injEq, Prod.mk.injEq] at H
    obtain ⟨rfl, rfl, rfl⟩ := H
    go_wp2
    go_ret
    exact ⟨_, by first | rfl | (simp <;> rfl) | (simp [*] <;> rfl), (by first | exact zr0 HO_5 | exact Kd.R_mono (zr0 HO_5) (fun _ _ => trivial)), by repeat (first | (with_reducible first | exact HI0.out | apply IsS82.alloc | apply IsS82.drewN | apply IsS82.drew | apply IsS82.set_1 | apply IsS82.set_2) | exact HI0.out), by repeat (first | (with_reducible first | exact HB.out | apply below_alloc | apply pw_below_drewN | apply below_drew1 | refine below_set ?_ (IsS82.ge HI0.out)) | exact HB.out), by repeat (first | (with_reducible first | exact HK.out | apply KeepBut.set_ | apply keep_drewN | apply keep_drew | apply keep_alloc) | exact HK.out)⟩

/-! ### spec_l1Cur_key9: function 49 (by hand) -/
/-- A code's reader in a block of its own. -/
def spec_l1Cur_key9.curF (w0 : World) (g : Nat) (s0 : List Int) (s1 s2 : Int) : Lv.Fact := fun S W => S g ∧ IsS82 w0 W g s0 s1 s2
theorem spec_l1Cur_key9.foot {w0 W : World} {g : Nat} {s0 : List Int} {s1 s2 : Int} {S : Nat → Prop} (hs : S g) (h : IsS82 w0 W g s0 s1 s2) : Foot (spec_l1Cur_key9.curF w0 g s0 s1 s2 S) W S := fun _ hW => by
  obtain ⟨A0, c0, hb, hg, hr⟩ := h
  exact ⟨hs, A0, c0, (hW g hs (blk_lt hb)).trans hb, hg, hr⟩
theorem spec_l1Cur_key9.ofBox {w0 W : World} {g : Nat} {A0 : Option Addr} {c0 : Nat} {l0 : List Int} {Ps : List Lv.Fact} (h : Lv.Inv w0 W (Lv.boxF g #[.slice A0 l0.length c0, .int .i64 0, .int .u64 0] 82 :: Ps)) (hr : Kd.C (Kd.int .u8) w0 A0 l0.length l0) : Lv.Inv w0 W (spec_l1Cur_key9.curF w0 g l0 0 0 :: Ps) := by
  obtain ⟨S, h1, h2, h3⟩ := h.live
  obtain ⟨hs, hb⟩ := h2.now
  exact ⟨h.bel, S, h1, spec_l1Cur_key9.foot hs ⟨A0, c0, hb, (h1 g hs).1, hr⟩, h3⟩
theorem spec_l1Cur_key9.got {w0 W : World} {g i : Nat} {s0 : List Int} {s1 s2 : Int} {Ps : List Lv.Fact} (h : Lv.Inv w0 W Ps) (hi : Ps[i]? = some (spec_l1Cur_key9.curF w0 g s0 s1 s2)) : IsS82 w0 W g s0 s1 s2 := by
  obtain ⟨S, _, hp⟩ := h.get i hi
  exact hp.2
/-- A call that reads on. -/
theorem spec_l1Cur_key9.on {w0 W W' : World} {g i : Nat} {s0 : List Int} {s1 s2 t1 t2 : Int} {Ps : List Lv.Fact} (h : Lv.Inv w0 W Ps) (hi : Ps[i]? = some (spec_l1Cur_key9.curF w0 g s0 s1 s2)) (hI : IsS82 w0 W' g s0 t1 t2) (hB : Below w0.heap.size w0 W') (hK : KeepBut W W' g none) : Lv.Inv w0 W' (Ps.set i (spec_l1Cur_key9.curF w0 g s0 t1 t2)) := by
  obtain ⟨S, h1, h2, h3⟩ := h.write i hi
  have hs := h2.now.1
  exact h3 W' _ hB ⟨hK.1, fun k hk hn => hK.2 k hk (fun e => hn (e ▸ hs)) (by simp)⟩ (spec_l1Cur_key9.foot hs hI)
/-- A call that reads on and leaves a row. -/
theorem spec_l1Cur_key9.onRow {α : Type} {d : Kd α} {e : Nat} {v : Value} {xs : List α} {w0 W W' : World} {g i : Nat} {s0 : List Int} {s1 s2 t1 t2 : Int} {Ps : List Lv.Fact} (h : Lv.Inv w0 W Ps) (hi : Ps[i]? = some (spec_l1Cur_key9.curF w0 g s0 s1 s2)) (hr : Kd.R d e W' W.heap.size (fun _ => True) v xs) (hI : IsS82 w0 W' g s0 t1 t2) (hB : Below w0.heap.size w0 W') (hK : KeepBut W W' g none) : Lv.Inv w0 W' (Lv.rowF d e w0.heap.size v xs :: Ps.set i (spec_l1Cur_key9.curF w0 g s0 t1 t2)) := by
  obtain ⟨S, h1, h2, h3⟩ := h.live.write hi
  have hs := h2.now.1
  have hl := h3 W' (spec_l1Cur_key9.curF w0 g s0 t1 t2) (fun k hk hn => hK.2 k hk.2 (fun e => hn (e ▸ hs)) (by simp)) (spec_l1Cur_key9.foot hs hI)
  refine ⟨hB, fun k => W.heap.size ≤ k ∧ k < W'.heap.size, fun k hk => ⟨Nat.le_trans h.bel.size hk.1, hk.2⟩, Lv.foot_row (Kd.R_mono (Kd.R_lower (Kd.R_bound hr) h.bel.size) (fun k hk => ⟨hk.2.1, hk.2.2.1⟩)), hl.mono (fun k hk => ⟨⟨hk.1, Nat.lt_of_lt_of_le hk.2 hK.1⟩, fun hx => Nat.not_lt_of_le hx.1 hk.2⟩)⟩
/-- What is laid in a block reads as a row of numbers. -/
theorem spec_l1Cur_key9.laid {w0 W : World} {g n : Nat} {e : Nat} {Ps : List Lv.Fact} (xs : List Int) (h : Lv.Inv w0 W (Lv.boxF g (xs.map (Value.int .i64)).toArray e :: Ps)) (hn : xs.length = n) (hm : n ≤ maxLen) : Kd.C (Kd.int .i64) W (some ⟨g, 0, none⟩) xs.length xs := by
  subst hn
  exact (Lx.int_re (xs := xs) (n := xs.length) (cap := xs.length) h rfl (Nat.le_refl _) hm (by simp) (fun i x hx => by simp [hx])).cR 0 rfl
theorem spec_l1Cur_key9.boxed {P : Program} {ops : Array Oper} {Q : Exit → Act → World → Prop} {w0 : World} {Ps : List Lv.Fact} {Fin : List Lv.Fact → Act → Prop} {i : Nat} {N : Tmp} {cs : Array Value} {t : TypeId} {r : List Rg.St} {F : List Lv.Fact} {a : Act} {o : Oper} (ho : ops[i]? = some o) (hd : o.dst = some N) (hw : Region.wanted o (yielded ops a.tmps) = true)
    (hrun : ∀ w, (execOp a.eval o).run P w = .ok (.value (.pointer (some ⟨w.heap.size, 0, none⟩))) (w.alloc (.cells cs t)))
    (h : ∀ g : Nat, Fl.CW P ops Q w0 Ps Fin r (Lv.boxF g cs t :: F) (a.put (some N) (.pointer (some ⟨g, 0, none⟩)))) : Fl.CW P ops Q w0 Ps Fin (.one i :: r) F a := by
  intro E W hE hi
  unfold wpOp
  simp only [ho, hw, if_true]
  refine .inl ?_
  unfold Oper.wp
  rw [hrun, Oper.upon_value, hd]
  exact ⟨_, hi.box cs t, h W.heap.size⟩
/-- What the reader's calls come to. -/
def spec_l1Cur_key9.Fact : Prop := ∀ (l : List Int), (∀ x ∈ l, 0 ≤ x ∧ x ≤ 255) → ∀ (i : Nat), i ≤ 1000000 → ∀ s : Int,
  (∀ a : Int, a ≤ 200 → ∃ (v : Int) (j : Nat) (t : Int), spec_l1Cur_pick.f l (i : Int) s a = some (v, (j : Int), t) ∧ j ≤ i + 1 ∧ 0 ≤ v ∧ (1 ≤ a → v < a)) ∧
  (∀ xs : List Int, 0 < xs.length → xs.length ≤ 200 → ∃ (v : Int) (j : Nat) (t : Int), spec_l1Cur_among.f l (i : Int) s xs = some (v, (j : Int), t) ∧ j ≤ i + 1 ∧ v ∈ xs) ∧
  (∀ a : Int, a ≤ 200 → ∃ (v : Bool) (j : Nat) (t : Int), spec_l1Cur_one.f l (i : Int) s a = some (v, (j : Int), t) ∧ j ≤ i + 1) ∧
  (∀ n : Nat, n ≤ 65 → ∃ (k : Nat) (r : List Int) (j : Nat) (t : Int), spec_l1Cur_bytesOf.f k l (i : Int) s (n : Int) = some (r, (j : Int), t) ∧ j ≤ i + n ∧ r.length = n ∧ ∀ x ∈ r, 0 ≤ x ∧ x ≤ 255)
def spec_l1Cur_key9.Good (l : List Int) : Prop := Ky.Key l ∧ ∀ x ∈ l, 0 ≤ x ∧ x ≤ 255
theorem spec_l1Cur_key9.good0 : spec_l1Cur_key9.Good (List.replicate 16 0) := ⟨rfl, by decide⟩
theorem spec_l1Cur_key9.good_set {l : List Int} (h : spec_l1Cur_key9.Good l) (n : Nat) {x : Int} (hx : 0 ≤ x ∧ x ≤ 255) : spec_l1Cur_key9.Good (l.set n x) := ⟨by rw [Ky.Key, List.length_set]; exact h.1, fun y hy => by
  rcases List.mem_or_eq_of_mem_set hy with h1 | h1
  · exact h.2 y h1
  · rw [h1]; exact hx⟩
set_option maxHeartbeats 4000000 in
set_option maxRecDepth 100000 in
theorem spec_l1Cur_key9.calls (HF : spec_l1Cur_key9.Fact) (l0 : List Int) (hU : ∀ x ∈ l0, 0 ≤ x ∧ x ≤ 255) (g i : Nat) (s : Int) (hi : i ≤ 900000) (w0 w : World) (E : List Lv.Fact) (hI : Lv.Inv w0 w (spec_l1Cur_key9.curF w0 g l0 (i : Int) s :: E)) :
    Calls Try.prog 49 #[.pointer (some ⟨g, 0, none⟩)] w fun e w' => ∃ (l : List Int) (j : Nat) (t : Int), e = .returned (.agg (Ky.bs l)) ∧ spec_l1Cur_key9.Good l ∧ j ≤ i + 40 ∧ Lv.Inv w0 w' (spec_l1Cur_key9.curF w0 g l0 (j : Int) t :: E) := by
  have HFF := Lib.hid HF
  have HU := Lib.hid hU
  have HIL := Lib.hid hi
  obtain ⟨v, j1, t1, hp, hj1, hv0, hv1⟩ := (HF l0 hU i (by omega) s).1 6 (by decide)
  have HP := Lib.hid hp
  have HJ1 := Lib.hid hj1
  have hv6 := hv1 (by decide)
  clear hp hj1 hv1 HF hU hi
  obtain ⟨g2, hg2⟩ : ∃ x, x = w.heap.size := ⟨_, rfl⟩
  obtain ⟨W0, hW⟩ : ∃ W, W = w.alloc (.cells (Ky.bs (List.replicate 16 0)) 26) := ⟨_, rfl⟩
  have HI : Hid (Lv.Inv w0 W0 (Lv.boxF g2 (Ky.bs (List.replicate 16 0)) 26 :: spec_l1Cur_key9.curF w0 g l0 (i : Int) s :: E)) := by
    subst hW hg2
    exact Lib.hid (hI.box _ _)
  clear hI
  go_enter Try.func49, Try.ntmps49
  go_upto_region 1 with (fail)
  rw [Ky.bs_zero, ← hW, ← hg2]
  clear hW hg2
  refine Fl.startW [.take 0, .one 1, .one 2] (by decide) HI.out ?_
  refine Fl.take (some 7) (v := .agg (Ky.bs (List.replicate 16 0))) rfl rfl (Or.inl ⟨by rfl, fun _ _ => by first | rfl | (go_simp; done) | (go_simp; rfl) | (go_simp; simp only [i64_w])⟩) ?_
  simp only [Act.put, Fl.z1, Fl.z2, Fl.z3]
  refine Fl.var (N := 3) (cs := Ky.bs (List.replicate 16 0)) (t := 26) ⟨_, rfl, rfl, fun _ => rfl, fun e w => by first | (go_simp; done) | (go_simp; rfl)⟩ (fun g3 => ?_)
  simp only [Act.put, Fl.z1, Fl.z2, Fl.z3]
  refine Fl.store 0 (Ky.bs (List.replicate 16 0)) rfl rfl rfl rfl _ _ _ rfl rfl rfl (by rfl) (Ky.size_key Ky.key0 Ky.key0) (Ky.hKk Ky.key0) (Ky.bs_one _) ?_
  refine Fl.stopW (fun W hi => ?_)
  replace HI := Lib.hid hi
  clear hi
  go_upto_region 2 with (fail)
  refine Fl.startW [.take 0, .one 1] (by decide) HI.out ?_
  refine Fl.take (some 8) (v := .pointer (some ⟨g, 0, none⟩)) rfl rfl (Or.inl ⟨by rfl, fun _ _ => by rfl⟩) ?_
  simp only [Act.put, Fl.z1, Fl.z2, Fl.z3]
  refine Fl.call (some 9) Try.func56 (by kernel_rfl) rfl #[.pointer (some ⟨g, 0, none⟩), .int .i64 6] rfl rfl rfl (by rfl) rfl (fun E2 W2 hE2 hi => ?_)
  refine (spec_l1Cur_pick.calls g l0 i s 6 v j1 t1 w0 W2 (spec_l1Cur_key9.got hi (i := 2) rfl) hi.bel HP.out).mono ?_
  rintro e W' ⟨rfl, hI2, hB2, hK2⟩
  refine Fl.keepI (F := []) (v := .int .i64 v) (F' := Lv.boxF g3 (Ky.bs (List.replicate 16 0)) 26 :: Lv.boxF g2 (Ky.bs (List.replicate 16 0)) 26 :: spec_l1Cur_key9.curF w0 g l0 (j1 : Int) t1 :: E) (spec_l1Cur_key9.on hi (i := 2) rfl hI2 hB2 hK2) ?_
  clear hi hI2 hB2 hK2 hE2
  simp only [Act.put, Fl.z1, Fl.z2, Fl.z3]
  refine Fl.stopW (fun W hi => ?_)
  replace HI := Lib.hid hi
  clear hi
  clear HP
  by_cases h0 : v = 0
  · subst h0
    obtain ⟨v2, j2, t2, hp, hj2, hv20, hv21⟩ := (HFF.out l0 HU.out j1 (by have := HIL.out; have := HJ1.out; omega) t1).1 16 (by decide)
    have hv22 := hv21 (by decide)
    obtain ⟨n, rfl⟩ := Int.eq_ofNat_of_zero_le hv20
    have HP := Lib.hid hp
    obtain ⟨kb, rb, j3, t3, hb, hj3, hl3, hu3⟩ := (HFF.out l0 HU.out j2 (by have := HIL.out; have := HJ1.out; omega) t2).2.2.2 1 (by decide)
    have HB := Lib.hid hb
    replace HJ1 : Hid (j3 ≤ i + 40) := Lib.hid (by have := HJ1.out; omega)
    obtain ⟨x, hx⟩ : ∃ x, rb[0]? = some x := ⟨_, List.getElem?_eq_getElem (by omega)⟩
    have HX := Lib.hid hx
    have HL3 := Lib.hid hl3
    have HG := Lib.hid (spec_l1Cur_key9.good_set spec_l1Cur_key9.good0 n (hu3 x (List.mem_of_getElem? hx)))
    clear hp hb hj2 hj3 hu3 hv21 hl3 hx
    go_upto_region 4 with (fail)
    refine Fl.startL [.take 0, .take 1] (by decide) HI.out ?_
    refine Fl.take (some 15) (v := .bool true) rfl rfl (Or.inl ⟨by rfl, fun _ _ => by rfl⟩) ?_
    simp only [Act.put, Fl.z1, Fl.z2, Fl.z3]
    refine Fl.take (some 14) (v := .bool true) rfl rfl (Or.inl ⟨by rfl, fun _ _ => by rfl⟩) ?_
    simp only [Act.put, Fl.z1, Fl.z2, Fl.z3]
    refine Fl.stop (fun W hi => ?_)
    replace HI := Lib.hid hi
    clear hi
    go_upto_region 5 with (fail)
    refine Fl.startW [.take 0, .one 1, .take 2, .one 3, .take 4, .one 5, .take 6, .one 7] (by decide) HI.out ?_
    refine Fl.take (some 16) (v := .pointer (some ⟨g, 0, none⟩)) rfl rfl (Or.inl ⟨by rfl, fun _ _ => by rfl⟩) ?_
    simp only [Act.put, Fl.z1, Fl.z2, Fl.z3]
    refine Fl.call (some 17) Try.func56 (by kernel_rfl) rfl #[.pointer (some ⟨g, 0, none⟩), .int .i64 16] rfl rfl rfl (by rfl) rfl (fun E2 W2 hE2 hi => ?_)
    refine (spec_l1Cur_pick.calls g l0 j1 t1 16 (n : Int) j2 t2 w0 W2 (spec_l1Cur_key9.got hi (i := 2) rfl) hi.bel HP.out).mono ?_
    rintro e W' ⟨rfl, hI2, hB2, hK2⟩
    refine Fl.keepI (F := []) (v := .int .i64 (n : Int)) (F' := Lv.boxF g3 (Ky.bs (List.replicate 16 0)) 26 :: Lv.boxF g2 (Ky.bs (List.replicate 16 0)) 26 :: spec_l1Cur_key9.curF w0 g l0 (j2 : Int) t2 :: E) (spec_l1Cur_key9.on hi (i := 2) rfl hI2 hB2 hK2) ?_
    clear hi hI2 hB2 hK2 hE2
    simp only [Act.put, Fl.z1, Fl.z2, Fl.z3]
    refine Fl.take (some 18) (v := .pointer (some ⟨g, 0, none⟩)) rfl rfl (Or.inl ⟨by rfl, fun _ _ => by rfl⟩) ?_
    simp only [Act.put, Fl.z1, Fl.z2, Fl.z3]
    refine Fl.call (some 19) Try.func54 (by kernel_rfl) rfl #[.pointer (some ⟨g, 0, none⟩), .int .i64 1] rfl rfl rfl (by rfl) rfl (fun E2 W2 hE2 hi => ?_)
    refine (spec_l1Cur_bytesOf.calls kb g l0 j2 t2 1 rb j3 t3 w0 W2 (spec_l1Cur_key9.got hi (i := 2) rfl) hi.bel HB.out).mono ?_
    rintro e W' ⟨v0, rfl, hr2, hI2, hB2, hK2⟩
    obtain ⟨b, o, c, rfl⟩ := Fl.row_at hr2 (by have := HL3.out; omega)
    refine Fl.keepI (F := []) (v := .slice (some ⟨b, o, none⟩) rb.length c) (F' := Lv.rowF (Kd.int .u8) 5 w0.heap.size (.slice (some ⟨b, o, none⟩) rb.length c) rb :: Lv.boxF g3 (Ky.bs (List.replicate 16 0)) 26 :: Lv.boxF g2 (Ky.bs (List.replicate 16 0)) 26 :: spec_l1Cur_key9.curF w0 g l0 (j3 : Int) t3 :: E) (spec_l1Cur_key9.onRow hi (i := 2) rfl hr2 hI2 hB2 hK2) ?_
    clear hi hr2 hI2 hB2 hK2 hE2
    simp only [Act.put, Fl.z1, Fl.z2, Fl.z3]
    refine Fl.take (some 20) (v := .pointer (some ⟨b, o, none⟩)) rfl rfl (Or.inl ⟨by rfl, fun _ _ => by have h_ := HL3.out; first | (go_simp; done) | (go_simp; rfl) | (go_simp; omega) | (rw [h_]; go_simp; done)⟩) ?_
    simp only [Act.put, Fl.z1, Fl.z2, Fl.z3]
    refine Fl.ldRc (some 21) 0 0 rfl HX.out rfl rfl (by rfl) _ _ rfl rfl Try.underlying5 rfl ?_
    simp only [Act.put, Fl.z1, Fl.z2, Fl.z3]
    refine Fl.take (some 22) (v := .pointer (some ⟨g3, n, none⟩)) rfl rfl (Or.inl ⟨by rfl, fun _ _ => by first | rfl | (go_simp; done) | (go_simp; rfl) | (go_simp; omega)⟩) ?_
    simp only [Act.put, Fl.z1, Fl.z2, Fl.z3]
    refine Fl.stK 1 n x rfl rfl rfl rfl _ _ _ rfl rfl rfl (by rfl) (by rw [List.length_replicate]; omega) (by kernel_rfl) ?_
    refine Fl.stopW (fun W hi => ?_)
    replace HI := Lib.hid hi
    clear hi
    replace HI := Lib.hid HI.out.tail
    go_upto_region 18 with (fail)
    refine Fl.startW [.one 0, .one 1] (by decide) HI.out ?_
    refine Fl.ldF (some 53) 0 rfl rfl rfl (by rfl) _ _ rfl rfl Try.underlying26 rfl (Ky.hKk HG.out.1) ?_
    simp only [Act.put, Fl.z1, Fl.z2, Fl.z3]
    refine Fl.store 1 (Ky.bs ((List.replicate 16 0).set n x)) rfl rfl rfl rfl _ _ _ rfl rfl rfl (by rfl) (Ky.size_key HG.out.1 Ky.key0) (Ky.hKk HG.out.1) (Ky.bs_one _) ?_
    refine Fl.stopW (fun W hi => ?_)
    replace HI := Lib.hid hi
    clear hi
    go_wp2
    refine bodyPost_ret (v := .agg (Ky.bs ((List.replicate 16 0).set n x))) (results_cell_row rfl _ _ g2 26 (Ky.bs ((List.replicate 16 0).set n x)) (0, 0) _ rfl (HI.out.blk 1 rfl) Try.underlying26 rfl (Ky.hKk HG.out.1)) rfl ?_
    first | exact ⟨((List.replicate 16 0).set n x), j3, t3, rfl, HG.out, by have := HJ1.out; omega, HI.out.tail.tail⟩ | exact ⟨((List.replicate 16 0).set n x), rfl, HG.out, j3, by have := HJ1.out; omega, t3, HI.out.tail.tail⟩ | exact ⟨((List.replicate 16 0).set n x), rfl, HG.out, j3, t3, by have := HJ1.out; omega, HI.out.tail.tail⟩
  · go_upto_region 4 with (fail)
    refine Fl.startL [.take 0, .take 1] (by decide) HI.out ?_
    refine Fl.take (some 15) (v := .bool false) rfl rfl (Or.inl ⟨by rfl, fun _ _ => by have h_ := eq_false h0; first | (go_simp; done) | (go_simp; rfl) | (go_simp; simp [h_]; done) | (go_simp; simp; omega)⟩) ?_
    simp only [Act.put, Fl.z1, Fl.z2, Fl.z3]
    refine Fl.take (some 14) (v := .bool false) rfl rfl (Or.inl ⟨by rfl, fun _ _ => by rfl⟩) ?_
    simp only [Act.put, Fl.z1, Fl.z2, Fl.z3]
    refine Fl.stop (fun W hi => ?_)
    replace HI := Lib.hid hi
    clear hi
    by_cases h1 : v = 1
    · subst h1
      go_upto_region 6 with (fail)
      refine Fl.startL [.take 0, .take 1] (by decide) HI.out ?_
      refine Fl.take (some 24) (v := .bool true) rfl rfl (Or.inl ⟨by rfl, fun _ _ => by rfl⟩) ?_
      simp only [Act.put, Fl.z1, Fl.z2, Fl.z3]
      refine Fl.take (some 23) (v := .bool true) rfl rfl (Or.inl ⟨by rfl, fun _ _ => by rfl⟩) ?_
      simp only [Act.put, Fl.z1, Fl.z2, Fl.z3]
      refine Fl.stop (fun W hi => ?_)
      replace HI := Lib.hid hi
      clear hi
      obtain ⟨v2, j2, t2, hp, hj2, hv20, hv21⟩ := (HFF.out l0 HU.out j1 (by have := HIL.out; have := HJ1.out; omega) t1).1 2 (by decide)
      have hv22 := hv21 (by decide)
      have HP := Lib.hid hp
      obtain ⟨n, hn, hn2⟩ : ∃ n : Nat, 15 - v2 = (n : Int) ∧ n < 16 := ⟨(15 - v2).toNat, by omega, by omega⟩
      obtain ⟨v3, j3, t3, hb, hj3, hv3⟩ := (HFF.out l0 HU.out j2 (by have := HIL.out; have := HJ1.out; omega) t2).2.1 [255, 254, 0] (by decide) (by decide)
      have HB := Lib.hid hb
      have HJ3 : Hid (j3 ≤ i + 40) := Lib.hid (by have := HJ1.out; omega)
      have HV3 : Hid (v3 % 256 = v3 ∧ 0 ≤ v3 ∧ v3 ≤ 255) := Lib.hid (by simp at hv3; omega)
      have HN : Hid (IntKind.i64.wrap (15 - v2) = (n : Int)) := Lib.hid (by rw [IntKind.wrap_i64]; omega)
      clear hp hb hj2 hj3 hv3 hv21 hv20 hv22 hn
      go_wp2
      go_loopg [4] 16 (fun gg s4 wr => ∃ (k : Nat) (l : List Int), s4 = .int .i64 (k : Int) ∧ Hid (k ≤ 16 ∧ 16 - k ≤ gg) ∧ Hid (spec_l1Cur_key9.Good l) ∧ Hid (Lv.Inv w0 wr (Lv.boxF g3 (Ky.bs l) 26 :: Lv.boxF g2 (Ky.bs (List.replicate 16 0)) 26 :: spec_l1Cur_key9.curF w0 g l0 (j1 : Int) t1 :: E)))
      case atStart => exact ⟨0, _, rfl, Lib.hid (by simp), Lib.hid spec_l1Cur_key9.good0, HI⟩
      case round =>
        clear HI
        obtain ⟨k, l, rfl, HK, HG, HI⟩ := hrel
        by_cases hlt : k < 16
        · have k0 : (0 : Int) ≤ (k : Int) := by omega
          have k1 : (k : Int) < 16 := by omega
          have HG2 := Lib.hid (spec_l1Cur_key9.good_set HG.out k (x := 255) (by decide))
          go_upto_region 10 with (fail)
          refine Fl.startW [.take 0, .take 1, .one 2] (by decide) HI.out ?_
          refine Fl.take (some 29) (v := .int .i64 (k : Int)) rfl rfl (Or.inl ⟨by rfl, fun _ _ => by rfl⟩) ?_
          simp only [Act.put, Fl.z1, Fl.z2, Fl.z3]
          refine Fl.take (some 30) (v := .pointer (some ⟨g3, k, none⟩)) rfl rfl (Or.inl ⟨by rfl, fun _ _ => by first | rfl | (go_simp; done) | (go_simp; rfl) | (go_simp; omega)⟩) ?_
          simp only [Act.put, Fl.z1, Fl.z2, Fl.z3]
          refine Fl.stK 0 k 255 rfl rfl rfl rfl _ _ _ rfl rfl rfl (by rfl) (by rw [show l.length = 16 from HG.out.1]; exact hlt) (by kernel_rfl) ?_
          refine Fl.stopW (fun W hi => ?_)
          replace HI := Lib.hid hi
          clear hi
          go_wp2
          go_roundg (16 - (k + 1))
          case measure => have := HK.out; omega
          case rel => exact ⟨k + 1, l.set k 255, by go_num, Lib.hid (by have := HK.out; omega), HG2, HI⟩
        · have k1 : ¬ (k : Int) < 16 := by omega
          have HG2 := Lib.hid (spec_l1Cur_key9.good_set HG.out n HV3.out.2)
          go_upto_region 11 with (fail)
          refine Fl.startW [.take 0, .one 1, .take 2, .take 3, .one 4, .one 5, .take 6, .take 7, .one 8] (by decide) HI.out ?_
          refine Fl.take (some 31) (v := .pointer (some ⟨g, 0, none⟩)) rfl rfl (Or.inl ⟨by rfl, fun _ _ => by rfl⟩) ?_
          simp only [Act.put, Fl.z1, Fl.z2, Fl.z3]
          refine Fl.call (some 32) Try.func56 (by kernel_rfl) rfl #[.pointer (some ⟨g, 0, none⟩), .int .i64 2] rfl rfl rfl (by rfl) rfl (fun E2 W2 hE2 hi => ?_)
          refine (spec_l1Cur_pick.calls g l0 j1 t1 2 v2 j2 t2 w0 W2 (spec_l1Cur_key9.got hi (i := 2) rfl) hi.bel HP.out).mono ?_
          rintro e W' ⟨rfl, hI2, hB2, hK2⟩
          refine Fl.keepI (F := []) (v := .int .i64 v2) (F' := Lv.boxF g3 (Ky.bs l) 26 :: Lv.boxF g2 (Ky.bs (List.replicate 16 0)) 26 :: spec_l1Cur_key9.curF w0 g l0 (j2 : Int) t2 :: E) (spec_l1Cur_key9.on hi (i := 2) rfl hI2 hB2 hK2) ?_
          clear hi hI2 hB2 hK2 hE2
          simp only [Act.put, Fl.z1, Fl.z2, Fl.z3]
          refine Fl.take (some 33) (v := .int .i64 (n : Int)) rfl rfl (Or.inl ⟨by rfl, fun _ _ => by have h_ := HN.out; first | (go_simp; done) | (go_simp; rw [h_]; done) | (go_simp; rw [h_]; rfl) | (go_simp; simp only [h_])⟩) ?_
          simp only [Act.put, Fl.z1, Fl.z2, Fl.z3]
          refine Fl.take (some 34) (v := .pointer (some ⟨g, 0, none⟩)) rfl rfl (Or.inl ⟨by rfl, fun _ _ => by rfl⟩) ?_
          simp only [Act.put, Fl.z1, Fl.z2, Fl.z3]
          refine Fl.lit (N := 35) (cs := #[.int .i64 255, .int .i64 254, .int .i64 0]) (t := 3) (n := 3) rfl rfl (by rfl) (fun w => by first | (go_simp; done) | (go_simp; rfl)) (fun b0 => ?_)
          simp only [Act.put, Fl.z1, Fl.z2, Fl.z3]
          refine Fl.call (some 36) Try.func55 (by kernel_rfl) rfl #[.pointer (some ⟨g, 0, none⟩), .slice (some ⟨b0, 0, none⟩) 3 3] rfl rfl rfl (by rfl) rfl (fun E2 W2 hE2 hi => ?_)
          refine (spec_l1Cur_among.calls g l0 j2 t2 (some ⟨b0, 0, none⟩) 3 [255, 254, 0] v3 j3 t3 w0 W2 (spec_l1Cur_key9.got hi (i := 3) rfl) hi.bel (spec_l1Cur_key9.laid [255, 254, 0] hi (n := 3) rfl (by decide)) (Nat.le_refl _) (fun ad e _ => by cases e; exact ((spec_l1Cur_key9.got hi (i := 3) rfl).ne_blk (hi.blk 0 rfl) (by decide)).symm) HB.out).mono ?_
          rintro e W' ⟨rfl, hI2, hB2, hK2⟩
          refine Fl.keepI (F := []) (v := .int .i64 v3) (F' := Lv.boxF b0 #[.int .i64 255, .int .i64 254, .int .i64 0] 3 :: Lv.boxF g3 (Ky.bs l) 26 :: Lv.boxF g2 (Ky.bs (List.replicate 16 0)) 26 :: spec_l1Cur_key9.curF w0 g l0 (j3 : Int) t3 :: E) (spec_l1Cur_key9.on hi (i := 3) rfl hI2 hB2 hK2) ?_
          clear hi hI2 hB2 hK2 hE2
          simp only [Act.put, Fl.z1, Fl.z2, Fl.z3]
          refine Fl.take (some 37) (v := .int .u8 v3) rfl rfl (Or.inl ⟨by rfl, fun _ _ => by have h_ := HV3.out.1; have h2_ : IntKind.u8.wrap v3 = v3 := (by rw [IntKind.wrap_u8]; exact h_); first | (go_simp; done) | (go_simp; rw [h_]; done) | (go_simp; rw [h2_]; done) | (go_simp; simp only [h_, h2_]; done) | (go_simp; fail)⟩) ?_
          simp only [Act.put, Fl.z1, Fl.z2, Fl.z3]
          refine Fl.take (some 38) (v := .pointer (some ⟨g3, n, none⟩)) rfl rfl (Or.inl ⟨by rfl, fun _ _ => by first | rfl | (go_simp; done) | (go_simp; rfl) | (go_simp; omega)⟩) ?_
          simp only [Act.put, Fl.z1, Fl.z2, Fl.z3]
          refine Fl.stK 1 n v3 rfl rfl rfl rfl _ _ _ rfl rfl rfl (by rfl) (by rw [show l.length = 16 from HG.out.1]; exact hn2) (by kernel_rfl) ?_
          refine Fl.stopW (fun W hi => ?_)
          replace HI := Lib.hid hi
          clear hi
          replace HI := Lib.hid HI.out.tail
          replace HJ1 := HJ3
          go_upto_region 18 with (fail)
          refine Fl.startW [.one 0, .one 1] (by decide) HI.out ?_
          refine Fl.ldF (some 53) 0 rfl rfl rfl (by rfl) _ _ rfl rfl Try.underlying26 rfl (Ky.hKk HG2.out.1) ?_
          simp only [Act.put, Fl.z1, Fl.z2, Fl.z3]
          refine Fl.store 1 (Ky.bs (l.set n v3)) rfl rfl rfl rfl _ _ _ rfl rfl rfl (by rfl) (Ky.size_key HG2.out.1 Ky.key0) (Ky.hKk HG2.out.1) (Ky.bs_one _) ?_
          refine Fl.stopW (fun W hi => ?_)
          replace HI := Lib.hid hi
          clear hi
          go_wp2
          refine bodyPost_ret (v := .agg (Ky.bs (l.set n v3))) (results_cell_row rfl _ _ g2 26 (Ky.bs (l.set n v3)) (0, 0) _ rfl (HI.out.blk 1 rfl) Try.underlying26 rfl (Ky.hKk HG2.out.1)) rfl ?_
          first | exact ⟨(l.set n v3), j3, t3, rfl, HG2.out, by have := HJ1.out; omega, HI.out.tail.tail⟩ | exact ⟨(l.set n v3), rfl, HG2.out, j3, by have := HJ1.out; omega, t3, HI.out.tail.tail⟩ | exact ⟨(l.set n v3), rfl, HG2.out, j3, t3, by have := HJ1.out; omega, HI.out.tail.tail⟩
    · go_upto_region 6 with (fail)
      refine Fl.startL [.take 0, .take 1] (by decide) HI.out ?_
      refine Fl.take (some 24) (v := .bool false) rfl rfl (Or.inl ⟨by rfl, fun _ _ => by have h_ := eq_false h1; first | (go_simp; done) | (go_simp; rfl) | (go_simp; simp [h_]; done) | (go_simp; simp; omega)⟩) ?_
      simp only [Act.put, Fl.z1, Fl.z2, Fl.z3]
      refine Fl.take (some 23) (v := .bool false) rfl rfl (Or.inl ⟨by rfl, fun _ _ => by rfl⟩) ?_
      simp only [Act.put, Fl.z1, Fl.z2, Fl.z3]
      refine Fl.stop (fun W hi => ?_)
      replace HI := Lib.hid hi
      clear hi
      by_cases h2 : v = 2
      · subst h2
        go_upto_region 12 with (fail)
        refine Fl.startL [.take 0, .take 1] (by decide) HI.out ?_
        refine Fl.take (some 40) (v := .bool true) rfl rfl (Or.inl ⟨by rfl, fun _ _ => by rfl⟩) ?_
        simp only [Act.put, Fl.z1, Fl.z2, Fl.z3]
        refine Fl.take (some 39) (v := .bool true) rfl rfl (Or.inl ⟨by rfl, fun _ _ => by rfl⟩) ?_
        simp only [Act.put, Fl.z1, Fl.z2, Fl.z3]
        refine Fl.stop (fun W hi => ?_)
        replace HI := Lib.hid hi
        clear hi
        obtain ⟨kb, rb, j3, t3, hb, hj3, hl3, hu3⟩ := (HFF.out l0 HU.out j1 (by have := HIL.out; have := HJ1.out; omega) t1).2.2.2 16 (by decide)
        have HB := Lib.hid hb
        have HL3 := Lib.hid hl3
        have HU3 := Lib.hid hu3
        have HJ3 : Hid (j3 ≤ i + 40) := Lib.hid (by have := HJ1.out; omega)
        clear hb hj3 hl3 hu3
        go_upto_region 13 with (fail)
        refine Fl.startW [.take 0, .one 1, .take 2] (by decide) HI.out ?_
        refine Fl.take (some 41) (v := .pointer (some ⟨g, 0, none⟩)) rfl rfl (Or.inl ⟨by rfl, fun _ _ => by rfl⟩) ?_
        simp only [Act.put, Fl.z1, Fl.z2, Fl.z3]
        refine Fl.call (some 42) Try.func54 (by kernel_rfl) rfl #[.pointer (some ⟨g, 0, none⟩), .int .i64 16] rfl rfl rfl (by rfl) rfl (fun E2 W2 hE2 hi => ?_)
        refine (spec_l1Cur_bytesOf.calls kb g l0 j1 t1 16 rb j3 t3 w0 W2 (spec_l1Cur_key9.got hi (i := 2) rfl) hi.bel HB.out).mono ?_
        rintro e W' ⟨v0, rfl, hr2, hI2, hB2, hK2⟩
        obtain ⟨b, o, c, rfl⟩ := Fl.row_at hr2 (by have := HL3.out; omega)
        refine Fl.keepI (F := []) (v := .slice (some ⟨b, o, none⟩) rb.length c) (F' := Lv.rowF (Kd.int .u8) 5 w0.heap.size (.slice (some ⟨b, o, none⟩) rb.length c) rb :: Lv.boxF g3 (Ky.bs (List.replicate 16 0)) 26 :: Lv.boxF g2 (Ky.bs (List.replicate 16 0)) 26 :: spec_l1Cur_key9.curF w0 g l0 (j3 : Int) t3 :: E) (spec_l1Cur_key9.onRow hi (i := 2) rfl hr2 hI2 hB2 hK2) ?_
        clear hi hr2 hI2 hB2 hK2 hE2
        simp only [Act.put, Fl.z1, Fl.z2, Fl.z3]
        refine Fl.take (some 5) (v := .slice (some ⟨b, o, none⟩) rb.length c) rfl rfl (Or.inl ⟨by rfl, fun _ _ => by rfl⟩) ?_
        simp only [Act.put, Fl.z1, Fl.z2, Fl.z3]
        refine Fl.stopW (fun W hi => ?_)
        replace HI := Lib.hid hi
        clear hi
        go_wp2
        go_loopg [6] 16 (fun gg s6 wr => ∃ (k : Nat) (l : List Int), s6 = .int .i64 (k : Int) ∧ Hid (k ≤ 16 ∧ 16 - k ≤ gg) ∧ Hid (spec_l1Cur_key9.Good l) ∧ Hid (Lv.Inv w0 wr (Lv.rowF (Kd.int .u8) 5 w0.heap.size (.slice (some ⟨b, o, none⟩) rb.length c) rb :: Lv.boxF g3 (Ky.bs l) 26 :: Lv.boxF g2 (Ky.bs (List.replicate 16 0)) 26 :: spec_l1Cur_key9.curF w0 g l0 (j3 : Int) t3 :: E)))
        case atStart => exact ⟨0, _, rfl, Lib.hid (by simp), Lib.hid spec_l1Cur_key9.good0, HI⟩
        case round =>
          clear HI
          obtain ⟨k, l, rfl, HK, HG, HI⟩ := hrel
          by_cases hlt : k < 16
          · have k0 : (0 : Int) ≤ (k : Int) := by omega
            have k1 : (k : Int) < 16 := by omega
            have k2 : (k : Int) < (rb.length : Int) := by have := HL3.out; omega
            obtain ⟨x, hx⟩ : ∃ x, rb[k]? = some x := ⟨_, List.getElem?_eq_getElem (by have := HL3.out; omega)⟩
            have HX := Lib.hid hx
            have HG2 := Lib.hid (spec_l1Cur_key9.good_set HG.out k (HU3.out x (List.mem_of_getElem? hx)))
            clear hx
            go_upto_region 17 with (fail)
            refine Fl.startW [.take 0, .take 1, .take 2, .take 3, .one 4, .take 5, .one 6] (by decide) HI.out ?_
            refine Fl.take (some 47) (v := .int .i64 (k : Int)) rfl rfl (Or.inl ⟨by rfl, fun _ _ => by rfl⟩) ?_
            simp only [Act.put, Fl.z1, Fl.z2, Fl.z3]
            refine Fl.take (some 48) (v := .slice (some ⟨b, o, none⟩) rb.length c) rfl rfl (Or.inl ⟨by rfl, fun _ _ => by rfl⟩) ?_
            simp only [Act.put, Fl.z1, Fl.z2, Fl.z3]
            refine Fl.take (some 49) (v := .int .i64 (k : Int)) rfl rfl (Or.inl ⟨by rfl, fun _ _ => by rfl⟩) ?_
            simp only [Act.put, Fl.z1, Fl.z2, Fl.z3]
            refine Fl.take (some 50) (v := .pointer (some ⟨b, o + k, none⟩)) rfl rfl (Or.inl ⟨by rfl, fun _ _ => by first | rfl | (go_simp; done) | (go_simp; rfl) | (go_simp; omega)⟩) ?_
            simp only [Act.put, Fl.z1, Fl.z2, Fl.z3]
            refine Fl.ldRc (some 51) 0 k rfl HX.out rfl rfl (by rfl) _ _ rfl rfl Try.underlying5 rfl ?_
            simp only [Act.put, Fl.z1, Fl.z2, Fl.z3]
            refine Fl.take (some 52) (v := .pointer (some ⟨g3, k, none⟩)) rfl rfl (Or.inl ⟨by rfl, fun _ _ => by first | rfl | (go_simp; done) | (go_simp; rfl) | (go_simp; omega)⟩) ?_
            simp only [Act.put, Fl.z1, Fl.z2, Fl.z3]
            refine Fl.stK 1 k x rfl rfl rfl rfl _ _ _ rfl rfl rfl (by rfl) (by rw [show l.length = 16 from HG.out.1]; exact hlt) (by kernel_rfl) ?_
            refine Fl.stopW (fun W hi => ?_)
            replace HI := Lib.hid hi
            clear hi
            go_wp2
            go_roundg (16 - (k + 1))
            case measure => have := HK.out; omega
            case rel => exact ⟨k + 1, l.set k x, by go_num, Lib.hid (by have := HK.out; omega), HG2, HI⟩
          · have k1 : ¬ (k : Int) < 16 := by omega
            replace HI := Lib.hid HI.out.tail
            replace HJ1 := HJ3
            go_upto_region 18 with (fail)
            refine Fl.startW [.one 0, .one 1] (by decide) HI.out ?_
            refine Fl.ldF (some 53) 0 rfl rfl rfl (by rfl) _ _ rfl rfl Try.underlying26 rfl (Ky.hKk HG.out.1) ?_
            simp only [Act.put, Fl.z1, Fl.z2, Fl.z3]
            refine Fl.store 1 (Ky.bs l) rfl rfl rfl rfl _ _ _ rfl rfl rfl (by rfl) (Ky.size_key HG.out.1 Ky.key0) (Ky.hKk HG.out.1) (Ky.bs_one _) ?_
            refine Fl.stopW (fun W hi => ?_)
            replace HI := Lib.hid hi
            clear hi
            go_wp2
            refine bodyPost_ret (v := .agg (Ky.bs l)) (results_cell_row rfl _ _ g2 26 (Ky.bs l) (0, 0) _ rfl (HI.out.blk 1 rfl) Try.underlying26 rfl (Ky.hKk HG.out.1)) rfl ?_
            first | exact ⟨l, j3, t3, rfl, HG.out, by have := HJ1.out; omega, HI.out.tail.tail⟩ | exact ⟨l, rfl, HG.out, j3, by have := HJ1.out; omega, t3, HI.out.tail.tail⟩ | exact ⟨l, rfl, HG.out, j3, t3, by have := HJ1.out; omega, HI.out.tail.tail⟩
      · obtain ⟨v2, j2, t2, hp, hj2, hv20, hv21⟩ := (HFF.out l0 HU.out j1 (by have := HIL.out; have := HJ1.out; omega) t1).1 4 (by decide)
        have hv22 := hv21 (by decide)
        have HP := Lib.hid hp
        have HV3 : Hid (v2 % 256 = v2 ∧ 0 ≤ v2 ∧ v2 ≤ 255) := Lib.hid (by omega)
        replace HJ1 : Hid (j2 ≤ i + 40) := Lib.hid (by have := HJ1.out; omega)
        have HG := Lib.hid (spec_l1Cur_key9.good_set spec_l1Cur_key9.good0 15 HV3.out.2)
        clear hp hj2 hv21 hv20 hv22
        go_upto_region 12 with (fail)
        refine Fl.startL [.take 0, .take 1] (by decide) HI.out ?_
        refine Fl.take (some 40) (v := .bool false) rfl rfl (Or.inl ⟨by rfl, fun _ _ => by have h_ := eq_false h2; first | (go_simp; done) | (go_simp; rfl) | (go_simp; simp [h_]; done) | (go_simp; simp; omega)⟩) ?_
        simp only [Act.put, Fl.z1, Fl.z2, Fl.z3]
        refine Fl.take (some 39) (v := .bool false) rfl rfl (Or.inl ⟨by rfl, fun _ _ => by rfl⟩) ?_
        simp only [Act.put, Fl.z1, Fl.z2, Fl.z3]
        refine Fl.stop (fun W hi => ?_)
        replace HI := Lib.hid hi
        clear hi
        go_upto_region 3 with (fail)
        refine Fl.startW [.take 0, .one 1, .take 2, .take 3, .one 4] (by decide) HI.out ?_
        refine Fl.take (some 10) (v := .pointer (some ⟨g, 0, none⟩)) rfl rfl (Or.inl ⟨by rfl, fun _ _ => by rfl⟩) ?_
        simp only [Act.put, Fl.z1, Fl.z2, Fl.z3]
        refine Fl.call (some 11) Try.func56 (by kernel_rfl) rfl #[.pointer (some ⟨g, 0, none⟩), .int .i64 4] rfl rfl rfl (by rfl) rfl (fun E2 W2 hE2 hi => ?_)
        refine (spec_l1Cur_pick.calls g l0 j1 t1 4 v2 j2 t2 w0 W2 (spec_l1Cur_key9.got hi (i := 2) rfl) hi.bel HP.out).mono ?_
        rintro e W' ⟨rfl, hI2, hB2, hK2⟩
        refine Fl.keepI (F := []) (v := .int .i64 v2) (F' := Lv.boxF g3 (Ky.bs (List.replicate 16 0)) 26 :: Lv.boxF g2 (Ky.bs (List.replicate 16 0)) 26 :: spec_l1Cur_key9.curF w0 g l0 (j2 : Int) t2 :: E) (spec_l1Cur_key9.on hi (i := 2) rfl hI2 hB2 hK2) ?_
        clear hi hI2 hB2 hK2 hE2
        simp only [Act.put, Fl.z1, Fl.z2, Fl.z3]
        refine Fl.take (some 12) (v := .int .u8 v2) rfl rfl (Or.inl ⟨by rfl, fun _ _ => by have h_ := HV3.out.1; have h2_ : IntKind.u8.wrap v2 = v2 := (by rw [IntKind.wrap_u8]; exact h_); first | (go_simp; done) | (go_simp; rw [h_]; done) | (go_simp; rw [h2_]; done) | (go_simp; simp only [h_, h2_]; done) | (go_simp; fail)⟩) ?_
        simp only [Act.put, Fl.z1, Fl.z2, Fl.z3]
        refine Fl.take (some 13) (v := .pointer (some ⟨g3, 15, none⟩)) rfl rfl (Or.inl ⟨by rfl, fun _ _ => by first | rfl | (go_simp; done) | (go_simp; rfl) | (go_simp; omega)⟩) ?_
        simp only [Act.put, Fl.z1, Fl.z2, Fl.z3]
        refine Fl.stK 0 15 v2 rfl rfl rfl rfl _ _ _ rfl rfl rfl (by rfl) (by decide) (by kernel_rfl) ?_
        refine Fl.stopW (fun W hi => ?_)
        replace HI := Lib.hid hi
        clear hi
        go_upto_region 18 with (fail)
        refine Fl.startW [.one 0, .one 1] (by decide) HI.out ?_
        refine Fl.ldF (some 53) 0 rfl rfl rfl (by rfl) _ _ rfl rfl Try.underlying26 rfl (Ky.hKk HG.out.1) ?_
        simp only [Act.put, Fl.z1, Fl.z2, Fl.z3]
        refine Fl.store 1 (Ky.bs ((List.replicate 16 0).set 15 v2)) rfl rfl rfl rfl _ _ _ rfl rfl rfl (by rfl) (Ky.size_key HG.out.1 Ky.key0) (Ky.hKk HG.out.1) (Ky.bs_one _) ?_
        refine Fl.stopW (fun W hi => ?_)
        replace HI := Lib.hid hi
        clear hi
        go_wp2
        refine bodyPost_ret (v := .agg (Ky.bs ((List.replicate 16 0).set 15 v2))) (results_cell_row rfl _ _ g2 26 (Ky.bs ((List.replicate 16 0).set 15 v2)) (0, 0) _ rfl (HI.out.blk 1 rfl) Try.underlying26 rfl (Ky.hKk HG.out.1)) rfl ?_
        first | exact ⟨((List.replicate 16 0).set 15 v2), j2, t2, rfl, HG.out, by have := HJ1.out; omega, HI.out.tail.tail⟩ | exact ⟨((List.replicate 16 0).set 15 v2), rfl, HG.out, j2, by have := HJ1.out; omega, t2, HI.out.tail.tail⟩ | exact ⟨((List.replicate 16 0).set 15 v2), rfl, HG.out, j2, t2, by have := HJ1.out; omega, HI.out.tail.tail⟩

/-! ### spec_DrawLessKey: function 21 (by hand) -/
set_option maxHeartbeats 4000000 in
set_option maxRecDepth 100000 in
theorem spec_DrawLessKey.calls (HF : spec_l1Cur_key9.Fact) (A0 : Option Addr) (c0 : Nat) (l0 : List Int) (hU : ∀ x ∈ l0, 0 ≤ x ∧ x ≤ 255) (w : World) (hr0 : Kd.C (Kd.int .u8) w A0 l0.length l0) (hc0 : l0.length ≤ c0) :
    Calls Try.prog 21 #[.slice A0 l0.length c0] w fun e w' => ∃ a b : List Int, e = .returned (.tuple #[.agg (Ky.bs a), .agg (Ky.bs b)]) ∧ Below w.heap.size w w' ∧ spec_l1Cur_key9.Good a ∧ spec_l1Cur_key9.Good b := by
  have HFF := Lib.hid HF
  have HU := Lib.hid hU
  have HR0 := Lib.hid hr0
  clear HF hU hr0 hc0
  obtain ⟨g2, hg2⟩ : ∃ x, x = w.heap.size := ⟨_, rfl⟩
  obtain ⟨g3, hg3⟩ : ∃ x, x = w.heap.size + 1 := ⟨_, rfl⟩
  obtain ⟨W0, hW⟩ : ∃ W, W = ((w).alloc (.cells (Ky.bs (List.replicate 16 0)) 26)).alloc (.cells (Ky.bs (List.replicate 16 0)) 26) := ⟨_, rfl⟩
  have HI : Hid (Lv.Inv w W0 [Lv.boxF g3 (Ky.bs (List.replicate 16 0)) 26, Lv.boxF g2 (Ky.bs (List.replicate 16 0)) 26]) := by
    subst hW hg2 hg3
    have := ((Lv.Inv.refl w).box (Ky.bs (List.replicate 16 0)) 26).box (Ky.bs (List.replicate 16 0)) 26
    exact Lib.hid (by simpa using this)
  go_enter Try.func21, Try.ntmps21
  go_upto_region 1 with (fail)
  rw [Ky.bs_zero]
  rw [← hW, ← hg3, ← hg2]
  clear hW hg2 hg3
  refine Fl.startL [.take 0, .take 1, .one 2, .take 3] (by decide) HI.out ?_
  refine Fl.take (some 6) (v := .slice A0 l0.length c0) rfl rfl (Or.inl ⟨by rfl, fun _ _ => by rfl⟩) ?_
  simp only [Act.put, Fl.z1, Fl.z2, Fl.z3]
  refine Fl.take (some 7) (v := .agg #[.slice A0 l0.length c0, .int .i64 0, .int .u64 0]) rfl rfl (Or.inl ⟨by rfl, fun _ _ => by first | rfl | (go_simp; done) | (go_simp; rfl) | (go_simp; simp only [i64_w])⟩) ?_
  simp only [Act.put, Fl.z1, Fl.z2, Fl.z3]
  refine spec_l1Cur_key9.boxed (N := 8) (cs := #[.slice A0 l0.length c0, .int .i64 0, .int .u64 0]) (t := 82) rfl rfl (by rfl) (fun w => by first | (go_simp; done) | (go_simp; rfl)) (fun gc => ?_)
  simp only [Act.put, Fl.z1, Fl.z2, Fl.z3]
  refine Fl.take (some 4) (v := .pointer (some ⟨gc, 0, none⟩)) rfl rfl (Or.inl ⟨by rfl, fun _ _ => by rfl⟩) ?_
  simp only [Act.put, Fl.z1, Fl.z2, Fl.z3]
  refine Fl.stop (fun W hi => ?_)
  replace HI := Lib.hid hi
  clear hi
  replace HI := Lib.hid (spec_l1Cur_key9.ofBox HI.out HR0.out)
  go_upto_region 2 with (fail)
  refine Fl.startW [.take 0, .one 1, .one 2, .one 3] (by decide) HI.out ?_
  refine Fl.take (some 9) (v := .pointer (some ⟨gc, 0, none⟩)) rfl rfl (Or.inl ⟨by rfl, fun _ _ => by rfl⟩) ?_
  simp only [Act.put, Fl.z1, Fl.z2, Fl.z3]
  refine Fl.call (some 10) Try.func49 (by kernel_rfl) rfl #[.pointer (some ⟨gc, 0, none⟩)] rfl rfl rfl (by rfl) rfl (fun E2 W2 hE2 hi => ?_)
  refine (spec_l1Cur_key9.calls HFF.out l0 HU.out gc 0 0 (by decide) w W2 _ hi).mono ?_
  rintro e W' ⟨a, j, t, rfl, hg_, hj_, hi2⟩
  have HG := Lib.hid hg_
  have HJ_j := Lib.hid hj_
  refine Fl.keepI (F := []) (v := .agg (Ky.bs a)) (F' := [spec_l1Cur_key9.curF w gc l0 (j : Int) t, Lv.boxF g3 (Ky.bs (List.replicate 16 0)) 26, Lv.boxF g2 (Ky.bs (List.replicate 16 0)) 26]) hi2 ?_
  clear hi hi2 hE2 hg_ hj_
  simp only [Act.put, Fl.z1, Fl.z2, Fl.z3]
  refine Fl.var (N := 5) (cs := Ky.bs (List.replicate 16 0)) (t := 26) ⟨_, rfl, rfl, fun _ => rfl, fun e w => by first | (go_simp; done) | (go_simp; rfl)⟩ (fun g5 => ?_)
  simp only [Act.put, Fl.z1, Fl.z2, Fl.z3]
  refine Fl.store 0 (Ky.bs a) rfl rfl rfl rfl _ _ _ rfl rfl rfl (by rfl) (Ky.size_key HG.out.1 Ky.key0) (Ky.hKk HG.out.1) (Ky.bs_one _) ?_
  refine Fl.stopW (fun W hi => ?_)
  replace HI := Lib.hid hi
  clear hi
  obtain ⟨q, j2, t2, ho, hj2⟩ := (HFF.out l0 HU.out j (by have := HJ_j.out; omega) t).2.2.1 4 (by decide)
  have HO := Lib.hid ho
  have HJ2 : Hid (j2 ≤ 100) := Lib.hid (by have := HJ_j.out; omega)
  clear ho hj2
  go_upto_region 3 with (fail)
  refine Fl.startW [.take 0, .one 1] (by decide) HI.out ?_
  refine Fl.take (some 11) (v := .pointer (some ⟨gc, 0, none⟩)) rfl rfl (Or.inl ⟨by rfl, fun _ _ => by rfl⟩) ?_
  simp only [Act.put, Fl.z1, Fl.z2, Fl.z3]
  refine Fl.call (some 12) Try.func50 (by kernel_rfl) rfl #[.pointer (some ⟨gc, 0, none⟩), .int .i64 4] rfl rfl rfl (by rfl) rfl (fun E2 W2 hE2 hi => ?_)
  refine (spec_l1Cur_one.calls gc l0 j t 4 q j2 t2 w W2 (spec_l1Cur_key9.got hi (i := 1) rfl) hi.bel HO.out).mono ?_
  rintro e W' ⟨rfl, hI2, hB2, hK2⟩
  refine Fl.keepI (F := []) (v := .bool q) (F' := [Lv.boxF g5 (Ky.bs a) 26, spec_l1Cur_key9.curF w gc l0 (j2 : Int) t2, Lv.boxF g3 (Ky.bs (List.replicate 16 0)) 26, Lv.boxF g2 (Ky.bs (List.replicate 16 0)) 26]) (spec_l1Cur_key9.on hi (i := 1) rfl hI2 hB2 hK2) ?_
  clear hi hI2 hB2 hK2 hE2
  simp only [Act.put, Fl.z1, Fl.z2, Fl.z3]
  refine Fl.stopW (fun W hi => ?_)
  replace HI := Lib.hid hi
  clear hi
  cases q with
  | true =>
    replace HI : Hid (Lv.Inv w W [spec_l1Cur_key9.curF w gc l0 (j2 : Int) t2, Lv.boxF g5 (Ky.bs a) 26, Lv.boxF g3 (Ky.bs (List.replicate 16 0)) 26, Lv.boxF g2 (Ky.bs (List.replicate 16 0)) 26]) := Lib.hid (HI.out.front 1 rfl)
    replace HI : Hid (Lv.Inv w W [Lv.boxF g5 (Ky.bs a) 26, spec_l1Cur_key9.curF w gc l0 (j2 : Int) t2, Lv.boxF g3 (Ky.bs (List.replicate 16 0)) 26, Lv.boxF g2 (Ky.bs (List.replicate 16 0)) 26]) := Lib.hid (HI.out.front 1 rfl)
    replace HI : Hid (Lv.Inv w W [Lv.boxF g3 (Ky.bs (List.replicate 16 0)) 26, Lv.boxF g5 (Ky.bs a) 26, spec_l1Cur_key9.curF w gc l0 (j2 : Int) t2, Lv.boxF g2 (Ky.bs (List.replicate 16 0)) 26]) := Lib.hid (HI.out.front 2 rfl)
    replace HI : Hid (Lv.Inv w W [Lv.boxF g2 (Ky.bs (List.replicate 16 0)) 26, Lv.boxF g3 (Ky.bs (List.replicate 16 0)) 26, Lv.boxF g5 (Ky.bs a) 26, spec_l1Cur_key9.curF w gc l0 (j2 : Int) t2]) := Lib.hid (HI.out.front 3 rfl)
    go_upto_region 4 with (fail)
    refine Fl.startF (F := [_, _]) [([],[]),([],[]),([0,0],[0]),([1,2,0,1,2],[1])] [] 5 [.take 0, .take 1, .one 2, .one 3] [] (by kernel_rfl) (by kernel_rfl) (by decide) (by decide) (by kernel_rfl) (by kernel_rfl) Fl.mk0 HI.out ?_
    refine Fl.take (some 13) (v := .agg (Ky.bs a)) rfl rfl (Fl.ld 0 rfl (by rfl) _ _ rfl rfl Try.underlying26 rfl (Ky.hKk HG.out.1)) ?_
    simp only [Act.put, Fl.z1, Fl.z2, Fl.z3]
    refine Fl.take (some 14) (v := .agg (Ky.bs a)) rfl rfl (Fl.ld 0 rfl (by rfl) _ _ rfl rfl Try.underlying26 rfl (Ky.hKk HG.out.1)) ?_
    simp only [Act.put, Fl.z1, Fl.z2, Fl.z3]
    refine Fl.store 0 (Ky.bs a) rfl rfl rfl rfl _ _ _ rfl rfl rfl (by rfl) (Ky.size_key HG.out.1 Ky.key0) (Ky.hKk HG.out.1) (Ky.bs_one _) ?_
    refine Fl.store 1 (Ky.bs a) rfl rfl rfl rfl _ _ _ rfl rfl rfl (by rfl) (Ky.size_key HG.out.1 Ky.key0) (Ky.hKk HG.out.1) (Ky.bs_one _) ?_
    refine Fl.fin0 ?_
    refine Fl.stopN (fun W hi => ?_)
    replace HI := Lib.hid hi
    clear hi
    go_wp2
    refine bodyPost_ret (v := .tuple #[.agg (Ky.bs a), .agg (Ky.bs a)]) (results_list (rs := [.cell 2 26, .cell 3 26]) rfl (by simp) (.cell _ _ _ (0, 0) _ rfl (HI.out.blk 0 rfl) Try.underlying26 rfl (Ky.hKk HG.out.1) (.cell _ _ _ (0, 0) _ rfl (HI.out.blk 1 rfl) Try.underlying26 rfl (Ky.hKk HG.out.1) .nil))) rfl ?_
    exact ⟨a, a, rfl, HI.out.bel, HG.out, HG.out⟩
  | false =>
    replace HI : Hid (Lv.Inv w W [Lv.boxF g5 (Ky.bs a) 26, spec_l1Cur_key9.curF w gc l0 (j2 : Int) t2, Lv.boxF g3 (Ky.bs (List.replicate 16 0)) 26, Lv.boxF g2 (Ky.bs (List.replicate 16 0)) 26]) := Lib.hid (HI.out.front 0 rfl)
    replace HI : Hid (Lv.Inv w W [Lv.boxF g3 (Ky.bs (List.replicate 16 0)) 26, Lv.boxF g5 (Ky.bs a) 26, spec_l1Cur_key9.curF w gc l0 (j2 : Int) t2, Lv.boxF g2 (Ky.bs (List.replicate 16 0)) 26]) := Lib.hid (HI.out.front 2 rfl)
    replace HI : Hid (Lv.Inv w W [Lv.boxF g2 (Ky.bs (List.replicate 16 0)) 26, Lv.boxF g3 (Ky.bs (List.replicate 16 0)) 26, Lv.boxF g5 (Ky.bs a) 26, spec_l1Cur_key9.curF w gc l0 (j2 : Int) t2]) := Lib.hid (HI.out.front 3 rfl)
    replace HI : Hid (Lv.Inv w W [spec_l1Cur_key9.curF w gc l0 (j2 : Int) t2, Lv.boxF g2 (Ky.bs (List.replicate 16 0)) 26, Lv.boxF g3 (Ky.bs (List.replicate 16 0)) 26, Lv.boxF g5 (Ky.bs a) 26]) := Lib.hid (HI.out.front 3 rfl)
    go_upto_region 5 with (fail)
    refine Fl.startF (F := [_, _, _]) [([],[]),([],[]),([1],[1]),([0,2,0],[0]),([2,3,0,1,2,3],[2])] [] 6 [.take 0, .take 1, .one 2, .one 3, .one 4] [] (by kernel_rfl) (by kernel_rfl) (by decide) (by decide) (by kernel_rfl) (by kernel_rfl) Fl.mk0 HI.out ?_
    refine Fl.take (some 15) (v := .agg (Ky.bs a)) rfl rfl (Fl.ld 0 rfl (by rfl) _ _ rfl rfl Try.underlying26 rfl (Ky.hKk HG.out.1)) ?_
    simp only [Act.put, Fl.z1, Fl.z2, Fl.z3]
    refine Fl.take (some 16) (v := .pointer (some ⟨gc, 0, none⟩)) rfl rfl (Or.inl ⟨by rfl, fun _ _ => by rfl⟩) ?_
    simp only [Act.put, Fl.z1, Fl.z2, Fl.z3]
    refine Fl.call (some 17) Try.func49 (by kernel_rfl) rfl #[.pointer (some ⟨gc, 0, none⟩)] rfl rfl rfl (by rfl) rfl (fun E2 W2 hE2 hi => ?_)
    refine (spec_l1Cur_key9.calls HFF.out l0 HU.out gc j2 t2 (by have := HJ2.out; omega) w W2 _ hi).mono ?_
    rintro e W' ⟨b, j3, t3, rfl, hg_, hj_, hi2⟩
    have HG2 := Lib.hid hg_
    have HJ_j3 := Lib.hid hj_
    refine Fl.keepI (F := []) (v := .agg (Ky.bs b)) (F' := [spec_l1Cur_key9.curF w gc l0 (j3 : Int) t3, Lv.boxF g2 (Ky.bs (List.replicate 16 0)) 26, Lv.boxF g3 (Ky.bs (List.replicate 16 0)) 26]) hi2 ?_
    clear hi hi2 hE2 hg_ hj_
    simp only [Act.put, Fl.z1, Fl.z2, Fl.z3]
    refine Fl.store 1 (Ky.bs a) rfl rfl rfl rfl _ _ _ rfl rfl rfl (by rfl) (Ky.size_key HG.out.1 Ky.key0) (Ky.hKk HG.out.1) (Ky.bs_one _) ?_
    refine Fl.store 2 (Ky.bs b) rfl rfl rfl rfl _ _ _ rfl rfl rfl (by rfl) (Ky.size_key HG2.out.1 Ky.key0) (Ky.hKk HG2.out.1) (Ky.bs_one _) ?_
    refine Fl.fin0 ?_
    refine Fl.stopN (fun W hi => ?_)
    replace HI := Lib.hid hi
    clear hi
    go_wp2
    refine bodyPost_ret (v := .tuple #[.agg (Ky.bs a), .agg (Ky.bs b)]) (results_list (rs := [.cell 2 26, .cell 3 26]) rfl (by simp) (.cell _ _ _ (0, 0) _ rfl (HI.out.blk 1 rfl) Try.underlying26 rfl (Ky.hKk HG.out.1) (.cell _ _ _ (0, 0) _ rfl (HI.out.blk 2 rfl) Try.underlying26 rfl (Ky.hKk HG2.out.1) .nil))) rfl ?_
    exact ⟨a, b, rfl, HI.out.bel, HG.out, HG2.out⟩

/-! ### impl_LessKey: function 22 (by hand) -/
def impl_LessKey.f (a0 : List Int) (a1 : List Int) : Option Bool := if (∀ x ∈ a0, 0 ≤ x ∧ x ≤ 255) ∧ (∀ x ∈ a1, 0 ≤ x ∧ x ≤ 255) then some (Ky.lessF a0 a1) else none
theorem impl_LessKey.calls (a0 : List Int) (a1 : List Int) (r : Bool) (w : World) (hk0 : Ky.Key a0) (hk1 : Ky.Key a1) (h : impl_LessKey.f a0 a1 = some r) :
    Calls Try.prog 22 #[.agg (Ky.bs a0), .agg (Ky.bs a1)] w fun e w' => e = .returned (.bool r) ∧ Below w.heap.size w w' := by
  obtain ⟨hc, rfl⟩ := Ky.of_cond h
  exact Ky.implLess a0 a1 hk0 hk1 hc.1 hc.2 w

/-! ### impl_CommonBits: function 23 (by hand) -/
def impl_CommonBits.f (a0 : List Int) (a1 : List Int) : Option Int := if (∀ x ∈ a0, 0 ≤ x ∧ x ≤ 255) ∧ (∀ x ∈ a1, 0 ≤ x ∧ x ≤ 255) then some (((Ky.commonF a0 a1 : Nat) : Int)) else none
theorem impl_CommonBits.calls (a0 : List Int) (a1 : List Int) (r : Int) (w : World) (hk0 : Ky.Key a0) (hk1 : Ky.Key a1) (h : impl_CommonBits.f a0 a1 = some r) :
    Calls Try.prog 23 #[.agg (Ky.bs a0), .agg (Ky.bs a1)] w fun e w' => e = .returned (.int .i64 r) ∧ Below w.heap.size w w' := by
  obtain ⟨hc, rfl⟩ := Ky.of_cond h
  exact Ky.implCommon a0 a1 hk0 hk1 hc.1 hc.2 w

/-! ### spec_DrawNextKey: function 24 (by hand) -/
set_option maxHeartbeats 4000000 in
set_option maxRecDepth 100000 in
theorem spec_DrawNextKey.calls (HF : spec_l1Cur_key9.Fact) (A0 : Option Addr) (c0 : Nat) (l0 : List Int) (hU : ∀ x ∈ l0, 0 ≤ x ∧ x ≤ 255) (w : World) (hr0 : Kd.C (Kd.int .u8) w A0 l0.length l0) (hc0 : l0.length ≤ c0) :
    Calls Try.prog 24 #[.slice A0 l0.length c0] w fun e w' => ∃ l : List Int, e = .returned (.agg (Ky.bs l)) ∧ Below w.heap.size w w' ∧ spec_l1Cur_key9.Good l := by
  have HFF := Lib.hid HF
  have HU := Lib.hid hU
  have HR0 := Lib.hid hr0
  clear HF hU hr0 hc0
  obtain ⟨g2, hg2⟩ : ∃ x, x = w.heap.size := ⟨_, rfl⟩
  obtain ⟨W0, hW⟩ : ∃ W, W = (w).alloc (.cells (Ky.bs (List.replicate 16 0)) 26) := ⟨_, rfl⟩
  have HI : Hid (Lv.Inv w W0 [Lv.boxF g2 (Ky.bs (List.replicate 16 0)) 26]) := by
    subst hW hg2
    have := (Lv.Inv.refl w).box (Ky.bs (List.replicate 16 0)) 26
    exact Lib.hid (by simpa using this)
  go_enter Try.func24, Try.ntmps24
  go_upto_region 1 with (fail)
  rw [Ky.bs_zero]
  rw [← hW, ← hg2]
  clear hW hg2
  refine Fl.startL [.take 0, .take 1, .one 2, .take 3] (by decide) HI.out ?_
  refine Fl.take (some 4) (v := .slice A0 l0.length c0) rfl rfl (Or.inl ⟨by rfl, fun _ _ => by rfl⟩) ?_
  simp only [Act.put, Fl.z1, Fl.z2, Fl.z3]
  refine Fl.take (some 5) (v := .agg #[.slice A0 l0.length c0, .int .i64 0, .int .u64 0]) rfl rfl (Or.inl ⟨by rfl, fun _ _ => by first | rfl | (go_simp; done) | (go_simp; rfl) | (go_simp; simp only [i64_w])⟩) ?_
  simp only [Act.put, Fl.z1, Fl.z2, Fl.z3]
  refine spec_l1Cur_key9.boxed (N := 6) (cs := #[.slice A0 l0.length c0, .int .i64 0, .int .u64 0]) (t := 82) rfl rfl (by rfl) (fun w => by first | (go_simp; done) | (go_simp; rfl)) (fun gc => ?_)
  simp only [Act.put, Fl.z1, Fl.z2, Fl.z3]
  refine Fl.take (some 3) (v := .pointer (some ⟨gc, 0, none⟩)) rfl rfl (Or.inl ⟨by rfl, fun _ _ => by rfl⟩) ?_
  simp only [Act.put, Fl.z1, Fl.z2, Fl.z3]
  refine Fl.stop (fun W hi => ?_)
  replace HI := Lib.hid hi
  clear hi
  replace HI := Lib.hid (spec_l1Cur_key9.ofBox HI.out HR0.out)
  go_upto_region 2 with (fail)
  refine Fl.startW [.take 0, .one 1, .one 2] (by decide) HI.out ?_
  refine Fl.take (some 7) (v := .pointer (some ⟨gc, 0, none⟩)) rfl rfl (Or.inl ⟨by rfl, fun _ _ => by rfl⟩) ?_
  simp only [Act.put, Fl.z1, Fl.z2, Fl.z3]
  refine Fl.call (some 8) Try.func49 (by kernel_rfl) rfl #[.pointer (some ⟨gc, 0, none⟩)] rfl rfl rfl (by rfl) rfl (fun E2 W2 hE2 hi => ?_)
  refine (spec_l1Cur_key9.calls HFF.out l0 HU.out gc 0 0 (by decide) w W2 _ hi).mono ?_
  rintro e W' ⟨l, j, t, rfl, hg_, hj_, hi2⟩
  have HG := Lib.hid hg_
  have HJ_j := Lib.hid hj_
  refine Fl.keepI (F := []) (v := .agg (Ky.bs l)) (F' := [spec_l1Cur_key9.curF w gc l0 (j : Int) t, Lv.boxF g2 (Ky.bs (List.replicate 16 0)) 26]) hi2 ?_
  clear hi hi2 hE2 hg_ hj_
  simp only [Act.put, Fl.z1, Fl.z2, Fl.z3]
  refine Fl.store 1 (Ky.bs l) rfl rfl rfl rfl _ _ _ rfl rfl rfl (by rfl) (Ky.size_key HG.out.1 Ky.key0) (Ky.hKk HG.out.1) (Ky.bs_one _) ?_
  refine Fl.stopW (fun W hi => ?_)
  replace HI := Lib.hid hi
  clear hi
  go_wp2
  refine bodyPost_ret (v := .agg (Ky.bs l)) (results_cell_row rfl _ _ g2 26 (Ky.bs l) (0, 0) _ rfl (HI.out.blk 1 rfl) Try.underlying26 rfl (Ky.hKk HG.out.1)) rfl ?_
  first | exact ⟨l, rfl, HI.out.bel, HG.out⟩ | exact ⟨rfl, HI.out.bel, l, HG.out⟩

/-! ### laws_vCut: function 25 (by hand) -/
theorem laws_vCut.cutB (A : Option Addr) (n c m : Nat) (hm : m ≤ n) (W : World) : (Instr.slice 43 (.slice A n c) (some (.int .i64 (m : Int))) none none).run Try.prog W = .ok (.slice (if c = m then A else A.map (·.add (m * 1))) (n - m) (c - m)) W := by
  have h0 : (Try.prog.info? 5).map (·.size) = some 1 := by kernel_rfl
  obtain ⟨i, hi, hs⟩ := Option.map_eq_some_iff.1 h0
  have := cut_from (P := Try.prog) 43 5 .i64 Try.underlying43 hi 1 hs A n c (m : Int) (by omega) (by omega) W
  rw [Int.toNat_natCast] at this
  exact this
/-- Where a code is cut. -/
def laws_vCut.at (n : Nat) (a : Int) : Nat := if a > (n : Int) then n else a.toNat
def laws_vCut.f (l0 : List Int) (a1 : Int) : Option (List Int) := if 0 ≤ a1 ∧ l0.length ≤ 1048576 then some (l0.drop (laws_vCut.at l0.length a1) ++ [((laws_vCut.at l0.length a1 : Nat) : Int) % 256]) else none
set_option maxHeartbeats 4000000 in
set_option maxRecDepth 100000 in
theorem laws_vCut.calls (A0 : Option Addr) (c0 : Nat) (l0 : List Int) (a1 : Int) (r : List Int) (w : World) (hr0 : Kd.C (Kd.int .u8) w A0 l0.length l0) (hc0 : l0.length ≤ c0) (h : laws_vCut.f l0 a1 = some r) :
    Calls Try.prog 25 #[.slice A0 l0.length c0, .int .i64 a1] w fun e w' => ∃ v0_ : Value, e = .returned v0_ ∧ Kd.R (Kd.int .u8) 5 w' w.heap.size (fun _ => True) v0_ r ∧ Below w.heap.size w w' := by
  obtain ⟨⟨h0, hle⟩, hr⟩ := Ky.of_cond h
  clear h
  obtain ⟨k, hk⟩ : ∃ k, k = laws_vCut.at l0.length a1 := ⟨_, rfl⟩
  rw [← hk] at hr
  subst hr
  have hkl : k ≤ l0.length := by rw [hk]; unfold laws_vCut.at; split <;> omega
  have HR0 := Lib.hid hr0
  obtain ⟨Ak, hAk⟩ : ∃ X, X = (if c0 = k then A0 else A0.map (·.add (k * 1))) := ⟨_, rfl⟩
  have HCK : Hid (Kd.C (Kd.int .u8) w Ak (l0.length - k) (l0.drop k)) := Lib.hid (by have h_ := Kd.C_drop (m := k) hr0 hkl hc0; rw [List.length_drop] at h_; rw [hAk]; exact h_)
  have HCUT : Hid (∀ W, (Instr.slice 43 (.slice A0 l0.length c0) (some (.int .i64 (k : Int))) none none).run Try.prog W = .ok (.slice Ak (l0.length - k) (c0 - k)) W) := Lib.hid (fun W => by rw [hAk]; exact laws_vCut.cutB A0 l0.length c0 k hkl W)
  have HLE := Lib.hid hle
  have HKL := Lib.hid hkl
  have HI : Hid (Lv.Inv w w []) := Lib.hid (Lv.Inv.refl w)
  clear hr0 hc0 hle hkl hAk
  by_cases hg : a1 > (l0.length : Int)
  · have HG := Lib.hid hg
    have HK : Hid ((l0.length : Int) = (k : Int)) := Lib.hid (by rw [hk, laws_vCut.at, if_pos hg])
    clear hg hk
    go_enter Try.func25, Try.ntmps25
    go_upto_region 1 with (fail)
    refine Fl.startL [.take 0, .take 1, .take 2, .take 3] (by decide) HI.out ?_
    refine Fl.take (some 5) (v := .int .i64 a1) rfl rfl (Or.inl ⟨by rfl, fun _ _ => by rfl⟩) ?_
    simp only [Act.put, Fl.z1, Fl.z2, Fl.z3]
    refine Fl.take (some 6) (v := .slice A0 l0.length c0) rfl rfl (Or.inl ⟨by rfl, fun _ _ => by rfl⟩) ?_
    simp only [Act.put, Fl.z1, Fl.z2, Fl.z3]
    refine Fl.take (some 7) (v := .int .i64 (l0.length : Int)) rfl rfl (Or.inl ⟨by rfl, fun _ _ => by first | rfl | (go_simp; done) | (go_simp; rfl) | (go_simp; omega)⟩) ?_
    simp only [Act.put, Fl.z1, Fl.z2, Fl.z3]
    refine Fl.take (some 8) (v := .bool true) rfl rfl (Or.inl ⟨by rfl, fun _ _ => by have h_ := eq_true HG.out; first | (go_simp; done) | (go_simp; rfl) | (go_simp; omega)⟩) ?_
    simp only [Act.put, Fl.z1, Fl.z2, Fl.z3]
    refine Fl.stop (fun W hi => ?_)
    replace HI := Lib.hid hi
    clear hi
    go_upto_region 2 with (fail)
    refine Fl.startL [.take 0, .take 1, .take 2] (by decide) HI.out ?_
    refine Fl.take (some 9) (v := .slice A0 l0.length c0) rfl rfl (Or.inl ⟨by rfl, fun _ _ => by rfl⟩) ?_
    simp only [Act.put, Fl.z1, Fl.z2, Fl.z3]
    refine Fl.take (some 10) (v := .int .i64 (k : Int)) rfl rfl (Or.inl ⟨by rfl, fun _ _ => by rw [← HK.out]; first | rfl | (go_simp; done) | (go_simp; rfl)⟩) ?_
    simp only [Act.put, Fl.z1, Fl.z2, Fl.z3]
    refine Fl.take (some 1) (v := .int .i64 (k : Int)) rfl rfl (Or.inl ⟨by rfl, fun _ _ => by rfl⟩) ?_
    simp only [Act.put, Fl.z1, Fl.z2, Fl.z3]
    refine Fl.stop (fun W hi => ?_)
    replace HI := Lib.hid hi
    clear hi
    go_upto_region 3 with (fail)
    refine Rg.startL (S := fun W => Lv.Inv w W []) [.one 0, .take 1, .take 2, .take 3, .one 4, .take 5, .take 6, .one 7, .one 8, .take 9] (by decide) HI.out ?_
    refine Fl.seq_app (Ps := []) (r2 := [.one 7, .one 8, .take 9]) [.one 0, .take 1, .take 2, .take 3, .one 4, .take 5, .take 6] [] _ _ ?_ HI.out
    refine Fl.lit0 (Kd.int .u8) (e := 5) (N := 11) rfl rfl (by rfl) (fun W => by first | (go_simp; done) | (go_simp; rfl)) (fun v0 => ?_)
    simp only [Act.put, Fl.z1, Fl.z2, Fl.z3]
    refine Fl.take (some 12) (v := .slice A0 l0.length c0) rfl rfl (Or.inl ⟨by rfl, fun _ _ => by rfl⟩) ?_
    simp only [Act.put, Fl.z1, Fl.z2, Fl.z3]
    refine Fl.take (some 13) (v := .int .i64 (k : Int)) rfl rfl (Or.inl ⟨by rfl, fun _ _ => by rfl⟩) ?_
    simp only [Act.put, Fl.z1, Fl.z2, Fl.z3]
    refine Fl.take (some 14) (v := .slice Ak (l0.length - k) (c0 - k)) rfl rfl (Fl.yields_cut (by rfl) _ _ _ _ _ rfl Try.underlying43 (by exact HCUT.out)) ?_
    simp only [Act.put, Fl.z1, Fl.z2, Fl.z3]
    refine Fl.appRows (N := 15) (bytes := 1) (z := .int .u8 0) (ys := l0.drop k) (fun _ _ _ _ hk => hk) rfl rfl (by rfl) rfl Try.underlying43 (by kernel_rfl) rfl (by decide) (by decide) rfl rfl (by have := HLE.out; simp; omega) (fun W hb => Kd.C_below HCK.out hb) (fun v1 => ?_)
    simp only [Act.put, Fl.z1, Fl.z2, Fl.z3]
    refine Fl.take (some 16) (v := .int .i64 (k : Int)) rfl rfl (Or.inl ⟨by rfl, fun _ _ => by rfl⟩) ?_
    simp only [Act.put, Fl.z1, Fl.z2, Fl.z3]
    refine Fl.take (some 17) (v := .int .u8 ((k : Int) % 256)) rfl rfl (Or.inl ⟨by rfl, fun _ _ => by first | (go_simp; done) | (go_simp; rfl)⟩) ?_
    simp only [Act.put, Fl.z1, Fl.z2, Fl.z3]
    intro W hi
    clear HI
    refine Fl.seqAppend (d := Kd.int .u8) (e := 5) (t := 43) (bytes := 1) (z := .int .u8 0) (p := (k : Int) % 256) (cs := [.int .u8 ((k : Int) % 256)]) (Ps := []) hi rfl rfl (by rfl) (fun W => by first | (go_simp; done) | (go_simp; rfl)) rfl rfl (fun _ => by rfl) rfl Try.underlying43 (by kernel_rfl) rfl (by decide) (by decide) (fun _ => rfl) (fun _ => rfl) (fun W base => rfl) (by have := HLE.out; simp; omega) (fun u v2 w1 hi => ?_)
    simp only [Act.put, Fl.z1, Fl.z2, Fl.z3]
    have HI := Lib.hid hi
    clear hi
    refine Rg.take (some 4) (v := v2) rfl rfl (Or.inl ⟨by rfl, fun _ _ => by rfl⟩) ?_
    simp only [Act.put, Fl.z1, Fl.z2, Fl.z3]
    refine Rg.doneL ?_
    go_wp2
    go_ret
    obtain ⟨S, _, hR⟩ := HI.out.get 0 rfl
    exact ⟨_, rfl, Kd.R_mono hR (fun _ _ => trivial), HI.out.bel⟩
  · obtain rfl : a1 = (k : Int) := by rw [hk, laws_vCut.at, if_neg hg]; omega
    have HG := Lib.hid hg
    clear hg hk h0
    go_enter Try.func25, Try.ntmps25
    go_upto_region 1 with (fail)
    refine Fl.startL [.take 0, .take 1, .take 2, .take 3] (by decide) HI.out ?_
    refine Fl.take (some 5) (v := .int .i64 (k : Int)) rfl rfl (Or.inl ⟨by rfl, fun _ _ => by rfl⟩) ?_
    simp only [Act.put, Fl.z1, Fl.z2, Fl.z3]
    refine Fl.take (some 6) (v := .slice A0 l0.length c0) rfl rfl (Or.inl ⟨by rfl, fun _ _ => by rfl⟩) ?_
    simp only [Act.put, Fl.z1, Fl.z2, Fl.z3]
    refine Fl.take (some 7) (v := .int .i64 (l0.length : Int)) rfl rfl (Or.inl ⟨by rfl, fun _ _ => by first | rfl | (go_simp; done) | (go_simp; rfl) | (go_simp; omega)⟩) ?_
    simp only [Act.put, Fl.z1, Fl.z2, Fl.z3]
    refine Fl.take (some 8) (v := .bool false) rfl rfl (Or.inl ⟨by rfl, fun _ _ => by have h_ := eq_false HG.out; first | (go_simp; done) | (go_simp; rfl) | (go_simp; omega)⟩) ?_
    simp only [Act.put, Fl.z1, Fl.z2, Fl.z3]
    refine Fl.stop (fun W hi => ?_)
    replace HI := Lib.hid hi
    clear hi
    go_upto_region 3 with (fail)
    refine Rg.startL (S := fun W => Lv.Inv w W []) [.one 0, .take 1, .take 2, .take 3, .one 4, .take 5, .take 6, .one 7, .one 8, .take 9] (by decide) HI.out ?_
    refine Fl.seq_app (Ps := []) (r2 := [.one 7, .one 8, .take 9]) [.one 0, .take 1, .take 2, .take 3, .one 4, .take 5, .take 6] [] _ _ ?_ HI.out
    refine Fl.lit0 (Kd.int .u8) (e := 5) (N := 11) rfl rfl (by rfl) (fun W => by first | (go_simp; done) | (go_simp; rfl)) (fun v0 => ?_)
    simp only [Act.put, Fl.z1, Fl.z2, Fl.z3]
    refine Fl.take (some 12) (v := .slice A0 l0.length c0) rfl rfl (Or.inl ⟨by rfl, fun _ _ => by rfl⟩) ?_
    simp only [Act.put, Fl.z1, Fl.z2, Fl.z3]
    refine Fl.take (some 13) (v := .int .i64 (k : Int)) rfl rfl (Or.inl ⟨by rfl, fun _ _ => by rfl⟩) ?_
    simp only [Act.put, Fl.z1, Fl.z2, Fl.z3]
    refine Fl.take (some 14) (v := .slice Ak (l0.length - k) (c0 - k)) rfl rfl (Fl.yields_cut (by rfl) _ _ _ _ _ rfl Try.underlying43 (by exact HCUT.out)) ?_
    simp only [Act.put, Fl.z1, Fl.z2, Fl.z3]
    refine Fl.appRows (N := 15) (bytes := 1) (z := .int .u8 0) (ys := l0.drop k) (fun _ _ _ _ hk => hk) rfl rfl (by rfl) rfl Try.underlying43 (by kernel_rfl) rfl (by decide) (by decide) rfl rfl (by have := HLE.out; simp; omega) (fun W hb => Kd.C_below HCK.out hb) (fun v1 => ?_)
    simp only [Act.put, Fl.z1, Fl.z2, Fl.z3]
    refine Fl.take (some 16) (v := .int .i64 (k : Int)) rfl rfl (Or.inl ⟨by rfl, fun _ _ => by rfl⟩) ?_
    simp only [Act.put, Fl.z1, Fl.z2, Fl.z3]
    refine Fl.take (some 17) (v := .int .u8 ((k : Int) % 256)) rfl rfl (Or.inl ⟨by rfl, fun _ _ => by first | (go_simp; done) | (go_simp; rfl)⟩) ?_
    simp only [Act.put, Fl.z1, Fl.z2, Fl.z3]
    intro W hi
    clear HI
    refine Fl.seqAppend (d := Kd.int .u8) (e := 5) (t := 43) (bytes := 1) (z := .int .u8 0) (p := (k : Int) % 256) (cs := [.int .u8 ((k : Int) % 256)]) (Ps := []) hi rfl rfl (by rfl) (fun W => by first | (go_simp; done) | (go_simp; rfl)) rfl rfl (fun _ => by rfl) rfl Try.underlying43 (by kernel_rfl) rfl (by decide) (by decide) (fun _ => rfl) (fun _ => rfl) (fun W base => rfl) (by have := HLE.out; simp; omega) (fun u v2 w1 hi => ?_)
    simp only [Act.put, Fl.z1, Fl.z2, Fl.z3]
    have HI := Lib.hid hi
    clear hi
    refine Rg.take (some 4) (v := v2) rfl rfl (Or.inl ⟨by rfl, fun _ _ => by rfl⟩) ?_
    simp only [Act.put, Fl.z1, Fl.z2, Fl.z3]
    refine Rg.doneL ?_
    go_wp2
    go_ret
    obtain ⟨S, _, hR⟩ := HI.out.get 0 rfl
    exact ⟨_, rfl, Kd.R_mono hR (fun _ _ => trivial), HI.out.bel⟩

/-! ### impl_NextKey: function 26 (by hand) -/
theorem impl_NextKey.len : ∀ (k : Nat) (l m : List Int), Ky.nextF k l = some m → m.length = l.length
  | 0, l, m, h => by rw [Ky.nextF] at h; cases h
  | k + 1, l, m, h => by
    rw [Ky.nextF] at h
    split at h
    · obtain rfl := Option.some.inj h; simp
    · rw [impl_NextKey.len k _ _ h]; simp
def impl_NextKey.f (a0 : List Int) : Option (List Int × Bool) := if (∀ x ∈ a0, 0 ≤ x ∧ x ≤ 255) then some ((Ky.nextF 16 a0).getD (List.replicate 16 0), (Ky.nextF 16 a0).isSome) else none
theorem impl_NextKey.calls (a0 : List Int) (r1 : List Int) (r2 : Bool) (w : World) (hk0 : Ky.Key a0) (h : impl_NextKey.f a0 = some (r1, r2)) :
    Calls Try.prog 26 #[.agg (Ky.bs a0)] w fun e w' => e = .returned (.tuple #[.agg (Ky.bs r1), .bool r2]) ∧ Below w.heap.size w w' ∧ Ky.Key r1 := by
  obtain ⟨hc, h⟩ := Ky.of_cond h
  obtain ⟨rfl, rfl⟩ := Prod.mk.inj h
  refine (Ky.implNext a0 hk0 hc w).mono ?_
  rintro e w' ⟨rfl, hb⟩
  cases hn : Ky.nextF 16 a0 with
  | some l => exact ⟨by rw [Ky.nextR_some hn]; rfl, hb, (impl_NextKey.len 16 a0 l hn).trans hk0⟩
  | none => exact ⟨by rw [Ky.nextR_none hn]; rfl, hb, by simp [Ky.Key]⟩

/-! ### spec_NextKey: function 27 (by hand) -/
theorem spec_NextKey.len : ∀ (k : Nat) (l m : List Int), Ky.nextF k l = some m → m.length = l.length
  | 0, l, m, h => by rw [Ky.nextF] at h; cases h
  | k + 1, l, m, h => by
    rw [Ky.nextF] at h
    split at h
    · obtain rfl := Option.some.inj h; simp
    · rw [spec_NextKey.len k _ _ h]; simp
def spec_NextKey.f (a0 : List Int) : Option (List Int × Bool) := if (∀ x ∈ a0, 0 ≤ x ∧ x ≤ 255) then some ((Ky.nextF 16 a0).getD (List.replicate 16 0), (Ky.nextF 16 a0).isSome) else none
theorem spec_NextKey.calls (a0 : List Int) (r1 : List Int) (r2 : Bool) (w : World) (hk0 : Ky.Key a0) (h : spec_NextKey.f a0 = some (r1, r2)) :
    Calls Try.prog 27 #[.agg (Ky.bs a0)] w fun e w' => e = .returned (.tuple #[.agg (Ky.bs r1), .bool r2]) ∧ Below w.heap.size w w' ∧ Ky.Key r1 := by
  obtain ⟨hc, h⟩ := Ky.of_cond h
  obtain ⟨rfl, rfl⟩ := Prod.mk.inj h
  refine (Ky.specNext a0 hk0 hc w).mono ?_
  rintro e w' ⟨rfl, hb⟩
  cases hn : Ky.nextF 16 a0 with
  | some l => exact ⟨by rw [Ky.nextR_some hn]; rfl, hb, (spec_NextKey.len 16 a0 l hn).trans hk0⟩
  | none => exact ⟨by rw [Ky.nextR_none hn]; rfl, hb, by simp [Ky.Key]⟩

end Go.Proofs.Ytkifenbcepicjaa.PFnKeys
