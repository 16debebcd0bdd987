/- What is proved here: each Go function that is named below answers, and leaves memory, as the theorem of its name says; no condition beyond those that each theorem states. Laid by this session's own program (wip/driver.py) over the kit's print. -/
import Derived.Test.YtkifenbcepicjabPFnGrowthx0
import Derived.Test.YtkifenbcepicjabPFnGrowthx2
import Derived.Test.YtkifenbcepicjabPFnGrowthx3
import Derived.Test.YtkifenbcepicjabPFnGrowthx4
namespace Go.Proofs.Ytkifenbcepicjab.PFnGrowth
open Go.RowKit Go.Proofs.YtkifenbcepicjabW.PrintWords Go.Proofs.YtkifenbcepicjabW.PrintLast Go.Proofs.YtkifenbcepicjabW.PrintMore
attribute [local go_sem] max2_int min2_int max_two min_two max_three min_three max_four min_four   -- for this text's walks alone
set_option linter.unusedVariables false
set_option linter.unusedSimpArgs false

open Go.Proofs.Ytkifenbcepicjab.Cp
/-! ### laws_rInts: function 29 -/
def laws_rInts.l0 : Nat → List Int → List Int → Int → Option (Bool)
 | 0, _, _, _ => none
 | k + 1, x0, x1, x5 => if x5 < (x0.length : Int) then (if 0 ≤ x5 then (if x5 < (x1.length : Int) then (if (rd x0 x5) = (rd x1 x5) then (laws_rInts.l0 k x0 x1 (wrap64 (x5 + 1))) else (some false)) else (none)) else (none)) else (some true)
def laws_rInts.f (k : Nat) (l0 : List Int) (l1 : List Int) : Option (Bool) := if (l0.length : Int) = (l1.length : Int) then (laws_rInts.l0 k l0 l1 0) else (some false)
theorem laws_rInts.mono_l : ∀ k, (∀ y0 y1 y2, LeO (laws_rInts.l0 k y0 y1 y2) (laws_rInts.l0 (k + 1) y0 y1 y2))
 | 0 => fun _ _ _ r h => by simp [laws_rInts.l0] at h
 | k + 1 => by
  have ih0 := laws_rInts.mono_l k
  ·intro y0 y1 y2
   unfold laws_rInts.l0
   repeat' first
   | (with_reducible exact ih0 _ _ _)
   | (with_reducible exact LeO.refl _)
   | (with_reducible exact LeO.none _)
   | (with_reducible refine LeO.ite ?_ ?_)
   | (with_reducible refine LeO.bind ?_ (fun _ => ?_))
   | exact ih0 _ _ _
   | exact LeO.none _
   | refine LeO.ite ?_ ?_
   | refine LeO.bind ?_ (fun _ => ?_)
theorem laws_rInts.mono : ∀ a0 a1 k, LeO (laws_rInts.f k a0 a1) (laws_rInts.f (k + 1) a0 a1) := by
 intro a0 a1 k
 have ih0 := laws_rInts.mono_l k
 unfold laws_rInts.f
 repeat' first
   | (with_reducible exact ih0 _ _ _)
   | (with_reducible exact LeO.refl _)
   | (with_reducible exact LeO.none _)
   | (with_reducible refine LeO.ite ?_ ?_)
   | (with_reducible refine LeO.bind ?_ (fun _ => ?_))
   | exact ih0 _ _ _
   | exact LeO.none _
   | refine LeO.ite ?_ ?_
   | refine LeO.bind ?_ (fun _ => ?_)
set_option maxHeartbeats 8000000 in
set_option maxRecDepth 100000 in
theorem laws_rInts.calls (k : Nat) (A0 : Option Addr) (c0 : Nat) (l0 : List Int) (A1 : Option Addr) (c1 : Nat) (l1 : List Int) (r : Bool) (w : World) (hr0 : Kd.C (Kd.int .i64) w A0 l0.length l0) (hc0 : l0.length ≤ c0) (hr1 : Kd.C (Kd.int .i64) w A1 l1.length l1) (hc1 : l1.length ≤ c1) (h : laws_rInts.f k l0 l1 = some r) :
  Calls Try.prog 29 #[.slice A0 l0.length c0, .slice A1 l1.length c1] w fun e w' => e = .returned (.bool r) ∧ Drawn0 w w' := by
 have HR0 := Aside0.mk hr0
 have HC0 := Aside0.mk hc0
 clear hr0 hc0
 have HR1 := Aside0.mk hr1
 have HC1 := Aside0.mk hc1
 clear hr1 hc1
 have H : (if (l0.length : Int) = (l1.length : Int) then (laws_rInts.l0 k l0 l1 0) else (some false)) = some r := h
 clear h
 by_cases c3 : (l0.length : Int) = (l1.length : Int)
 ·rw [if_pos c3] at H
  have c3b0 : ((l0.length : Int) == (l1.length : Int)) = true := beq_iff_eq.mpr c3
  have c3b1 : ((l0.length : Int) != (l1.length : Int)) = false := bne_eq_false_iff_eq.mpr c3
  have c3b2 : (l0.length == l1.length) = true := by first | simpa using c3 | (simp at c3 ⊢; omega)
  clear c3
  have H' := Aside0.mk H
  clear H
  go_enter Try.func29, Try.ntmps29
  go_wp2
  repeat (go_quiet (fail); try go_wp2)
  go_loopg [5] k (fun kq v5 w' => ∃ (x5_1 : Int), v5 = .int .i64 x5_1 ∧ Aside0 (laws_rInts.l0 kq l0 l1 x5_1 = some r) ∧ Aside0 (kq ≤ k) ∧ Drawn0 w w')
  case atStart => exact ⟨(0), zfs, H', ⟨Nat.le_refl _⟩, by repeat (first | exact Drawn0.refl _ | apply Drawn0.step)⟩
  case round =>
   clear H'
   try clear c1
   try clear c2
   try clear p2
   try clear c3
   try clear c3b0
   try clear c3b1
   try clear c3b2
   obtain ⟨x5_1, rfl, HA, HK1, ⟨m1, rfl⟩⟩ := hrel
   cases gk with
   | zero => exact absurd HA.out (by simp [laws_rInts.l0])
   | succ k1 =>
    have H := HA.out
    clear HA
    simp only [laws_rInts.l0] at H
    by_cases c4 : x5_1 < (l0.length : Int)
    ·rw [if_pos c4] at H
     have c4b0 : decide (x5_1 < (l0.length : Int)) = true := decide_eq_true c4
     clear c4
     by_cases c5 : 0 ≤ x5_1
     ·rw [if_pos c5] at H
      have c5b0 : decide (0 ≤ x5_1) = true := decide_eq_true c5
      clear c5
      by_cases c6 : x5_1 < (l1.length : Int)
      ·rw [if_pos c6] at H
       have c6b0 : decide (x5_1 < (l1.length : Int)) = true := decide_eq_true c6
       clear c6
       by_cases c7 : (rd l0 x5_1) = (rd l1 x5_1)
       ·rw [if_pos c7] at H
        have c7b0 : ((rd l0 x5_1) == (rd l1 x5_1)) = true := beq_iff_eq.mpr c7
        have c7b1 : ((rd l0 x5_1) != (rd l1 x5_1)) = false := bne_eq_false_iff_eq.mpr c7
        clear c7
        have H' := Aside0.mk H
        clear H
        have p252 : 0 ≤ (x5_1 : Int) := zod
        have q252 : x5_1 < (l0.length : Int) := zod
        obtain ⟨ad252, e252, hx252_0⟩ := Kd.at_int HR0.out x5_1 p252 q252
        cases e252
        replace p252 := eq_true p252
        replace q252 := eq_true q252
        have p253 : 0 ≤ (x5_1 : Int) := zod
        have q253 : x5_1 < (l1.length : Int) := zod
        obtain ⟨ad253, e253, hx253_0⟩ := Kd.at_int HR1.out x5_1 p253 q253
        cases e253
        replace p253 := eq_true p253
        replace q253 := eq_true q253
        go_wp2
        repeat (go_quiet (fail); try go_wp2)
        go_roundg k1
        case measure => have := HK1.out; omega
        case rel => exact ⟨(wrap64 (x5_1 + 1)), zfs, H', ⟨by have := HK1.out; omega⟩, by repeat (first | exact Drawn0.refl _ | apply Drawn0.step)⟩
       ·rw [if_neg c7] at H
        have c7b0 : ((rd l0 x5_1) == (rd l1 x5_1)) = false := beq_eq_false_iff_ne.mpr c7
        have c7b1 : ((rd l0 x5_1) != (rd l1 x5_1)) = true := bne_iff_ne.mpr c7
        obtain rfl := Option.some.inj H
        have p252 : 0 ≤ (x5_1 : Int) := zod
        have q252 : x5_1 < (l0.length : Int) := zod
        obtain ⟨ad252, e252, hx252_0⟩ := Kd.at_int HR0.out x5_1 p252 q252
        cases e252
        replace p252 := eq_true p252
        replace q252 := eq_true q252
        have p253 : 0 ≤ (x5_1 : Int) := zod
        have q253 : x5_1 < (l1.length : Int) := zod
        obtain ⟨ad253, e253, hx253_0⟩ := Kd.at_int HR1.out x5_1 p253 q253
        cases e253
        replace p253 := eq_true p253
        replace q253 := eq_true q253
        go_wp2
        repeat (go_quiet (fail); try go_wp2)
        go_ret
        exact ⟨zfs, by repeat (first | exact Drawn0.refl _ | apply Drawn0.step)⟩
      ·rw [if_neg c6] at H
       exact absurd H (by simp)
     ·rw [if_neg c5] at H
      exact absurd H (by simp)
    ·rw [if_neg c4] at H
     have c4b0 : decide (x5_1 < (l0.length : Int)) = false := decide_eq_false c4
     clear c4
     obtain rfl := Option.some.inj H
     go_wp2
     repeat (go_quiet (fail); try go_wp2)
     go_ret
     exact ⟨zfs, by repeat (first | exact Drawn0.refl _ | apply Drawn0.step)⟩
 ·rw [if_neg c3] at H
  have c3b0 : ((l0.length : Int) == (l1.length : Int)) = false := beq_eq_false_iff_ne.mpr c3
  have c3b1 : ((l0.length : Int) != (l1.length : Int)) = true := bne_iff_ne.mpr c3
  have c3b2 : (l0.length == l1.length) = false := by first | simpa using c3 | (simp at c3 ⊢; omega)
  obtain rfl := Option.some.inj H
  go_enter Try.func29, Try.ntmps29
  go_wp2
  repeat (go_quiet (fail); try go_wp2)
  go_ret
  exact ⟨zfs, by repeat (first | exact Drawn0.refl _ | apply Drawn0.step)⟩

/-! ### impl_MovesOf: function 30 (by hand) -/
def impl_MovesOf.f (a0_0 a0_1 a0_2 : Int) (l1 : List Int) : Option (Int × Bool) := some ((impl_appends.lastF (impl_appends.allF a0_0 a0_1 a0_2 l1)).2.2.1, (impl_appends.allF a0_0 a0_1 a0_2 l1).isSome)
set_option maxHeartbeats 4000000 in
set_option maxRecDepth 100000 in
theorem impl_MovesOf.clos (s : Int × Int × Int × Int) (W : World) : Calls Try.prog 79 #[.agg (impl_store_grow.cs s)] W fun e w' => e = .returned (.tuple #[]) ∧ Below W.heap.size W w' := by
  have hu := Try.underlying110
  go_enter Try.func79, Try.ntmps79
  go_wp2
  first | (exact bodyPost_ret (results_none rfl _ _ _) rfl ⟨rfl, below_alloc (Below.refl _ _) _⟩) | exact ⟨rfl, results_none rfl _ _ _, rfl, below_alloc (Below.refl _ _) _⟩ | exact ⟨rfl, _, results_none rfl _ _ _, rfl, below_alloc (Below.refl _ _) _⟩
set_option maxHeartbeats 4000000 in
set_option maxRecDepth 100000 in
theorem impl_MovesOf.calls (a0_0 a0_1 a0_2 : Int) (A1 : Option Addr) (c1 : Nat) (l1 : List Int) (r1 : Int) (r2 : Bool) (w : World) (hr1 : Kd.C (Kd.int .i64) w A1 l1.length l1) (hc1 : l1.length ≤ c1) (h : impl_MovesOf.f a0_0 a0_1 a0_2 l1 = some (r1, r2)) :
    Calls Try.prog 30 #[.agg #[.int .i64 a0_0, .int .i64 a0_1, .int .i64 a0_2], .slice A1 l1.length c1] w fun e w' => e = .returned (.tuple #[.int .i64 r1, .bool r2]) ∧ Below w.heap.size w w' := by
  have HR1 := Lib.hid hr1
  obtain ⟨n, hn⟩ : ∃ n, n = l1.length := ⟨_, rfl⟩
  have HN := Lib.hid hn
  obtain ⟨sl, hsl⟩ : ∃ s, s = impl_appends.lastF (impl_appends.allF a0_0 a0_1 a0_2 l1) := ⟨_, rfl⟩
  obtain ⟨q, hq⟩ : ∃ q, q = (impl_appends.allF a0_0 a0_1 a0_2 l1).isSome := ⟨_, rfl⟩
  have HSL := Lib.hid hsl
  have HQQ := Lib.hid hq
  unfold impl_MovesOf.f at h
  rw [← hsl, ← hq] at h
  obtain ⟨rfl, rfl⟩ := Prod.mk.inj (Option.some.inj h)
  rw [← hn]
  clear h hsl hr1 hc1 hn
  have EG := Lib.hid (show ∀ args w, (callFunc 79 args).run Try.prog w = .ok (.enter 79 args) w from Opn.entered Try.func79 (by kernel_rfl) rfl)
  obtain ⟨gb, hgb⟩ : ∃ g, g = w.heap.size := ⟨_, rfl⟩
  obtain ⟨W0, hW⟩ : ∃ W, W = w.alloc (.cells #[.int .i64 a0_0, .int .i64 a0_1, .int .i64 a0_2] 60) := ⟨_, rfl⟩
  have HI : Hid (Lv.Inv w W0 [Lv.boxF gb #[.int .i64 a0_0, .int .i64 a0_1, .int .i64 a0_2] 60]) := by
    subst hW hgb
    exact Lib.hid ((Lv.Inv.refl w).box #[.int .i64 a0_0, .int .i64 a0_1, .int .i64 a0_2] 60)
  go_enter Try.func30, Try.ntmps30
  go_upto_region 1 with (fail)
  rw [← hW, ← hgb]
  clear hW hgb
  refine Fl.startW [.one 0, .take 1, .one 2, .take 3, .take 4, .take 5, .one 6, .one 7, .take 8] (by decide) HI.out ?_
  refine Fl.ldF (some 9) 0 rfl rfl rfl (by rfl) _ _ rfl rfl Try.underlying60 rfl (by kernel_rfl) ?_
  simp only [Act.put, Fl.z1, Fl.z2, Fl.z3]
  refine Fl.take (some 10) (v := .slice A1 n c1) rfl rfl (Or.inl ⟨by rfl, fun _ _ => by rfl⟩) ?_
  simp only [Act.put, Fl.z1, Fl.z2, Fl.z3]
  refine Fl.call (some 11) Try.func76 (by kernel_rfl) rfl #[.agg #[.int .i64 a0_0, .int .i64 a0_1, .int .i64 a0_2], .slice A1 n c1, .func (.func 79) #[] #[]] rfl rfl rfl (by rfl) rfl (fun E2 W2 hE2 hi => ?_)
  have hc_ := impl_appends.run a0_0 a0_1 a0_2 A1 c1 l1 79 #[] w W2 (fun _ _ => []) (Lv.boxF gb #[.int .i64 a0_0, .int .i64 a0_1, .int .i64 a0_2] 60 :: E2) (.bool false) EG.out (fun acc s v E W hs hl hj => by rw [Array.append_empty]; exact (impl_MovesOf.clos s W).mono (fun e w' hh => ⟨hh.1, .bool false, hj.below hh.2⟩)) hi HR1.out
  rw [← HN.out, ← HSL.out, ← HQQ.out] at hc_
  refine hc_.mono ?_
  rintro e W' ⟨rfl, acc, v2, hi2, hac⟩
  have HAC := Lib.hid hac
  refine Fl.keepI (F := []) (v := .tuple #[.agg (impl_store_grow.cs sl), .bool q]) (F' := [Lv.boxF gb #[.int .i64 a0_0, .int .i64 a0_1, .int .i64 a0_2] 60]) hi2 ?_
  clear hi hi2 hE2 hc_ hac
  simp only [Act.put, Fl.z1, Fl.z2, Fl.z3]
  refine Fl.take (some 8) (v := .tuple #[.agg (impl_store_grow.cs sl), .bool q]) rfl rfl (Or.inl ⟨by rfl, fun _ _ => by rfl⟩) ?_
  simp only [Act.put, Fl.z1, Fl.z2, Fl.z3]
  refine Fl.take (some 12) (v := .agg (impl_store_grow.cs sl)) rfl rfl (Or.inl ⟨by rfl, fun _ _ => by rfl⟩) ?_
  simp only [Act.put, Fl.z1, Fl.z2, Fl.z3]
  refine Fl.take (some 13) (v := .bool q) rfl rfl (Or.inl ⟨by rfl, fun _ _ => by rfl⟩) ?_
  simp only [Act.put, Fl.z1, Fl.z2, Fl.z3]
  refine Fl.var (N := 6) (cs := #[.int .i64 0, .int .i64 0, .int .i64 0, .int .i64 0]) (t := 110) ⟨_, rfl, rfl, fun _ => rfl, fun e w => by first | (go_simp; done) | (go_simp; rfl)⟩ (fun gs => ?_)
  simp only [Act.put, Fl.z1, Fl.z2, Fl.z3]
  refine Fl.store 0 (impl_store_grow.cs sl) rfl rfl rfl rfl _ _ _ rfl rfl rfl (by rfl) rfl (by kernel_rfl) (by simp [Value.oneCell']) ?_
  refine Fl.take (some 7) (v := .bool q) rfl rfl (Or.inl ⟨by rfl, fun _ _ => by rfl⟩) ?_
  simp only [Act.put, Fl.z1, Fl.z2, Fl.z3]
  refine Fl.stopW (fun W hi => ?_)
  replace HI := Lib.hid hi
  clear hi
  go_upto_region 2 with (fail)
  refine Fl.startL [.take 0, .take 1, .take 2, .take 3, .take 4] (by decide) HI.out ?_
  refine Fl.take (some 14) (v := .pointer (some ⟨gs, 2, none⟩)) rfl rfl (Or.inl ⟨by rfl, fun _ _ => by first | rfl | (go_simp; done) | (go_simp; rfl) | (go_simp; omega)⟩) ?_
  simp only [Act.put, Fl.z1, Fl.z2, Fl.z3]
  refine Fl.take (some 15) (v := .int .i64 sl.2.2.1) rfl rfl (Fl.ldc 0 2 rfl (by rfl) _ _ rfl rfl rfl Try.underlying3 rfl) ?_
  simp only [Act.put, Fl.z1, Fl.z2, Fl.z3]
  refine Fl.take (some 16) (v := .bool q) rfl rfl (Or.inl ⟨by rfl, fun _ _ => by rfl⟩) ?_
  simp only [Act.put, Fl.z1, Fl.z2, Fl.z3]
  refine Fl.take (some 4) (v := .int .i64 sl.2.2.1) rfl rfl (Or.inl ⟨by rfl, fun _ _ => by rfl⟩) ?_
  simp only [Act.put, Fl.z1, Fl.z2, Fl.z3]
  refine Fl.take (some 5) (v := .bool q) rfl rfl (Or.inl ⟨by rfl, fun _ _ => by rfl⟩) ?_
  simp only [Act.put, Fl.z1, Fl.z2, Fl.z3]
  refine Fl.stop (fun W hi => ?_)
  replace HI := Lib.hid hi
  clear hi
  go_wp2
  go_ret2
  exact ⟨rfl, HI.out.bel⟩

open Go.Proofs.Ytkifenbcepicjab.Cp
/-! ### spec_MovesOf: function 31 -/
def spec_MovesOf.f (k : Nat) (a0_0 : Int) (a0_1 : Int) (a0_2 : Int) (l1 : List Int) : Option (Int × Bool) := (spec_l4All.f k a0_0 a0_1 a0_2 0 l1).bind fun bt255 => (some (bt255.2.1, bt255.2.2.2.2.2.2))
theorem spec_MovesOf.mono : ∀ a0 a1 a2 a3 k, LeO (spec_MovesOf.f k a0 a1 a2 a3) (spec_MovesOf.f (k + 1) a0 a1 a2 a3) := by
 intro a0 a1 a2 a3 k
 unfold spec_MovesOf.f
 repeat' first
   | (with_reducible exact spec_l4All.mono _ _ _ _ _ _)
   | (with_reducible exact LeO.refl _)
   | (with_reducible exact LeO.none _)
   | (with_reducible refine LeO.ite ?_ ?_)
   | (with_reducible refine LeO.bind ?_ (fun _ => ?_))
   | exact spec_l4All.mono _ _ _ _ _ _
   | exact LeO.none _
   | refine LeO.ite ?_ ?_
   | refine LeO.bind ?_ (fun _ => ?_)
set_option maxHeartbeats 8000000 in
set_option maxRecDepth 100000 in
theorem spec_MovesOf.calls (k : Nat) (a0_0 : Int) (a0_1 : Int) (a0_2 : Int) (A1 : Option Addr) (c1 : Nat) (l1 : List Int) (r1 : Int) (r2 : Bool) (w : World) (hr1 : Kd.C (Kd.int .i64) w A1 l1.length l1) (hc1 : l1.length ≤ c1) (h : spec_MovesOf.f k a0_0 a0_1 a0_2 l1 = some (r1, r2)) :
  Calls Try.prog 31 #[.agg #[.int .i64 a0_0, .int .i64 a0_1, .int .i64 a0_2], .slice A1 l1.length c1] w fun e w' => e = .returned (.tuple #[.int .i64 r1, .bool r2]) ∧ Below w.heap.size w w' := by
 have hu60 := Try.underlying60
 have hu115 := Try.underlying115
 have HR1 := Aside0.mk hr1
 have HC1 := Aside0.mk hc1
 clear hr1 hc1
 have HB := Aside0.mk (Below.refl w.heap.size w)
 have H : ((spec_l4All.f k a0_0 a0_1 a0_2 0 l1).bind fun bt255 => (some (bt255.2.1, bt255.2.2.2.2.2.2))) = some (r1, r2) := h
 clear h
 replace H := Option.bind_eq_some_iff.mp H
 obtain ⟨⟨t255, t258, t259, t260, t261, t262, t263⟩, A30, H⟩ := H
 replace H : (some (t258, t263)) = some (r1, r2) := H
 have A3 := Aside0.mk A30
 clear A30
 simp only [Option.some.injEq, Prod.mk.injEq] at H
 obtain ⟨rfl, rfl⟩ := H
 go_enter Try.func31, Try.ntmps31
 go_wp2_with (first | ((with_reducible refine gate_dst (N := 2) rfl ?_); refine box_event ?hg (N := 2) ?hd (cs := #[.int .i64 a0_0, .int .i64 a0_1, .int .i64 a0_2]) (t := 60) ?hr ?_; (case hd => rfl); (case hg => rfl); (case hr => first | (go_simp; done) | (go_simp; rfl)); intro gb254 hg w4 hbox hb; have BK254 := Aside0.mk (hbox); have GW254 := zge HB hg; have GE254 := zge HB hg; replace HB := zhs HB hb; clear hb hbox hg; have hcz5_0 := zc0 BK254 0 rfl; have hcz5_1 := zc0 BK254 1 rfl; have hcz5_2 := zc0 BK254 2 rfl; have hfz5_0 := blk_frozen BK254.out 0; have hfz5_1 := blk_frozen BK254.out 1; have hfz5_2 := blk_frozen BK254.out 2) | ((with_reducible refine gate_callee (f := 78) rfl ?_); refine goesL_ (some 11) rfl rfl Try.func78 (by kernel_rfl) rfl #[.agg #[.int .i64 a0_0, .int .i64 a0_1, .int .i64 a0_2], .int .i64 0, .slice A1 l1.length c1] rfl (by (try simp only [zq1, zq2, zq3]); first | done | rfl | (simp only [List.length_drop, List.length_take]; rfl)) ?_; (with_reducible refine (spec_l4All.calls k a0_0 a0_1 a0_2 0 _ _ l1 t255 t258 t259 t260 t261 t262 t263 _ ?side1 ?side2 A3.out).mono ?_); (case side1 => exact Kd.C_below HR1.out (zh0 HB)); (case side2 => exact HC1.out); rintro e w6 ⟨v256, rfl, ho0, hb⟩; refine ⟨_, rfl, ?_⟩; have HO257 := Aside0.mk (Kd.R_lower ho0 (below_size (zh0 HB))); replace BK254 := zb0 BK254 hb; replace HB := zhs HB hb; (try clear hb); (try clear ho0)) | ((with_reducible refine gate_dst (N := 6) rfl ?_); refine box_event ?hg (N := 6) ?hd (cs := #[.slice none 0 0, .int .i64 0, .int .i64 0, .int .i64 0, .int .i64 0, .int .i64 0]) (t := 115) ?hr ?_; (case hd => rfl); (case hg => rfl); (case hr => first | (go_simp; done) | (go_simp; rfl)); intro gb264 hg w7 hbox hb; have BK264 := Aside0.mk (hbox); have GW264 := zge HB hg; have GE264 := zge HB hg; have NB254_264 := znl BK254 hg; have NB264_254 := znr BK254 hg; replace HO257 := zrb HO257 hb; replace BK254 := zb0 BK254 hb; replace HB := zhs HB hb; clear hb hbox hg; obtain ⟨Ao8, co8, eo8⟩ := Kd.R_slice HO257.out; subst eo8; have hnb9 := NB264_254.out; have hnc9 := NB254_264.out; have hcz10_0 := zc0 BK264 0 rfl; have hcz10_1 := zc0 BK264 1 rfl; have hcz10_2 := zc0 BK264 2 rfl; have hcz10_3 := zc0 BK264 3 rfl; have hcz10_4 := zc0 BK264 4 rfl; have hcz10_5 := zc0 BK264 5 rfl; have hfz10_0 := blk_frozen BK264.out 0; have hfz10_1 := blk_frozen BK264.out 1; have hfz10_2 := blk_frozen BK264.out 2; have hfz10_3 := blk_frozen BK264.out 3; have hfz10_4 := blk_frozen BK264.out 4; have hfz10_5 := blk_frozen BK264.out 5))
 go_ret2
 exact ⟨zfr, by repeat (first | exact zh0 HB | refine below_set ?_ GE254.out | refine below_set ?_ GE264.out)⟩

/-! ### impl_CostOf: function 32 (by hand) -/
def impl_CostOf.f (a0_0 a0_1 a0_2 : Int) (l1 : List Int) : Option (Int × Bool) := some ((impl_appends.lastF (impl_appends.allF a0_0 a0_1 a0_2 l1)).2.2.2, (impl_appends.allF a0_0 a0_1 a0_2 l1).isSome)
set_option maxHeartbeats 4000000 in
set_option maxRecDepth 100000 in
theorem impl_CostOf.clos (s : Int × Int × Int × Int) (W : World) : Calls Try.prog 80 #[.agg (impl_store_grow.cs s)] W fun e w' => e = .returned (.tuple #[]) ∧ Below W.heap.size W w' := by
  have hu := Try.underlying110
  go_enter Try.func80, Try.ntmps80
  go_wp2
  first | (exact bodyPost_ret (results_none rfl _ _ _) rfl ⟨rfl, below_alloc (Below.refl _ _) _⟩) | exact ⟨rfl, results_none rfl _ _ _, rfl, below_alloc (Below.refl _ _) _⟩ | exact ⟨rfl, _, results_none rfl _ _ _, rfl, below_alloc (Below.refl _ _) _⟩
set_option maxHeartbeats 4000000 in
set_option maxRecDepth 100000 in
theorem impl_CostOf.calls (a0_0 a0_1 a0_2 : Int) (A1 : Option Addr) (c1 : Nat) (l1 : List Int) (r1 : Int) (r2 : Bool) (w : World) (hr1 : Kd.C (Kd.int .i64) w A1 l1.length l1) (hc1 : l1.length ≤ c1) (h : impl_CostOf.f a0_0 a0_1 a0_2 l1 = some (r1, r2)) :
    Calls Try.prog 32 #[.agg #[.int .i64 a0_0, .int .i64 a0_1, .int .i64 a0_2], .slice A1 l1.length c1] w fun e w' => e = .returned (.tuple #[.int .i64 r1, .bool r2]) ∧ Below w.heap.size w w' := by
  have HR1 := Lib.hid hr1
  obtain ⟨n, hn⟩ : ∃ n, n = l1.length := ⟨_, rfl⟩
  have HN := Lib.hid hn
  obtain ⟨sl, hsl⟩ : ∃ s, s = impl_appends.lastF (impl_appends.allF a0_0 a0_1 a0_2 l1) := ⟨_, rfl⟩
  obtain ⟨q, hq⟩ : ∃ q, q = (impl_appends.allF a0_0 a0_1 a0_2 l1).isSome := ⟨_, rfl⟩
  have HSL := Lib.hid hsl
  have HQQ := Lib.hid hq
  unfold impl_CostOf.f at h
  rw [← hsl, ← hq] at h
  obtain ⟨rfl, rfl⟩ := Prod.mk.inj (Option.some.inj h)
  rw [← hn]
  clear h hsl hr1 hc1 hn
  have EG := Lib.hid (show ∀ args w, (callFunc 80 args).run Try.prog w = .ok (.enter 80 args) w from Opn.entered Try.func80 (by kernel_rfl) rfl)
  obtain ⟨gb, hgb⟩ : ∃ g, g = w.heap.size := ⟨_, rfl⟩
  obtain ⟨W0, hW⟩ : ∃ W, W = w.alloc (.cells #[.int .i64 a0_0, .int .i64 a0_1, .int .i64 a0_2] 60) := ⟨_, rfl⟩
  have HI : Hid (Lv.Inv w W0 [Lv.boxF gb #[.int .i64 a0_0, .int .i64 a0_1, .int .i64 a0_2] 60]) := by
    subst hW hgb
    exact Lib.hid ((Lv.Inv.refl w).box #[.int .i64 a0_0, .int .i64 a0_1, .int .i64 a0_2] 60)
  go_enter Try.func32, Try.ntmps32
  go_upto_region 1 with (fail)
  rw [← hW, ← hgb]
  clear hW hgb
  refine Fl.startW [.one 0, .take 1, .one 2, .take 3, .take 4, .take 5, .one 6, .one 7, .take 8] (by decide) HI.out ?_
  refine Fl.ldF (some 9) 0 rfl rfl rfl (by rfl) _ _ rfl rfl Try.underlying60 rfl (by kernel_rfl) ?_
  simp only [Act.put, Fl.z1, Fl.z2, Fl.z3]
  refine Fl.take (some 10) (v := .slice A1 n c1) rfl rfl (Or.inl ⟨by rfl, fun _ _ => by rfl⟩) ?_
  simp only [Act.put, Fl.z1, Fl.z2, Fl.z3]
  refine Fl.call (some 11) Try.func76 (by kernel_rfl) rfl #[.agg #[.int .i64 a0_0, .int .i64 a0_1, .int .i64 a0_2], .slice A1 n c1, .func (.func 80) #[] #[]] rfl rfl rfl (by rfl) rfl (fun E2 W2 hE2 hi => ?_)
  have hc_ := impl_appends.run a0_0 a0_1 a0_2 A1 c1 l1 80 #[] w W2 (fun _ _ => []) (Lv.boxF gb #[.int .i64 a0_0, .int .i64 a0_1, .int .i64 a0_2] 60 :: E2) (.bool false) EG.out (fun acc s v E W hs hl hj => by rw [Array.append_empty]; exact (impl_CostOf.clos s W).mono (fun e w' hh => ⟨hh.1, .bool false, hj.below hh.2⟩)) hi HR1.out
  rw [← HN.out, ← HSL.out, ← HQQ.out] at hc_
  refine hc_.mono ?_
  rintro e W' ⟨rfl, acc, v2, hi2, hac⟩
  have HAC := Lib.hid hac
  refine Fl.keepI (F := []) (v := .tuple #[.agg (impl_store_grow.cs sl), .bool q]) (F' := [Lv.boxF gb #[.int .i64 a0_0, .int .i64 a0_1, .int .i64 a0_2] 60]) hi2 ?_
  clear hi hi2 hE2 hc_ hac
  simp only [Act.put, Fl.z1, Fl.z2, Fl.z3]
  refine Fl.take (some 8) (v := .tuple #[.agg (impl_store_grow.cs sl), .bool q]) rfl rfl (Or.inl ⟨by rfl, fun _ _ => by rfl⟩) ?_
  simp only [Act.put, Fl.z1, Fl.z2, Fl.z3]
  refine Fl.take (some 12) (v := .agg (impl_store_grow.cs sl)) rfl rfl (Or.inl ⟨by rfl, fun _ _ => by rfl⟩) ?_
  simp only [Act.put, Fl.z1, Fl.z2, Fl.z3]
  refine Fl.take (some 13) (v := .bool q) rfl rfl (Or.inl ⟨by rfl, fun _ _ => by rfl⟩) ?_
  simp only [Act.put, Fl.z1, Fl.z2, Fl.z3]
  refine Fl.var (N := 6) (cs := #[.int .i64 0, .int .i64 0, .int .i64 0, .int .i64 0]) (t := 110) ⟨_, rfl, rfl, fun _ => rfl, fun e w => by first | (go_simp; done) | (go_simp; rfl)⟩ (fun gs => ?_)
  simp only [Act.put, Fl.z1, Fl.z2, Fl.z3]
  refine Fl.store 0 (impl_store_grow.cs sl) rfl rfl rfl rfl _ _ _ rfl rfl rfl (by rfl) rfl (by kernel_rfl) (by simp [Value.oneCell']) ?_
  refine Fl.take (some 7) (v := .bool q) rfl rfl (Or.inl ⟨by rfl, fun _ _ => by rfl⟩) ?_
  simp only [Act.put, Fl.z1, Fl.z2, Fl.z3]
  refine Fl.stopW (fun W hi => ?_)
  replace HI := Lib.hid hi
  clear hi
  go_upto_region 2 with (fail)
  refine Fl.startL [.take 0, .take 1, .take 2, .take 3, .take 4] (by decide) HI.out ?_
  refine Fl.take (some 14) (v := .pointer (some ⟨gs, 3, none⟩)) rfl rfl (Or.inl ⟨by rfl, fun _ _ => by first | rfl | (go_simp; done) | (go_simp; rfl) | (go_simp; omega)⟩) ?_
  simp only [Act.put, Fl.z1, Fl.z2, Fl.z3]
  refine Fl.take (some 15) (v := .int .i64 sl.2.2.2) rfl rfl (Fl.ldc 0 3 rfl (by rfl) _ _ rfl rfl rfl Try.underlying3 rfl) ?_
  simp only [Act.put, Fl.z1, Fl.z2, Fl.z3]
  refine Fl.take (some 16) (v := .bool q) rfl rfl (Or.inl ⟨by rfl, fun _ _ => by rfl⟩) ?_
  simp only [Act.put, Fl.z1, Fl.z2, Fl.z3]
  refine Fl.take (some 4) (v := .int .i64 sl.2.2.2) rfl rfl (Or.inl ⟨by rfl, fun _ _ => by rfl⟩) ?_
  simp only [Act.put, Fl.z1, Fl.z2, Fl.z3]
  refine Fl.take (some 5) (v := .bool q) rfl rfl (Or.inl ⟨by rfl, fun _ _ => by rfl⟩) ?_
  simp only [Act.put, Fl.z1, Fl.z2, Fl.z3]
  refine Fl.stop (fun W hi => ?_)
  replace HI := Lib.hid hi
  clear hi
  go_wp2
  go_ret2
  exact ⟨rfl, HI.out.bel⟩

open Go.Proofs.Ytkifenbcepicjab.Cp
/-! ### spec_CostOf: function 33 -/
def spec_CostOf.f (k : Nat) (a0_0 : Int) (a0_1 : Int) (a0_2 : Int) (l1 : List Int) : Option (Int × Bool) := (spec_l4All.f k a0_0 a0_1 a0_2 0 l1).bind fun bt266 => (some (bt266.2.2.1, bt266.2.2.2.2.2.2))
theorem spec_CostOf.mono : ∀ a0 a1 a2 a3 k, LeO (spec_CostOf.f k a0 a1 a2 a3) (spec_CostOf.f (k + 1) a0 a1 a2 a3) := by
 intro a0 a1 a2 a3 k
 unfold spec_CostOf.f
 repeat' first
   | (with_reducible exact spec_l4All.mono _ _ _ _ _ _)
   | (with_reducible exact LeO.refl _)
   | (with_reducible exact LeO.none _)
   | (with_reducible refine LeO.ite ?_ ?_)
   | (with_reducible refine LeO.bind ?_ (fun _ => ?_))
   | exact spec_l4All.mono _ _ _ _ _ _
   | exact LeO.none _
   | refine LeO.ite ?_ ?_
   | refine LeO.bind ?_ (fun _ => ?_)
set_option maxHeartbeats 8000000 in
set_option maxRecDepth 100000 in
theorem spec_CostOf.calls (k : Nat) (a0_0 : Int) (a0_1 : Int) (a0_2 : Int) (A1 : Option Addr) (c1 : Nat) (l1 : List Int) (r1 : Int) (r2 : Bool) (w : World) (hr1 : Kd.C (Kd.int .i64) w A1 l1.length l1) (hc1 : l1.length ≤ c1) (h : spec_CostOf.f k a0_0 a0_1 a0_2 l1 = some (r1, r2)) :
  Calls Try.prog 33 #[.agg #[.int .i64 a0_0, .int .i64 a0_1, .int .i64 a0_2], .slice A1 l1.length c1] w fun e w' => e = .returned (.tuple #[.int .i64 r1, .bool r2]) ∧ Below w.heap.size w w' := by
 have hu60 := Try.underlying60
 have hu115 := Try.underlying115
 have HR1 := Aside0.mk hr1
 have HC1 := Aside0.mk hc1
 clear hr1 hc1
 have HB := Aside0.mk (Below.refl w.heap.size w)
 have H : ((spec_l4All.f k a0_0 a0_1 a0_2 0 l1).bind fun bt266 => (some (bt266.2.2.1, bt266.2.2.2.2.2.2))) = some (r1, r2) := h
 clear h
 replace H := Option.bind_eq_some_iff.mp H
 obtain ⟨⟨t266, t269, t270, t271, t272, t273, t274⟩, A30, H⟩ := H
 replace H : (some (t270, t274)) = some (r1, r2) := H
 have A3 := Aside0.mk A30
 clear A30
 simp only [Option.some.injEq, Prod.mk.injEq] at H
 obtain ⟨rfl, rfl⟩ := H
 go_enter Try.func33, Try.ntmps33
 go_wp2_with (first | ((with_reducible refine gate_dst (N := 2) rfl ?_); refine box_event ?hg (N := 2) ?hd (cs := #[.int .i64 a0_0, .int .i64 a0_1, .int .i64 a0_2]) (t := 60) ?hr ?_; (case hd => rfl); (case hg => rfl); (case hr => first | (go_simp; done) | (go_simp; rfl)); intro gb265 hg w4 hbox hb; have BK265 := Aside0.mk (hbox); have GW265 := zge HB hg; have GE265 := zge HB hg; replace HB := zhs HB hb; clear hb hbox hg; have hcz5_0 := zc0 BK265 0 rfl; have hcz5_1 := zc0 BK265 1 rfl; have hcz5_2 := zc0 BK265 2 rfl; have hfz5_0 := blk_frozen BK265.out 0; have hfz5_1 := blk_frozen BK265.out 1; have hfz5_2 := blk_frozen BK265.out 2) | ((with_reducible refine gate_callee (f := 78) rfl ?_); refine goesL_ (some 11) rfl rfl Try.func78 (by kernel_rfl) rfl #[.agg #[.int .i64 a0_0, .int .i64 a0_1, .int .i64 a0_2], .int .i64 0, .slice A1 l1.length c1] rfl (by (try simp only [zq1, zq2, zq3]); first | done | rfl | (simp only [List.length_drop, List.length_take]; rfl)) ?_; (with_reducible refine (spec_l4All.calls k a0_0 a0_1 a0_2 0 _ _ l1 t266 t269 t270 t271 t272 t273 t274 _ ?side1 ?side2 A3.out).mono ?_); (case side1 => exact Kd.C_below HR1.out (zh0 HB)); (case side2 => exact HC1.out); rintro e w6 ⟨v267, rfl, ho0, hb⟩; refine ⟨_, rfl, ?_⟩; have HO268 := Aside0.mk (Kd.R_lower ho0 (below_size (zh0 HB))); replace BK265 := zb0 BK265 hb; replace HB := zhs HB hb; (try clear hb); (try clear ho0)) | ((with_reducible refine gate_dst (N := 6) rfl ?_); refine box_event ?hg (N := 6) ?hd (cs := #[.slice none 0 0, .int .i64 0, .int .i64 0, .int .i64 0, .int .i64 0, .int .i64 0]) (t := 115) ?hr ?_; (case hd => rfl); (case hg => rfl); (case hr => first | (go_simp; done) | (go_simp; rfl)); intro gb275 hg w7 hbox hb; have BK275 := Aside0.mk (hbox); have GW275 := zge HB hg; have GE275 := zge HB hg; have NB265_275 := znl BK265 hg; have NB275_265 := znr BK265 hg; replace HO268 := zrb HO268 hb; replace BK265 := zb0 BK265 hb; replace HB := zhs HB hb; clear hb hbox hg; obtain ⟨Ao8, co8, eo8⟩ := Kd.R_slice HO268.out; subst eo8; have hnb9 := NB275_265.out; have hnc9 := NB265_275.out; have hcz10_0 := zc0 BK275 0 rfl; have hcz10_1 := zc0 BK275 1 rfl; have hcz10_2 := zc0 BK275 2 rfl; have hcz10_3 := zc0 BK275 3 rfl; have hcz10_4 := zc0 BK275 4 rfl; have hcz10_5 := zc0 BK275 5 rfl; have hfz10_0 := blk_frozen BK275.out 0; have hfz10_1 := blk_frozen BK275.out 1; have hfz10_2 := blk_frozen BK275.out 2; have hfz10_3 := blk_frozen BK275.out 3; have hfz10_4 := blk_frozen BK275.out 4; have hfz10_5 := blk_frozen BK275.out 5))
 go_ret2
 exact ⟨zfr, by repeat (first | exact zh0 HB | refine below_set ?_ GE265.out | refine below_set ?_ GE275.out)⟩

/-! ### impl_WorstWaste: function 34 (by hand) -/
def impl_WorstWaste.f (a0_0 a0_1 a0_2 : Int) (l1 : List Int) : Option (Int × Bool) := some (match impl_appends.allF a0_0 a0_1 a0_2 l1 with | some ys => (ys.foldl (fun m s => if m < s.2.1 - s.1 then s.2.1 - s.1 else m) 0, true) | none => (0, false))
/-- The greatest waste. -/
def impl_WorstWaste.worst (ys : List (Int × Int × Int × Int)) : Int := ys.foldl (fun m s => if m < s.2.1 - s.1 then s.2.1 - s.1 else m) 0
set_option maxHeartbeats 4000000 in
set_option maxRecDepth 100000 in
theorem impl_WorstWaste.clos (go : Nat) (m : Int) (s : Int × Int × Int × Int) (w0 W : World) (E : List Lv.Fact) (h0 : 0 ≤ s.1) (h1 : s.1 ≤ s.2.1) (h2 : s.2.1 ≤ 1000000) (hI : Lv.Inv w0 W (Lv.boxF go #[.int .i64 m] 3 :: E)) :
    Calls Try.prog 81 #[.agg (impl_store_grow.cs s), .pointer (some ⟨go, 0, none⟩)] W fun e w' => e = .returned (.tuple #[]) ∧ Lv.Inv w0 w' (Lv.boxF go #[.int .i64 (if m < s.2.1 - s.1 then s.2.1 - s.1 else m)] 3 :: E) := by
  obtain ⟨s1, s2, s3, s4⟩ := s
  dsimp only at h0 h1 h2 ⊢
  have e1 : IntKind.i64.wrap (s2 - s1) = s2 - s1 := by rw [IntKind.wrap_i64]; omega
  obtain ⟨d, hd⟩ : ∃ d, d = s2 - s1 := ⟨_, rfl⟩
  rw [← hd] at e1 ⊢
  obtain ⟨m2, hm⟩ : ∃ x, x = if m < d then d else m := ⟨_, rfl⟩
  have HM := Lib.hid hm
  rw [← hm]
  have HE := Lib.hid e1
  have HD := Lib.hid hd
  clear hm hd e1
  obtain ⟨gs, hgs⟩ : ∃ g, g = W.heap.size := ⟨_, rfl⟩
  obtain ⟨W0, hW⟩ : ∃ W1, W1 = W.alloc (.cells #[.int .i64 s1, .int .i64 s2, .int .i64 s3, .int .i64 s4] 110) := ⟨_, rfl⟩
  have HI : Hid (Lv.Inv w0 W0 (Lv.boxF gs #[.int .i64 s1, .int .i64 s2, .int .i64 s3, .int .i64 s4] 110 :: Lv.boxF go #[.int .i64 m] 3 :: E)) := by
    subst hW hgs
    exact Lib.hid (hI.box #[.int .i64 s1, .int .i64 s2, .int .i64 s3, .int .i64 s4] 110)
  clear hI h0 h1 h2
  have hmx : ∀ w, (Builtin.max_ #[3, 3] 3 #[.int .i64 m, .int .i64 d]).run Try.prog w = .ok (.int .i64 m2) w := by
    intro w
    rw [HM.out, max_two]
    simp only [max2_int, Sem.run_bind, Sem.run_pure, Result.andThen]
  have HX := Lib.hid hmx
  clear hmx
  go_enter Try.func81, Try.ntmps81
  go_upto_region 1 with (fail)
  rw [← hW, ← hgs]
  clear hW hgs
  refine Fl.startW [.one 0, .take 1, .one 2, .take 3, .one 4, .take 5, .take 6, .one 7] (by decide) HI.out ?_
  refine Fl.ldXc (some 3) 1 0 rfl rfl rfl (by rfl) _ _ rfl rfl rfl Try.underlying3 rfl ?_
  simp only [Act.put, Fl.z1, Fl.z2, Fl.z3]
  refine Fl.take (some 4) (v := .pointer (some ⟨gs, 1, none⟩)) rfl rfl (Or.inl ⟨by rfl, fun _ _ => by first | rfl | (go_simp; done) | (go_simp; rfl) | (go_simp; omega)⟩) ?_
  simp only [Act.put, Fl.z1, Fl.z2, Fl.z3]
  refine Fl.ldXc (some 5) 0 1 rfl rfl rfl (by rfl) _ _ rfl rfl rfl Try.underlying3 rfl ?_
  simp only [Act.put, Fl.z1, Fl.z2, Fl.z3]
  refine Fl.take (some 6) (v := .pointer (some ⟨gs, 0, none⟩)) rfl rfl (Or.inl ⟨by rfl, fun _ _ => by first | rfl | (go_simp; done) | (go_simp; rfl) | (go_simp; simp only [i64_w])⟩) ?_
  simp only [Act.put, Fl.z1, Fl.z2, Fl.z3]
  refine Fl.ldXc (some 7) 0 0 rfl rfl rfl (by rfl) _ _ rfl rfl rfl Try.underlying3 rfl ?_
  simp only [Act.put, Fl.z1, Fl.z2, Fl.z3]
  refine Fl.take (some 8) (v := .int .i64 d) rfl rfl (Or.inl ⟨by rfl, fun _ _ => by have e1 := HE.out; have hd := HD.out; subst hd; first | (go_simp; done) | (go_simp; rw [e1]) | (go_simp; simp only [e1]) | (go_simp; simp only [i64_w] at *; rw [e1])⟩) ?_
  simp only [Act.put, Fl.z1, Fl.z2, Fl.z3]
  refine Fl.take (some 9) (v := .int .i64 m2) rfl rfl (Or.inl ⟨by rfl, fun _ _ => by have hmx := HX.out; first | (go_simp; done) | (go_simp; rw [HM.out]; done) | (go_simp; rw [HM.out]; rfl) | (go_simp; rw [HM.out]; split <;> rfl) | (go_simp; rw [hmx]; rfl)⟩) ?_
  simp only [Act.put, Fl.z1, Fl.z2, Fl.z3]
  refine Fl.storeC 1 0 (.int .i64 m2) rfl rfl rfl rfl _ _ _ rfl rfl rfl (by rfl) (by simp) (by kernel_rfl) rfl rfl ?_
  refine Fl.stopW (fun W hi => ?_)
  replace HI := Lib.hid hi
  clear hi
  go_wp2
  first | (exact bodyPost_ret (results_none rfl _ _ _) rfl ⟨rfl, HI.out.tail⟩) | exact ⟨rfl, _, results_none rfl _ _ _, rfl, HI.out.tail⟩
set_option maxHeartbeats 4000000 in
set_option maxRecDepth 100000 in
theorem impl_WorstWaste.calls (a0_0 a0_1 a0_2 : Int) (A1 : Option Addr) (c1 : Nat) (l1 : List Int) (r1 : Int) (r2 : Bool) (w : World) (hr1 : Kd.C (Kd.int .i64) w A1 l1.length l1) (hc1 : l1.length ≤ c1) (h : impl_WorstWaste.f a0_0 a0_1 a0_2 l1 = some (r1, r2)) :
    Calls Try.prog 34 #[.agg #[.int .i64 a0_0, .int .i64 a0_1, .int .i64 a0_2], .slice A1 l1.length c1] w fun e w' => e = .returned (.tuple #[.int .i64 r1, .bool r2]) ∧ Below w.heap.size w w' := by
  have HR1 := Lib.hid hr1
  obtain ⟨n, hn⟩ : ∃ n, n = l1.length := ⟨_, rfl⟩
  have HN := Lib.hid hn
  obtain ⟨sl, hsl⟩ : ∃ s, s = impl_appends.lastF (impl_appends.allF a0_0 a0_1 a0_2 l1) := ⟨_, rfl⟩
  obtain ⟨q, hq⟩ : ∃ q, q = (impl_appends.allF a0_0 a0_1 a0_2 l1).isSome := ⟨_, rfl⟩
  have HSL := Lib.hid hsl
  have HQQ := Lib.hid hq
  have HH := Lib.hid h
  rw [← hn]
  clear h hsl hq hr1 hc1 hn
  have EG := Lib.hid (show ∀ args w, (callFunc 81 args).run Try.prog w = .ok (.enter 81 args) w from Opn.entered Try.func81 (by kernel_rfl) rfl)
  obtain ⟨gb, hgb⟩ : ∃ g, g = w.heap.size := ⟨_, rfl⟩
  obtain ⟨W0, hW⟩ : ∃ W, W = w.alloc (.cells #[.int .i64 a0_0, .int .i64 a0_1, .int .i64 a0_2] 60) := ⟨_, rfl⟩
  have HI : Hid (Lv.Inv w W0 [Lv.boxF gb #[.int .i64 a0_0, .int .i64 a0_1, .int .i64 a0_2] 60]) := by
    subst hW hgb
    exact Lib.hid ((Lv.Inv.refl w).box #[.int .i64 a0_0, .int .i64 a0_1, .int .i64 a0_2] 60)
  go_enter Try.func34, Try.ntmps34
  go_upto_region 1 with (fail)
  rw [← hW, ← hgb]
  clear hW hgb
  refine Fl.startW [.one 0, .one 1] (by decide) HI.out ?_
  refine Fl.var (N := 6) (cs := #[.int .i64 0]) (t := 3) ⟨_, rfl, rfl, fun _ => rfl, fun e w => by first | (go_simp; done) | (go_simp; rfl)⟩ (fun go => ?_)
  simp only [Act.put, Fl.z1, Fl.z2, Fl.z3]
  refine Fl.storeC 0 0 (.int .i64 0) rfl rfl rfl rfl _ _ _ rfl rfl rfl (by rfl) (by simp) (by kernel_rfl) rfl rfl ?_
  refine Fl.stopW (fun W hi => ?_)
  replace HI := Lib.hid hi
  clear hi
  go_upto_region 2 with (fail)
  refine Fl.startW [.one 0, .take 1, .take 2, .one 3, .take 4, .take 5, .take 6, .one 7, .one 8, .take 9] (by decide) HI.out ?_
  refine Fl.ldF (some 10) 1 rfl rfl rfl (by rfl) _ _ rfl rfl Try.underlying60 rfl (by kernel_rfl) ?_
  simp only [Act.put, Fl.z1, Fl.z2, Fl.z3]
  refine Fl.take (some 11) (v := .slice A1 n c1) rfl rfl (Or.inl ⟨by rfl, fun _ _ => by rfl⟩) ?_
  simp only [Act.put, Fl.z1, Fl.z2, Fl.z3]
  refine Fl.take (some 12) (v := .func (.func 81) #[] #[.pointer (some ⟨go, 0, none⟩)]) rfl rfl (Or.inl ⟨by rfl, fun _ _ => by first | rfl | (go_simp; done) | (go_simp; rfl) | (go_simp; simp only [i64_w])⟩) ?_
  simp only [Act.put, Fl.z1, Fl.z2, Fl.z3]
  refine Fl.call (some 13) Try.func76 (by kernel_rfl) rfl #[.agg #[.int .i64 a0_0, .int .i64 a0_1, .int .i64 a0_2], .slice A1 n c1, .func (.func 81) #[] #[.pointer (some ⟨go, 0, none⟩)]] rfl rfl rfl (by rfl) rfl (fun E2 W2 hE2 hi => ?_)
  have hc_ := impl_appends.run a0_0 a0_1 a0_2 A1 c1 l1 81 #[.pointer (some ⟨go, 0, none⟩)] w W2 (fun acc _ => [Lv.boxF go #[.int .i64 (impl_WorstWaste.worst acc)] 3]) (Lv.boxF gb #[.int .i64 a0_0, .int .i64 a0_1, .int .i64 a0_2] 60 :: E2) (.bool false) EG.out (fun acc s v E W hs hl hj => (impl_WorstWaste.clos go (impl_WorstWaste.worst acc) s w W E hs.l0 hs.lc hs.c1 hj).mono (fun e w' hh => ⟨hh.1, .bool false, by rw [show impl_WorstWaste.worst (acc ++ [s]) = (if impl_WorstWaste.worst acc < s.2.1 - s.1 then s.2.1 - s.1 else impl_WorstWaste.worst acc) from by unfold impl_WorstWaste.worst; rw [List.foldl_append]; rfl]; exact hh.2⟩)) hi HR1.out
  rw [← HN.out, ← HSL.out, ← HQQ.out] at hc_
  refine hc_.mono ?_
  rintro e W' ⟨rfl, acc, v2, hi2, hac⟩
  have HAC := Lib.hid hac
  refine Fl.keepI (F := []) (v := .tuple #[.agg (impl_store_grow.cs sl), .bool q]) (F' := [Lv.boxF go #[.int .i64 (impl_WorstWaste.worst acc)] 3, Lv.boxF gb #[.int .i64 a0_0, .int .i64 a0_1, .int .i64 a0_2] 60]) hi2 ?_
  clear hi hi2 hE2 hc_ hac
  simp only [Act.put, Fl.z1, Fl.z2, Fl.z3]
  refine Fl.take (some 9) (v := .tuple #[.agg (impl_store_grow.cs sl), .bool q]) rfl rfl (Or.inl ⟨by rfl, fun _ _ => by rfl⟩) ?_
  simp only [Act.put, Fl.z1, Fl.z2, Fl.z3]
  refine Fl.take (some 14) (v := .agg (impl_store_grow.cs sl)) rfl rfl (Or.inl ⟨by rfl, fun _ _ => by rfl⟩) ?_
  simp only [Act.put, Fl.z1, Fl.z2, Fl.z3]
  refine Fl.take (some 15) (v := .bool q) rfl rfl (Or.inl ⟨by rfl, fun _ _ => by rfl⟩) ?_
  simp only [Act.put, Fl.z1, Fl.z2, Fl.z3]
  refine Fl.var (N := 7) (cs := #[.int .i64 0, .int .i64 0, .int .i64 0, .int .i64 0]) (t := 110) ⟨_, rfl, rfl, fun _ => rfl, fun e w => by first | (go_simp; done) | (go_simp; rfl)⟩ (fun gs => ?_)
  simp only [Act.put, Fl.z1, Fl.z2, Fl.z3]
  refine Fl.store 0 (impl_store_grow.cs sl) rfl rfl rfl rfl _ _ _ rfl rfl rfl (by rfl) rfl (by kernel_rfl) (by simp [Value.oneCell']) ?_
  refine Fl.take (some 8) (v := .bool q) rfl rfl (Or.inl ⟨by rfl, fun _ _ => by rfl⟩) ?_
  simp only [Act.put, Fl.z1, Fl.z2, Fl.z3]
  refine Fl.stopW (fun W hi => ?_)
  replace HI := Lib.hid hi
  clear hi
  cases q with
  | false =>
    have hn2 : impl_appends.allF a0_0 a0_1 a0_2 l1 = none := by cases h2 : impl_appends.allF a0_0 a0_1 a0_2 l1 with | none => rfl | some ys => have h3 := HQQ.out; rw [h2] at h3; cases h3
    have h := HH.out
    unfold impl_WorstWaste.f at h
    rw [hn2] at h
    obtain ⟨rfl, rfl⟩ := Prod.mk.inj (Option.some.inj h)
    clear h HH hn2
    go_upto_region 3 with (fail)
    refine Fl.startL [.take 0, .take 1] (by decide) HI.out ?_
    refine Fl.take (some 16) (v := .bool false) rfl rfl (Or.inl ⟨by rfl, fun _ _ => by rfl⟩) ?_
    simp only [Act.put, Fl.z1, Fl.z2, Fl.z3]
    refine Fl.take (some 17) (v := .bool true) rfl rfl (Or.inl ⟨by rfl, fun _ _ => by rfl⟩) ?_
    simp only [Act.put, Fl.z1, Fl.z2, Fl.z3]
    refine Fl.stop (fun W hi => ?_)
    replace HI := Lib.hid hi
    clear hi
    go_wp2
    go_ret2
    exact ⟨rfl, HI.out.bel⟩
  | true =>
    obtain ⟨ys, hys⟩ : ∃ ys, impl_appends.allF a0_0 a0_1 a0_2 l1 = some ys := by cases h2 : impl_appends.allF a0_0 a0_1 a0_2 l1 with | some ys => exact ⟨ys, rfl⟩ | none => have h3 := HQQ.out; rw [h2] at h3; cases h3
    obtain rfl := HAC.out ys hys
    have h := HH.out
    unfold impl_WorstWaste.f at h
    rw [hys] at h
    obtain ⟨rfl, rfl⟩ := Prod.mk.inj (Option.some.inj h)
    clear h HH hys HAC
    go_upto_region 3 with (fail)
    refine Fl.startL [.take 0, .take 1] (by decide) HI.out ?_
    refine Fl.take (some 16) (v := .bool true) rfl rfl (Or.inl ⟨by rfl, fun _ _ => by rfl⟩) ?_
    simp only [Act.put, Fl.z1, Fl.z2, Fl.z3]
    refine Fl.take (some 17) (v := .bool false) rfl rfl (Or.inl ⟨by rfl, fun _ _ => by rfl⟩) ?_
    simp only [Act.put, Fl.z1, Fl.z2, Fl.z3]
    refine Fl.stop (fun W hi => ?_)
    replace HI := Lib.hid hi
    clear hi
    go_upto_region 5 with (fail)
    refine Fl.startL [.take 0, .take 1, .take 2] (by decide) HI.out ?_
    refine Fl.take (some 18) (v := .int .i64 (impl_WorstWaste.worst acc)) rfl rfl (Fl.ldc 1 0 rfl (by rfl) _ _ rfl rfl rfl Try.underlying3 rfl) ?_
    simp only [Act.put, Fl.z1, Fl.z2, Fl.z3]
    refine Fl.take (some 4) (v := .int .i64 (impl_WorstWaste.worst acc)) rfl rfl (Or.inl ⟨by rfl, fun _ _ => by rfl⟩) ?_
    simp only [Act.put, Fl.z1, Fl.z2, Fl.z3]
    refine Fl.take (some 5) (v := .bool true) rfl rfl (Or.inl ⟨by rfl, fun _ _ => by rfl⟩) ?_
    simp only [Act.put, Fl.z1, Fl.z2, Fl.z3]
    refine Fl.stop (fun W hi => ?_)
    replace HI := Lib.hid hi
    clear hi
    go_wp2
    go_ret2
    exact ⟨rfl, HI.out.bel⟩

open Go.Proofs.Ytkifenbcepicjab.Cp
/-! ### spec_WorstWaste: function 35 -/
def spec_WorstWaste.f (k : Nat) (a0_0 : Int) (a0_1 : Int) (a0_2 : Int) (l1 : List Int) : Option (Int × Bool) := (spec_l4All.f k a0_0 a0_1 a0_2 0 l1).bind fun bt277 => (some (bt277.2.2.2.1, bt277.2.2.2.2.2.2))
theorem spec_WorstWaste.mono : ∀ a0 a1 a2 a3 k, LeO (spec_WorstWaste.f k a0 a1 a2 a3) (spec_WorstWaste.f (k + 1) a0 a1 a2 a3) := by
 intro a0 a1 a2 a3 k
 unfold spec_WorstWaste.f
 repeat' first
   | (with_reducible exact spec_l4All.mono _ _ _ _ _ _)
   | (with_reducible exact LeO.refl _)
   | (with_reducible exact LeO.none _)
   | (with_reducible refine LeO.ite ?_ ?_)
   | (with_reducible refine LeO.bind ?_ (fun _ => ?_))
   | exact spec_l4All.mono _ _ _ _ _ _
   | exact LeO.none _
   | refine LeO.ite ?_ ?_
   | refine LeO.bind ?_ (fun _ => ?_)
set_option maxHeartbeats 8000000 in
set_option maxRecDepth 100000 in
theorem spec_WorstWaste.calls (k : Nat) (a0_0 : Int) (a0_1 : Int) (a0_2 : Int) (A1 : Option Addr) (c1 : Nat) (l1 : List Int) (r1 : Int) (r2 : Bool) (w : World) (hr1 : Kd.C (Kd.int .i64) w A1 l1.length l1) (hc1 : l1.length ≤ c1) (h : spec_WorstWaste.f k a0_0 a0_1 a0_2 l1 = some (r1, r2)) :
  Calls Try.prog 35 #[.agg #[.int .i64 a0_0, .int .i64 a0_1, .int .i64 a0_2], .slice A1 l1.length c1] w fun e w' => e = .returned (.tuple #[.int .i64 r1, .bool r2]) ∧ Below w.heap.size w w' := by
 have hu60 := Try.underlying60
 have hu115 := Try.underlying115
 have HR1 := Aside0.mk hr1
 have HC1 := Aside0.mk hc1
 clear hr1 hc1
 have HB := Aside0.mk (Below.refl w.heap.size w)
 have H : ((spec_l4All.f k a0_0 a0_1 a0_2 0 l1).bind fun bt277 => (some (bt277.2.2.2.1, bt277.2.2.2.2.2.2))) = some (r1, r2) := h
 clear h
 replace H := Option.bind_eq_some_iff.mp H
 obtain ⟨⟨t277, t280, t281, t282, t283, t284, t285⟩, A30, H⟩ := H
 replace H : (some (t282, t285)) = some (r1, r2) := H
 have A3 := Aside0.mk A30
 clear A30
 simp only [Option.some.injEq, Prod.mk.injEq] at H
 obtain ⟨rfl, rfl⟩ := H
 go_enter Try.func35, Try.ntmps35
 go_wp2_with (first | ((with_reducible refine gate_dst (N := 2) rfl ?_); refine box_event ?hg (N := 2) ?hd (cs := #[.int .i64 a0_0, .int .i64 a0_1, .int .i64 a0_2]) (t := 60) ?hr ?_; (case hd => rfl); (case hg => rfl); (case hr => first | (go_simp; done) | (go_simp; rfl)); intro gb276 hg w4 hbox hb; have BK276 := Aside0.mk (hbox); have GW276 := zge HB hg; have GE276 := zge HB hg; replace HB := zhs HB hb; clear hb hbox hg; have hcz5_0 := zc0 BK276 0 rfl; have hcz5_1 := zc0 BK276 1 rfl; have hcz5_2 := zc0 BK276 2 rfl; have hfz5_0 := blk_frozen BK276.out 0; have hfz5_1 := blk_frozen BK276.out 1; have hfz5_2 := blk_frozen BK276.out 2) | ((with_reducible refine gate_callee (f := 78) rfl ?_); refine goesL_ (some 11) rfl rfl Try.func78 (by kernel_rfl) rfl #[.agg #[.int .i64 a0_0, .int .i64 a0_1, .int .i64 a0_2], .int .i64 0, .slice A1 l1.length c1] rfl (by (try simp only [zq1, zq2, zq3]); first | done | rfl | (simp only [List.length_drop, List.length_take]; rfl)) ?_; (with_reducible refine (spec_l4All.calls k a0_0 a0_1 a0_2 0 _ _ l1 t277 t280 t281 t282 t283 t284 t285 _ ?side1 ?side2 A3.out).mono ?_); (case side1 => exact Kd.C_below HR1.out (zh0 HB)); (case side2 => exact HC1.out); rintro e w6 ⟨v278, rfl, ho0, hb⟩; refine ⟨_, rfl, ?_⟩; have HO279 := Aside0.mk (Kd.R_lower ho0 (below_size (zh0 HB))); replace BK276 := zb0 BK276 hb; replace HB := zhs HB hb; (try clear hb); (try clear ho0)) | ((with_reducible refine gate_dst (N := 6) rfl ?_); refine box_event ?hg (N := 6) ?hd (cs := #[.slice none 0 0, .int .i64 0, .int .i64 0, .int .i64 0, .int .i64 0, .int .i64 0]) (t := 115) ?hr ?_; (case hd => rfl); (case hg => rfl); (case hr => first | (go_simp; done) | (go_simp; rfl)); intro gb286 hg w7 hbox hb; have BK286 := Aside0.mk (hbox); have GW286 := zge HB hg; have GE286 := zge HB hg; have NB276_286 := znl BK276 hg; have NB286_276 := znr BK276 hg; replace HO279 := zrb HO279 hb; replace BK276 := zb0 BK276 hb; replace HB := zhs HB hb; clear hb hbox hg; obtain ⟨Ao8, co8, eo8⟩ := Kd.R_slice HO279.out; subst eo8; have hnb9 := NB286_276.out; have hnc9 := NB276_286.out; have hcz10_0 := zc0 BK286 0 rfl; have hcz10_1 := zc0 BK286 1 rfl; have hcz10_2 := zc0 BK286 2 rfl; have hcz10_3 := zc0 BK286 3 rfl; have hcz10_4 := zc0 BK286 4 rfl; have hcz10_5 := zc0 BK286 5 rfl; have hfz10_0 := blk_frozen BK286.out 0; have hfz10_1 := blk_frozen BK286.out 1; have hfz10_2 := blk_frozen BK286.out 2; have hfz10_3 := blk_frozen BK286.out 3; have hfz10_4 := blk_frozen BK286.out 4; have hfz10_5 := blk_frozen BK286.out 5))
 go_ret2
 exact ⟨zfr, by repeat (first | exact zh0 HB | refine below_set ?_ GE276.out | refine below_set ?_ GE286.out)⟩

/-! ### impl_singles: function 83 (by hand) -/
/-- The state behind so many single bytes. -/
def impl_singles.sinF (num den add : Int) : Nat → Int × Int × Int × Int → Int × Int × Int × Int
  | 0, s => s
  | k + 1, s => impl_singles.sinF num den add k (impl_store_grow.stepF num den add s 1).2
def impl_singles.allF (num den add k : Int) : Option (Int × Int × Int × Int) := if impl_store_grow.ruleB num den add = true then (if 0 ≤ k ∧ k ≤ 2000 then some (impl_singles.sinF num den add k.toNat (0, 0, 0, 0)) else none) else none
/-- One byte more, where there are few. -/
theorem impl_singles.one {num den add : Int} {s : Int × Int × Int × Int} {i : Nat} (hru : impl_store_grow.ruleB num den add = true) (h0 : s.1 = (i : Int)) (hi : i < 2000) (h1 : s.1 ≤ s.2.1) (h2 : s.2.1 ≤ 16100) :
    (impl_store_grow.stepF num den add s 1).1 = true ∧ (impl_store_grow.stepF num den add s 1).2.1 = ((i + 1 : Nat) : Int) ∧ (impl_store_grow.stepF num den add s 1).2.2.1 ≤ 16100 := by
  obtain ⟨r1, r2, r3, r4, r5, r6⟩ := impl_store_grow.rule_of hru
  obtain ⟨L, C, M, K⟩ := s
  dsimp only at h0 h1 h2
  unfold impl_store_grow.stepF
  rw [if_pos (by decide)]
  dsimp only
  unfold impl_store_grow.growF
  by_cases hc : L + 1 > C
  · rw [if_pos hc]
    have hp0 : 0 ≤ C * num := Int.mul_nonneg (by omega) (by omega)
    have hp1 : C * num ≤ 16000 := by
      have h1 : C * num ≤ 2000 * num := Int.mul_le_mul_of_nonneg_right (by omega) (by omega)
      omega
    have hq0 : 0 ≤ C * num / den := Int.ediv_nonneg hp0 (by omega)
    have hq1 : C * num / den ≤ 16000 := Int.le_trans (Int.ediv_le_self _ hp0) hp1
    have hcap : 0 ≤ impl_store_grow.capF num den add L C 1 ∧ impl_store_grow.capF num den add L C 1 ≤ 16100 := by
      unfold impl_store_grow.capF
      generalize C * num / den = x at *
      split <;> split at * <;> omega
    refine ⟨?_, ?_, hcap.2⟩
    · dsimp only
      rw [decide_eq_true hcap.1, decide_eq_true (show impl_store_grow.capF num den add L C 1 ≤ 1000000 by omega)]
      rfl
    · dsimp only; omega
  · rw [if_neg hc]
    refine ⟨?_, ?_, h2⟩
    · dsimp only
      rw [decide_eq_true (show 0 ≤ C by omega), decide_eq_true (show C ≤ 1000000 by omega)]
      rfl
    · dsimp only; omega
set_option maxHeartbeats 4000000 in
set_option maxRecDepth 100000 in
theorem impl_singles.run (a0_0 a0_1 a0_2 a1 : Int) (w : World) : Calls Try.prog 83 #[.agg #[.int .i64 a0_0, .int .i64 a0_1, .int .i64 a0_2], .int .i64 a1] w fun e w' => e = .returned (.tuple #[.agg (impl_store_grow.cs ((impl_singles.allF a0_0 a0_1 a0_2 a1).getD (0, 0, 0, 0))), .bool (impl_singles.allF a0_0 a0_1 a0_2 a1).isSome]) ∧ Below w.heap.size w w' := by
  obtain ⟨gb, hgb⟩ : ∃ g, g = w.heap.size := ⟨_, rfl⟩
  obtain ⟨gR, hgR⟩ : ∃ g, g = w.heap.size + 1 := ⟨_, rfl⟩
  obtain ⟨W0, hW⟩ : ∃ W, W = (w.alloc (.cells #[.int .i64 a0_0, .int .i64 a0_1, .int .i64 a0_2] 60)).alloc (.cells #[.int .i64 0, .int .i64 0, .int .i64 0, .int .i64 0] 110) := ⟨_, rfl⟩
  have HI : Hid (Lv.Inv w W0 [Lv.boxF gR #[.int .i64 0, .int .i64 0, .int .i64 0, .int .i64 0] 110, Lv.boxF gb #[.int .i64 a0_0, .int .i64 a0_1, .int .i64 a0_2] 60]) := by
    subst hW hgb hgR
    have := ((Lv.Inv.refl w).box #[.int .i64 a0_0, .int .i64 a0_1, .int .i64 a0_2] 60).box #[.int .i64 0, .int .i64 0, .int .i64 0, .int .i64 0] 110
    exact Lib.hid (by simpa using this)
  by_cases hru : impl_store_grow.ruleB a0_0 a0_1 a0_2 = true
  · have HRU := Lib.hid hru
    have HGR := Lib.hid (impl_store_grow.gr a0_0 a0_1 a0_2)
    rw [hru] at HGR
    have HWI := Lib.hid (impl_store_grow.wi a1 0 2000)
    by_cases hk : 0 ≤ a1 ∧ a1 ≤ 2000
    · have HA : Hid (impl_singles.allF a0_0 a0_1 a0_2 a1 = some (impl_singles.sinF a0_0 a0_1 a0_2 a1.toNat (0, 0, 0, 0))) := Lib.hid (by unfold impl_singles.allF; rw [if_pos hru, if_pos hk])
      rw [decide_eq_true hk.1, decide_eq_true hk.2] at HWI
      obtain ⟨n, rfl⟩ := Int.eq_ofNat_of_zero_le hk.1
      have HN : Hid (n ≤ 2000) := Lib.hid (by omega)
      rw [Int.toNat_natCast] at HA
      clear hru hk
      go_enter Try.func83, Try.ntmps83
      go_upto_region 1 with (fail)
      rw [← hW, ← hgR, ← hgb]
      clear hW hgb hgR
      refine Fl.startL [.take 0, .one 1, .take 2, .take 3, .take 4, .one 5, .take 6, .take 7] (by decide) HI.out ?_
      refine Fl.take (some 7) (v := .agg #[.int .i64 a0_0, .int .i64 a0_1, .int .i64 a0_2]) rfl rfl (Fl.ld 1 rfl (by rfl) _ _ rfl rfl Try.underlying60 rfl (by kernel_rfl)) ?_
      simp only [Act.put, Fl.z1, Fl.z2, Fl.z3]
      refine Fl.call (some 8) Try.func43 (by kernel_rfl) rfl #[.agg #[.int .i64 a0_0, .int .i64 a0_1, .int .i64 a0_2]] rfl rfl rfl (by rfl) rfl (fun E2 W2 hE2 hi => ?_)
      refine (HGR.out W2).mono ?_
      rintro e W' ⟨rfl, hb⟩
      refine Fl.keep (v := .bool true) hi hb ?_
      clear hi hb hE2
      simp only [Act.put, Fl.z1, Fl.z2, Fl.z3]
      refine Fl.take (some 9) (v := .bool false) rfl rfl (Or.inl ⟨by rfl, fun _ _ => by rfl⟩) ?_
      simp only [Act.put, Fl.z1, Fl.z2, Fl.z3]
      refine Fl.take (some 10) (v := .bool false) rfl rfl (Or.inl ⟨by rfl, fun _ _ => by rfl⟩) ?_
      simp only [Act.put, Fl.z1, Fl.z2, Fl.z3]
      refine Fl.take (some 11) (v := .int .i64 (n : Int)) rfl rfl (Or.inl ⟨by rfl, fun _ _ => by rfl⟩) ?_
      simp only [Act.put, Fl.z1, Fl.z2, Fl.z3]
      refine Fl.call (some 12) Try.func86 (by kernel_rfl) rfl #[.int .i64 (n : Int), .int .i64 0, .int .i64 2000] rfl rfl rfl (by rfl) rfl (fun E2 W2 hE2 hi => ?_)
      refine (HWI.out W2).mono ?_
      rintro e W' ⟨rfl, rfl⟩
      refine Fl.keep (v := .bool true) hi (Below.refl _ _) ?_
      clear hi hE2
      simp only [Act.put, Fl.z1, Fl.z2, Fl.z3]
      refine Fl.take (some 13) (v := .bool false) rfl rfl (Or.inl ⟨by rfl, fun _ _ => by rfl⟩) ?_
      simp only [Act.put, Fl.z1, Fl.z2, Fl.z3]
      refine Fl.take (some 14) (v := .bool false) rfl rfl (Or.inl ⟨by rfl, fun _ _ => by rfl⟩) ?_
      simp only [Act.put, Fl.z1, Fl.z2, Fl.z3]
      refine Fl.stop (fun W hi => ?_)
      replace HI := Lib.hid hi
      clear hi
      go_upto_region 3 with (fail)
      refine Fl.startW [.take 0, .one 1, .one 2] (by decide) HI.out ?_
      refine Fl.take (some 16) (v := .agg #[.int .i64 0, .int .i64 0, .int .i64 0, .int .i64 0]) rfl rfl (Or.inl ⟨by rfl, fun _ _ => by first | rfl | (go_simp; done) | (go_simp; rfl) | (go_simp; simp only [i64_w])⟩) ?_
      simp only [Act.put, Fl.z1, Fl.z2, Fl.z3]
      refine Fl.var (N := 6) (cs := #[.int .i64 0, .int .i64 0, .int .i64 0, .int .i64 0]) (t := 110) ⟨_, rfl, rfl, fun _ => rfl, fun e w => by first | (go_simp; done) | (go_simp; rfl)⟩ (fun gS => ?_)
      simp only [Act.put, Fl.z1, Fl.z2, Fl.z3]
      refine Fl.store 0 #[.int .i64 0, .int .i64 0, .int .i64 0, .int .i64 0] rfl rfl rfl rfl _ _ _ rfl rfl rfl (by rfl) rfl (by kernel_rfl) (by simp [Value.oneCell']) ?_
      refine Fl.stopW (fun W hi => ?_)
      replace HI := Lib.hid hi
      clear hi
      go_upto_region 4 with (fail)
      refine Fl.startL [.take 0, .take 1] (by decide) HI.out ?_
      refine Fl.take (some 17) (v := .int .i64 (n : Int)) rfl rfl (Or.inl ⟨by rfl, fun _ _ => by rfl⟩) ?_
      simp only [Act.put, Fl.z1, Fl.z2, Fl.z3]
      refine Fl.take (some 18) (v := .int .i64 0) rfl rfl (Or.inl ⟨by rfl, fun _ _ => by rfl⟩) ?_
      simp only [Act.put, Fl.z1, Fl.z2, Fl.z3]
      refine Fl.stop (fun W hi => ?_)
      replace HI := Lib.hid hi
      clear hi
      clear HGR HWI
      go_wp2
      go_loopg [18] n (fun gg s18 wr => ∃ (i : Nat) (s : Int × Int × Int × Int), s18 = .int .i64 (i : Int) ∧ Hid (i ≤ n ∧ n - i ≤ gg) ∧ Hid (impl_store_grow.Ok s i) ∧ Hid (s.1 = (i : Int) ∧ s.2.1 ≤ 16100) ∧ Hid (impl_singles.allF a0_0 a0_1 a0_2 (n : Int) = some (impl_singles.sinF a0_0 a0_1 a0_2 (n - i) s)) ∧ Hid (Lv.Inv w wr [Lv.boxF gS (impl_store_grow.cs s) 110, Lv.boxF gR #[.int .i64 0, .int .i64 0, .int .i64 0, .int .i64 0] 110, Lv.boxF gb #[.int .i64 a0_0, .int .i64 a0_1, .int .i64 a0_2] 60]))
      case atStart => exact ⟨0, (0, 0, 0, 0), rfl, Lib.hid (by simp), Lib.hid ⟨by decide, by decide, by decide, by decide, by decide, by decide, by decide⟩, Lib.hid ⟨rfl, by decide⟩, HA, HI⟩
      case round =>
        clear HI HA
        obtain ⟨i, s, rfl, HK, HOK, HS, HG, HI⟩ := hrel
        by_cases hlt : i < n
        · have ho := impl_singles.one HRU.out HS.out.1 (by have := HN.out; omega) HOK.out.lc HS.out.2
          obtain ⟨q, hq⟩ : ∃ q, q = impl_store_grow.stepF a0_0 a0_1 a0_2 s 1 := ⟨_, rfl⟩
          have hk := impl_store_grow.ok_step (num := a0_0) (den := a0_1) (add := a0_2) (n := 1) (s := s) (x := (i : Int)) ho.1 HOK.out
          have hg := HG.out
          rw [show n - i = (n - (i + 1)) + 1 by omega, impl_singles.sinF] at hg
          rw [← hq] at ho hk hg
          have HQ0 := Lib.hid hq.symm
          obtain ⟨bq, s2⟩ := q
          obtain rfl : bq = true := ho.1
          have HQ : Hid (impl_store_grow.stepF a0_0 a0_1 a0_2 s 1 = (true, s2)) := HQ0
          have HG2 := Lib.hid hg
          have HS2 : Hid (s2.1 = ((i + 1 : Nat) : Int) ∧ s2.2.1 ≤ 16100) := Lib.hid ho.2
          have HOK2 : Hid (impl_store_grow.Ok s2 ((i + 1 : Nat) : Int)) := Lib.hid hk
          clear ho hk hg hq HQ0 HG
          have k1 : (i : Int) < (n : Int) := by omega
          have k3 : ((n : Int)).toNat ≤ 1048576 := by have := HN.out; omega
          have k4 : (i : Int) < 2000 := by have := HN.out; omega
          go_upto_region 6 with (fail)
          refine Fl.startW [.one 0, .one 1] (by decide) HI.out ?_
          refine Fl.ldF (some 20) 2 rfl rfl rfl (by rfl) _ _ rfl rfl Try.underlying60 rfl (by kernel_rfl) ?_
          simp only [Act.put, Fl.z1, Fl.z2, Fl.z3]
          refine Fl.call (some 21) Try.func88 (by kernel_rfl) rfl #[.pointer (some ⟨gS, 0, none⟩), .agg #[.int .i64 a0_0, .int .i64 a0_1, .int .i64 a0_2], .int .i64 1] rfl rfl rfl (by rfl) rfl (fun E2 W hE2 hi => ?_)
          have hc_ := impl_store_grow.run a0_0 a0_1 a0_2 1 s gS 0 _ W _ hi rfl HRU.out _ HOK.out (by have := HK.out; have := HN.out; omega)
          rw [HQ.out] at hc_
          refine hc_.mono ?_
          rintro e W' ⟨rfl, hi2⟩
          refine Fl.keepI (F := []) (v := .bool true) (F' := Lv.boxF gS (impl_store_grow.cs s2) 110 :: [Lv.boxF gR #[.int .i64 0, .int .i64 0, .int .i64 0, .int .i64 0] 110, Lv.boxF gb #[.int .i64 a0_0, .int .i64 a0_1, .int .i64 a0_2] 60]) hi2 ?_
          clear hi hi2 hE2 hc_
          simp only [Act.put, Fl.z1, Fl.z2, Fl.z3]
          refine Fl.stopW (fun W hi => ?_)
          replace HI := Lib.hid hi
          clear hi
          go_wp2
          go_roundg (n - (i + 1))
          case measure => have := HK.out; omega
          case rel => exact ⟨i + 1, s2, by go_num, Lib.hid (by have := HK.out; omega), HOK2, HS2, HG2, HI⟩
        · have hg := HG.out
          rw [show n - i = 0 by omega, impl_singles.sinF] at hg
          have HA := Lib.hid hg
          clear hg HG
          go_upto_region 8 with (fail)
          refine Fl.startW [.one 0, .one 1, .take 2] (by decide) HI.out ?_
          refine Fl.ldF (some 23) 0 rfl rfl rfl (by rfl) _ _ rfl rfl Try.underlying110 rfl (by kernel_rfl) ?_
          simp only [Act.put, Fl.z1, Fl.z2, Fl.z3]
          refine Fl.store 1 (impl_store_grow.cs s) rfl rfl rfl rfl _ _ _ rfl rfl rfl (by rfl) rfl (by kernel_rfl) (by simp [Value.oneCell']) ?_
          refine Fl.take (some 5) (v := .bool true) rfl rfl (Or.inl ⟨by rfl, fun _ _ => by rfl⟩) ?_
          simp only [Act.put, Fl.z1, Fl.z2, Fl.z3]
          refine Fl.stopW (fun W hi => ?_)
          replace HI := Lib.hid hi
          clear hi
          go_wp2
          refine bodyPost_ret (v := .tuple #[.agg (impl_store_grow.cs s), .bool true]) (results_list (rs := [.cell 4 110, .tmp 5]) rfl (by simp) (.cell _ _ _ (0, 0) _ rfl (HI.out.blk 1 rfl) Try.underlying110 rfl (by kernel_rfl) (.tmp .nil))) rfl ?_
          rw [HA.out]
          exact ⟨rfl, HI.out.bel⟩
    · have HA : Hid (impl_singles.allF a0_0 a0_1 a0_2 a1 = none) := Lib.hid (by unfold impl_singles.allF; rw [if_pos hru, if_neg hk])
      rw [show (decide (0 ≤ a1) && decide (a1 ≤ 2000)) = false from by rw [← Bool.decide_and]; exact decide_eq_false hk] at HWI
      clear hru hk
      go_enter Try.func83, Try.ntmps83
      go_upto_region 1 with (fail)
      rw [← hW, ← hgR, ← hgb]
      clear hW hgb hgR
      refine Fl.startL [.take 0, .one 1, .take 2, .take 3, .take 4, .one 5, .take 6, .take 7] (by decide) HI.out ?_
      refine Fl.take (some 7) (v := .agg #[.int .i64 a0_0, .int .i64 a0_1, .int .i64 a0_2]) rfl rfl (Fl.ld 1 rfl (by rfl) _ _ rfl rfl Try.underlying60 rfl (by kernel_rfl)) ?_
      simp only [Act.put, Fl.z1, Fl.z2, Fl.z3]
      refine Fl.call (some 8) Try.func43 (by kernel_rfl) rfl #[.agg #[.int .i64 a0_0, .int .i64 a0_1, .int .i64 a0_2]] rfl rfl rfl (by rfl) rfl (fun E2 W2 hE2 hi => ?_)
      refine (HGR.out W2).mono ?_
      rintro e W' ⟨rfl, hb⟩
      refine Fl.keep (v := .bool true) hi hb ?_
      clear hi hb hE2
      simp only [Act.put, Fl.z1, Fl.z2, Fl.z3]
      refine Fl.take (some 9) (v := .bool false) rfl rfl (Or.inl ⟨by rfl, fun _ _ => by rfl⟩) ?_
      simp only [Act.put, Fl.z1, Fl.z2, Fl.z3]
      refine Fl.take (some 10) (v := .bool false) rfl rfl (Or.inl ⟨by rfl, fun _ _ => by rfl⟩) ?_
      simp only [Act.put, Fl.z1, Fl.z2, Fl.z3]
      refine Fl.take (some 11) (v := .int .i64 a1) rfl rfl (Or.inl ⟨by rfl, fun _ _ => by rfl⟩) ?_
      simp only [Act.put, Fl.z1, Fl.z2, Fl.z3]
      refine Fl.call (some 12) Try.func86 (by kernel_rfl) rfl #[.int .i64 a1, .int .i64 0, .int .i64 2000] rfl rfl rfl (by rfl) rfl (fun E2 W2 hE2 hi => ?_)
      refine (HWI.out W2).mono ?_
      rintro e W' ⟨rfl, rfl⟩
      refine Fl.keep (v := .bool false) hi (Below.refl _ _) ?_
      clear hi hE2
      simp only [Act.put, Fl.z1, Fl.z2, Fl.z3]
      refine Fl.take (some 13) (v := .bool true) rfl rfl (Or.inl ⟨by rfl, fun _ _ => by rfl⟩) ?_
      simp only [Act.put, Fl.z1, Fl.z2, Fl.z3]
      refine Fl.take (some 14) (v := .bool true) rfl rfl (Or.inl ⟨by rfl, fun _ _ => by rfl⟩) ?_
      simp only [Act.put, Fl.z1, Fl.z2, Fl.z3]
      refine Fl.stop (fun W hi => ?_)
      replace HI := Lib.hid hi
      clear hi
      go_upto_region 2 with (fail)
      refine Fl.startW [.take 0, .one 1, .take 2] (by decide) HI.out ?_
      refine Fl.take (some 15) (v := .agg #[.int .i64 0, .int .i64 0, .int .i64 0, .int .i64 0]) rfl rfl (Or.inl ⟨by rfl, fun _ _ => by first | rfl | (go_simp; done) | (go_simp; rfl) | (go_simp; simp only [i64_w])⟩) ?_
      simp only [Act.put, Fl.z1, Fl.z2, Fl.z3]
      refine Fl.store 0 #[.int .i64 0, .int .i64 0, .int .i64 0, .int .i64 0] rfl rfl rfl rfl _ _ _ rfl rfl rfl (by rfl) rfl (by kernel_rfl) (by simp [Value.oneCell']) ?_
      refine Fl.take (some 5) (v := .bool false) rfl rfl (Or.inl ⟨by rfl, fun _ _ => by rfl⟩) ?_
      simp only [Act.put, Fl.z1, Fl.z2, Fl.z3]
      refine Fl.stopW (fun W hi => ?_)
      replace HI := Lib.hid hi
      clear hi
      go_wp2
      refine bodyPost_ret (v := .tuple #[.agg #[.int .i64 0, .int .i64 0, .int .i64 0, .int .i64 0], .bool false]) (results_list (rs := [.cell 4 110, .tmp 5]) rfl (by simp) (.cell _ _ _ (0, 0) _ rfl (HI.out.blk 0 rfl) Try.underlying110 rfl (by kernel_rfl) (.tmp .nil))) rfl ?_
      rw [HA.out]
      exact ⟨rfl, HI.out.bel⟩
  · have HA : Hid (impl_singles.allF a0_0 a0_1 a0_2 a1 = none) := Lib.hid (by unfold impl_singles.allF; rw [if_neg hru])
    have HGR := Lib.hid (impl_store_grow.gr a0_0 a0_1 a0_2)
    rw [show impl_store_grow.ruleB a0_0 a0_1 a0_2 = false from Bool.eq_false_iff.mpr hru] at HGR
    clear hru
    go_enter Try.func83, Try.ntmps83
    go_upto_region 1 with (fail)
    rw [← hW, ← hgR, ← hgb]
    clear hW hgb hgR
    refine Fl.startL [.take 0, .one 1, .take 2, .take 3, .take 4, .take 5, .take 6, .take 7] (by decide) HI.out ?_
    refine Fl.take (some 7) (v := .agg #[.int .i64 a0_0, .int .i64 a0_1, .int .i64 a0_2]) rfl rfl (Fl.ld 1 rfl (by rfl) _ _ rfl rfl Try.underlying60 rfl (by kernel_rfl)) ?_
    simp only [Act.put, Fl.z1, Fl.z2, Fl.z3]
    refine Fl.call (some 8) Try.func43 (by kernel_rfl) rfl #[.agg #[.int .i64 a0_0, .int .i64 a0_1, .int .i64 a0_2]] rfl rfl rfl (by rfl) rfl (fun E2 W2 hE2 hi => ?_)
    refine (HGR.out W2).mono ?_
    rintro e W' ⟨rfl, hb⟩
    refine Fl.keep (v := .bool false) hi hb ?_
    clear hi hb hE2
    simp only [Act.put, Fl.z1, Fl.z2, Fl.z3]
    refine Fl.take (some 9) (v := .bool true) rfl rfl (Or.inl ⟨by rfl, fun _ _ => by rfl⟩) ?_
    simp only [Act.put, Fl.z1, Fl.z2, Fl.z3]
    refine Fl.take (some 10) (v := .bool true) rfl rfl (Or.inl ⟨by rfl, fun _ _ => by rfl⟩) ?_
    simp only [Act.put, Fl.z1, Fl.z2, Fl.z3]
    refine Fl.take (some 11) (v := undef) rfl rfl (Or.inr ⟨by rfl, rfl⟩) ?_
    simp only [Act.put, Fl.z1, Fl.z2, Fl.z3]
    refine Fl.take (some 12) (v := undef) rfl rfl (Or.inr ⟨by rfl, rfl⟩) ?_
    simp only [Act.put, Fl.z1, Fl.z2, Fl.z3]
    refine Fl.take (some 13) (v := undef) rfl rfl (Or.inr ⟨by rfl, rfl⟩) ?_
    simp only [Act.put, Fl.z1, Fl.z2, Fl.z3]
    refine Fl.take (some 14) (v := .bool true) rfl rfl (Or.inl ⟨by rfl, fun _ _ => by rfl⟩) ?_
    simp only [Act.put, Fl.z1, Fl.z2, Fl.z3]
    refine Fl.stop (fun W hi => ?_)
    replace HI := Lib.hid hi
    clear hi
    go_upto_region 2 with (fail)
    refine Fl.startW [.take 0, .one 1, .take 2] (by decide) HI.out ?_
    refine Fl.take (some 15) (v := .agg #[.int .i64 0, .int .i64 0, .int .i64 0, .int .i64 0]) rfl rfl (Or.inl ⟨by rfl, fun _ _ => by first | rfl | (go_simp; done) | (go_simp; rfl) | (go_simp; simp only [i64_w])⟩) ?_
    simp only [Act.put, Fl.z1, Fl.z2, Fl.z3]
    refine Fl.store 0 #[.int .i64 0, .int .i64 0, .int .i64 0, .int .i64 0] rfl rfl rfl rfl _ _ _ rfl rfl rfl (by rfl) rfl (by kernel_rfl) (by simp [Value.oneCell']) ?_
    refine Fl.take (some 5) (v := .bool false) rfl rfl (Or.inl ⟨by rfl, fun _ _ => by rfl⟩) ?_
    simp only [Act.put, Fl.z1, Fl.z2, Fl.z3]
    refine Fl.stopW (fun W hi => ?_)
    replace HI := Lib.hid hi
    clear hi
    go_wp2
    refine bodyPost_ret (v := .tuple #[.agg #[.int .i64 0, .int .i64 0, .int .i64 0, .int .i64 0], .bool false]) (results_list (rs := [.cell 4 110, .tmp 5]) rfl (by simp) (.cell _ _ _ (0, 0) _ rfl (HI.out.blk 0 rfl) Try.underlying110 rfl (by kernel_rfl) (.tmp .nil))) rfl ?_
    rw [HA.out]
    exact ⟨rfl, HI.out.bel⟩

/-! ### impl_SingleCost: function 37 (by hand) -/
def impl_SingleCost.f (a0_0 a0_1 a0_2 : Int) (a1 : Int) : Option (Int × Bool) := some (((impl_singles.allF a0_0 a0_1 a0_2 a1).getD (0, 0, 0, 0)).2.2.2, (impl_singles.allF a0_0 a0_1 a0_2 a1).isSome)
set_option maxHeartbeats 4000000 in
set_option maxRecDepth 100000 in
theorem impl_SingleCost.calls (a0_0 a0_1 a0_2 : Int) (a1 : Int) (r1 : Int) (r2 : Bool) (w : World) (h : impl_SingleCost.f a0_0 a0_1 a0_2 a1 = some (r1, r2)) :
    Calls Try.prog 37 #[.agg #[.int .i64 a0_0, .int .i64 a0_1, .int .i64 a0_2], .int .i64 a1] w fun e w' => e = .returned (.tuple #[.int .i64 r1, .bool r2]) ∧ Below w.heap.size w w' := by
  obtain ⟨sl, hsl⟩ : ∃ s, s = (impl_singles.allF a0_0 a0_1 a0_2 a1).getD (0, 0, 0, 0) := ⟨_, rfl⟩
  obtain ⟨q, hq⟩ : ∃ q, q = (impl_singles.allF a0_0 a0_1 a0_2 a1).isSome := ⟨_, rfl⟩
  have HC := Lib.hid (impl_singles.run a0_0 a0_1 a0_2 a1)
  unfold impl_SingleCost.f at h
  rw [← hsl, ← hq] at h HC
  obtain ⟨rfl, rfl⟩ := Prod.mk.inj (Option.some.inj h)
  clear h hsl
  obtain ⟨gb, hgb⟩ : ∃ g, g = w.heap.size := ⟨_, rfl⟩
  obtain ⟨W0, hW⟩ : ∃ W, W = w.alloc (.cells #[.int .i64 a0_0, .int .i64 a0_1, .int .i64 a0_2] 60) := ⟨_, rfl⟩
  have HI : Hid (Lv.Inv w W0 [Lv.boxF gb #[.int .i64 a0_0, .int .i64 a0_1, .int .i64 a0_2] 60]) := by
    subst hW hgb
    exact Lib.hid ((Lv.Inv.refl w).box #[.int .i64 a0_0, .int .i64 a0_1, .int .i64 a0_2] 60)
  go_enter Try.func37, Try.ntmps37
  go_upto_region 1 with (fail)
  rw [← hW, ← hgb]
  clear hW hgb
  refine Fl.startW [.one 0, .take 1, .one 2, .take 3, .take 4, .take 5, .one 6, .one 7, .take 8] (by decide) HI.out ?_
  refine Fl.ldF (some 9) 0 rfl rfl rfl (by rfl) _ _ rfl rfl Try.underlying60 rfl (by kernel_rfl) ?_
  simp only [Act.put, Fl.z1, Fl.z2, Fl.z3]
  refine Fl.take (some 10) (v := .int .i64 a1) rfl rfl (Or.inl ⟨by rfl, fun _ _ => by rfl⟩) ?_
  simp only [Act.put, Fl.z1, Fl.z2, Fl.z3]
  refine Fl.call (some 11) Try.func83 (by kernel_rfl) rfl #[.agg #[.int .i64 a0_0, .int .i64 a0_1, .int .i64 a0_2], .int .i64 a1] rfl rfl rfl (by rfl) rfl (fun E2 W2 hE2 hi => ?_)
  refine (HC.out W2).mono ?_
  rintro e W' ⟨rfl, hb⟩
  refine Fl.keep (v := .tuple #[.agg (impl_store_grow.cs sl), .bool q]) hi hb ?_
  clear hi hb hE2
  simp only [Act.put, Fl.z1, Fl.z2, Fl.z3]
  refine Fl.take (some 8) (v := .tuple #[.agg (impl_store_grow.cs sl), .bool q]) rfl rfl (Or.inl ⟨by rfl, fun _ _ => by rfl⟩) ?_
  simp only [Act.put, Fl.z1, Fl.z2, Fl.z3]
  refine Fl.take (some 12) (v := .agg (impl_store_grow.cs sl)) rfl rfl (Or.inl ⟨by rfl, fun _ _ => by rfl⟩) ?_
  simp only [Act.put, Fl.z1, Fl.z2, Fl.z3]
  refine Fl.take (some 13) (v := .bool q) rfl rfl (Or.inl ⟨by rfl, fun _ _ => by rfl⟩) ?_
  simp only [Act.put, Fl.z1, Fl.z2, Fl.z3]
  refine Fl.var (N := 6) (cs := #[.int .i64 0, .int .i64 0, .int .i64 0, .int .i64 0]) (t := 110) ⟨_, rfl, rfl, fun _ => rfl, fun e w => by first | (go_simp; done) | (go_simp; rfl)⟩ (fun gs => ?_)
  simp only [Act.put, Fl.z1, Fl.z2, Fl.z3]
  refine Fl.store 0 (impl_store_grow.cs sl) rfl rfl rfl rfl _ _ _ rfl rfl rfl (by rfl) rfl (by kernel_rfl) (by simp [Value.oneCell']) ?_
  refine Fl.take (some 7) (v := .bool q) rfl rfl (Or.inl ⟨by rfl, fun _ _ => by rfl⟩) ?_
  simp only [Act.put, Fl.z1, Fl.z2, Fl.z3]
  refine Fl.stopW (fun W hi => ?_)
  replace HI := Lib.hid hi
  clear hi
  go_upto_region 2 with (fail)
  refine Fl.startL [.take 0, .take 1, .take 2, .take 3, .take 4] (by decide) HI.out ?_
  refine Fl.take (some 14) (v := .pointer (some ⟨gs, 3, none⟩)) rfl rfl (Or.inl ⟨by rfl, fun _ _ => by first | rfl | (go_simp; done) | (go_simp; rfl) | (go_simp; omega)⟩) ?_
  simp only [Act.put, Fl.z1, Fl.z2, Fl.z3]
  refine Fl.take (some 15) (v := .int .i64 sl.2.2.2) rfl rfl (Fl.ldc 0 3 rfl (by rfl) _ _ rfl rfl rfl Try.underlying3 rfl) ?_
  simp only [Act.put, Fl.z1, Fl.z2, Fl.z3]
  refine Fl.take (some 16) (v := .bool q) rfl rfl (Or.inl ⟨by rfl, fun _ _ => by rfl⟩) ?_
  simp only [Act.put, Fl.z1, Fl.z2, Fl.z3]
  refine Fl.take (some 4) (v := .int .i64 sl.2.2.2) rfl rfl (Or.inl ⟨by rfl, fun _ _ => by rfl⟩) ?_
  simp only [Act.put, Fl.z1, Fl.z2, Fl.z3]
  refine Fl.take (some 5) (v := .bool q) rfl rfl (Or.inl ⟨by rfl, fun _ _ => by rfl⟩) ?_
  simp only [Act.put, Fl.z1, Fl.z2, Fl.z3]
  refine Fl.stop (fun W hi => ?_)
  replace HI := Lib.hid hi
  clear hi
  go_wp2
  go_ret2
  exact ⟨rfl, HI.out.bel⟩

open Go.Proofs.Ytkifenbcepicjab.Cp
/-! ### spec_l4Singles: function 84 -/
mutual
def spec_l4Singles.j0 : Nat → Int → Bool → Int → Int → Int → Int → Int → Int → Int → Int → Option (List Int × Int × Int × Int × Int × Int × Bool)
 | 0, _, _, _, _, _, _, _, _, _, _ => none
 | k + 1, x1, x18, x288000, x288001, x288002, x290001, x290002, x290003, x290004, x290005 => if x18 = true then (some (([] : List Int), x290001, x290002, x290003, x290004, x290005, false)) else (spec_l4Singles.l0 k x1 0 x288000 x288001 x288002 ([] : List Int) x290001 x290002 x290003 x290004 x290005)
def spec_l4Singles.l0 : Nat → Int → Int → Int → Int → Int → List Int → Int → Int → Int → Int → Int → Option (List Int × Int × Int × Int × Int × Int × Bool)
 | 0, _, _, _, _, _, _, _, _, _, _, _ => none
 | k + 1, x1, x7, x288000, x288001, x288002, x290000, x290001, x290002, x290003, x290004, x290005 => if x7 < x1 then ((spec_l4Do.f k x288000 x288001 x288002 0 x290000 x290001 x290002 x290003 x290004 x290005 1).bind fun bt292 => (if bt292.2.2.2.2.2.2 = true then (spec_l4Singles.l0 k x1 (wrap64 (x7 + 1)) x288000 x288001 x288002 bt292.1 bt292.2.1 bt292.2.2.1 bt292.2.2.2.1 bt292.2.2.2.2.1 bt292.2.2.2.2.2.1) else (some (([] : List Int), 0, 0, 0, 0, 0, false)))) else (some (x290000, x290001, x290002, x290003, x290004, x290005, true))
end
def spec_l4Singles.f (k : Nat) (a0_0 : Int) (a0_1 : Int) (a0_2 : Int) (a1 : Int) : Option (List Int × Int × Int × Int × Int × Int × Bool) := (spec_l4Rule.f a0_0 a0_1 a0_2).bind fun t290 => (if t290 = true then ((spec_l1In.f a1 0 2000).bind fun t291 => (spec_l4Singles.j0 k a1 (!t291) a0_0 a0_1 a0_2 0 0 0 0 0)) else (spec_l4Singles.j0 k a1 true a0_0 a0_1 a0_2 0 0 0 0 0))
theorem spec_l4Singles.mono_l : ∀ k, (∀ y0 y1 y2 y3 y4 y5 y6 y7 y8 y9, LeO (spec_l4Singles.j0 k y0 y1 y2 y3 y4 y5 y6 y7 y8 y9) (spec_l4Singles.j0 (k + 1) y0 y1 y2 y3 y4 y5 y6 y7 y8 y9)) ∧ (∀ y0 y1 y2 y3 y4 y5 y6 y7 y8 y9 y10, LeO (spec_l4Singles.l0 k y0 y1 y2 y3 y4 y5 y6 y7 y8 y9 y10) (spec_l4Singles.l0 (k + 1) y0 y1 y2 y3 y4 y5 y6 y7 y8 y9 y10))
 | 0 => ⟨fun _ _ _ _ _ _ _ _ _ _ r h => by simp [spec_l4Singles.j0] at h, fun _ _ _ _ _ _ _ _ _ _ _ r h => by simp [spec_l4Singles.l0] at h⟩
 | k + 1 => by
  obtain ⟨ih0, ih1⟩ := spec_l4Singles.mono_l k
  refine ⟨?_, ?_⟩
  ·intro y0 y1 y2 y3 y4 y5 y6 y7 y8 y9
   unfold spec_l4Singles.j0
   repeat' first
   | (with_reducible exact ih0 _ _ _ _ _ _ _ _ _ _)
   | (with_reducible exact ih1 _ _ _ _ _ _ _ _ _ _ _)
   | (with_reducible exact spec_l4Do.mono _ _ _ _ _ _ _ _ _ _ _ _)
   | (with_reducible exact LeO.refl _)
   | (with_reducible exact LeO.none _)
   | (with_reducible refine LeO.ite ?_ ?_)
   | (with_reducible refine LeO.bind ?_ (fun _ => ?_))
   | exact ih0 _ _ _ _ _ _ _ _ _ _
   | exact ih1 _ _ _ _ _ _ _ _ _ _ _
   | exact spec_l4Do.mono _ _ _ _ _ _ _ _ _ _ _ _
   | exact LeO.none _
   | refine LeO.ite ?_ ?_
   | refine LeO.bind ?_ (fun _ => ?_)
  ·intro y0 y1 y2 y3 y4 y5 y6 y7 y8 y9 y10
   unfold spec_l4Singles.l0
   repeat' first
   | (with_reducible exact ih0 _ _ _ _ _ _ _ _ _ _)
   | (with_reducible exact ih1 _ _ _ _ _ _ _ _ _ _ _)
   | (with_reducible exact spec_l4Do.mono _ _ _ _ _ _ _ _ _ _ _ _)
   | (with_reducible exact LeO.refl _)
   | (with_reducible exact LeO.none _)
   | (with_reducible refine LeO.ite ?_ ?_)
   | (with_reducible refine LeO.bind ?_ (fun _ => ?_))
   | exact ih0 _ _ _ _ _ _ _ _ _ _
   | exact ih1 _ _ _ _ _ _ _ _ _ _ _
   | exact spec_l4Do.mono _ _ _ _ _ _ _ _ _ _ _ _
   | exact LeO.none _
   | refine LeO.ite ?_ ?_
   | refine LeO.bind ?_ (fun _ => ?_)
theorem spec_l4Singles.mono : ∀ a0 a1 a2 a3 k, LeO (spec_l4Singles.f k a0 a1 a2 a3) (spec_l4Singles.f (k + 1) a0 a1 a2 a3) := by
 intro a0 a1 a2 a3 k
 obtain ⟨ih0, ih1⟩ := spec_l4Singles.mono_l k
 unfold spec_l4Singles.f
 repeat' first
   | (with_reducible exact ih0 _ _ _ _ _ _ _ _ _ _)
   | (with_reducible exact ih1 _ _ _ _ _ _ _ _ _ _ _)
   | (with_reducible exact spec_l4Do.mono _ _ _ _ _ _ _ _ _ _ _ _)
   | (with_reducible exact LeO.refl _)
   | (with_reducible exact LeO.none _)
   | (with_reducible refine LeO.ite ?_ ?_)
   | (with_reducible refine LeO.bind ?_ (fun _ => ?_))
   | exact ih0 _ _ _ _ _ _ _ _ _ _
   | exact ih1 _ _ _ _ _ _ _ _ _ _ _
   | exact spec_l4Do.mono _ _ _ _ _ _ _ _ _ _ _ _
   | exact LeO.none _
   | refine LeO.ite ?_ ?_
   | refine LeO.bind ?_ (fun _ => ?_)
set_option maxHeartbeats 8000000 in
set_option maxRecDepth 100000 in
theorem spec_l4Singles.calls (k : Nat) (a0_0 : Int) (a0_1 : Int) (a0_2 : Int) (a1 : Int) (r1 : List Int) (r2 : Int) (r3 : Int) (r4 : Int) (r5 : Int) (r6 : Int) (r7 : Bool) (w : World) (h : spec_l4Singles.f k a0_0 a0_1 a0_2 a1 = some (r1, r2, r3, r4, r5, r6, r7)) :
  Calls Try.prog 84 #[.agg #[.int .i64 a0_0, .int .i64 a0_1, .int .i64 a0_2], .int .i64 a1] w fun e w' => ∃ v0_ : Value, e = .returned (.tuple #[.agg #[v0_, .int .i64 r2, .int .i64 r3, .int .i64 r4, .int .i64 r5, .int .i64 r6], .bool r7]) ∧ Kd.R (Kd.int .i64) 3 w' w.heap.size (fun _ => True) v0_ r1 ∧ Below w.heap.size w w' := by
 have hu60 := Try.underlying60
 have hu115 := Try.underlying115
 have HB := Aside0.mk (Below.refl w.heap.size w)
 have H : ((spec_l4Rule.f a0_0 a0_1 a0_2).bind fun t290 => (if t290 = true then ((spec_l1In.f a1 0 2000).bind fun t291 => (spec_l4Singles.j0 k a1 (!t291) a0_0 a0_1 a0_2 0 0 0 0 0)) else (spec_l4Singles.j0 k a1 true a0_0 a0_1 a0_2 0 0 0 0 0))) = some (r1, r2, r3, r4, r5, r6, r7) := h
 clear h
 have HC3 := Aside0.mk H
 clear H
 go_enter Try.func84, Try.ntmps84
 go_upto_region 2 with (first | ((with_reducible refine gate_dst (N := 2) rfl ?_); refine box_event ?hg (N := 2) ?hd (cs := #[.int .i64 a0_0, .int .i64 a0_1, .int .i64 a0_2]) (t := 60) ?hr ?_; (case hd => rfl); (case hg => rfl); (case hr => first | (go_simp; done) | (go_simp; rfl)); intro gb287 hg w4 hbox hb; have BK287 := Aside0.mk (hbox); have GW287 := zge HB hg; have GE287 := zge HB hg; replace HB := zhs HB hb; clear hb hbox hg) | ((with_reducible refine gate_dst (N := 4) rfl ?_); refine box_event ?hg (N := 4) ?hd (cs := #[.slice none 0 0, .int .i64 0, .int .i64 0, .int .i64 0, .int .i64 0, .int .i64 0]) (t := 115) ?hr ?_; (case hd => rfl); (case hg => rfl); (case hr => first | (go_simp; done) | (go_simp; rfl)); intro gb288 hg w5 hbox hb; have BK288 := Aside0.mk (hbox); have GW288 := zge HB hg; have GE288 := zge HB hg; have NB287_288 := znl BK287 hg; have NB288_287 := znr BK287 hg; replace BK287 := zb0 BK287 hb; replace HB := zhs HB hb; clear hb hbox hg) | ((with_reducible refine gate_dst (N := 6) rfl ?_); refine box_event ?hg (N := 6) ?hd (cs := #[.slice none 0 0, .int .i64 0, .int .i64 0, .int .i64 0, .int .i64 0, .int .i64 0]) (t := 115) ?hr ?_; (case hd => rfl); (case hg => rfl); (case hr => first | (go_simp; done) | (go_simp; rfl)); intro gb289 hg w6 hbox hb; have BK289 := Aside0.mk (hbox); have GW289 := zge HB hg; have GE289 := zge HB hg; have NB287_289 := znl BK287 hg; have NB289_287 := znr BK287 hg; have NB288_289 := znl BK288 hg; have NB289_288 := znr BK288 hg; replace BK287 := zb0 BK287 hb; replace BK288 := zb0 BK288 hb; replace HB := zhs HB hb; clear hb hbox hg; have hnb7 := NB289_287.out; have hnc7 := NB287_289.out; have hnb8 := NB289_288.out; have hnc8 := NB288_289.out; have hcz9_0 := zc0 BK289 0 rfl; have hcz9_1 := zc0 BK289 1 rfl; have hcz9_2 := zc0 BK289 2 rfl; have hcz9_3 := zc0 BK289 3 rfl; have hcz9_4 := zc0 BK289 4 rfl; have hcz9_5 := zc0 BK289 5 rfl; have hfz9_0 := blk_frozen BK289.out 0; have hfz9_1 := blk_frozen BK289.out 1; have hfz9_2 := blk_frozen BK289.out 2; have hfz9_3 := blk_frozen BK289.out 3; have hfz9_4 := blk_frozen BK289.out 4; have hfz9_5 := blk_frozen BK289.out 5))
 (try simp only [Act.put, zp1, zp2, zp3])
 go_cut [18] (fun v18 wc => ∃ (kq : Nat) (x18_2 : Bool), v18 = .bool x18_2 ∧ Aside0 (spec_l4Singles.j0 kq a1 x18_2 a0_0 a0_1 a0_2 0 0 0 0 0 = some (r1, r2, r3, r4, r5, r6, r7)) ∧ Aside0 (kq ≤ k) ∧ Aside0 (wc.heap[gb287]? = some (.cells #[.int .i64 a0_0, .int .i64 a0_1, .int .i64 a0_2] 60 (0, 0))) ∧ Aside0 (wc.heap[gb288]? = some (.cells #[(.slice none 0 0), .int .i64 0, .int .i64 0, .int .i64 0, .int .i64 0, .int .i64 0] 115 (0, 0))) ∧ Aside0 (wc.heap[gb289]? = some (.cells #[(.slice none 0 0), .int .i64 0, .int .i64 0, .int .i64 0, .int .i64 0, .int .i64 0] 115 (0, 0))) ∧ Aside0 (Below w.heap.size w wc))
 case first =>
  have H := HC3.out
  clear HC3
  replace H := Option.bind_eq_some_iff.mp H
  obtain ⟨t290, A100, H⟩ := H
  replace H : (if t290 = true then ((spec_l1In.f a1 0 2000).bind fun t291 => (spec_l4Singles.j0 k a1 (!t291) a0_0 a0_1 a0_2 0 0 0 0 0)) else (spec_l4Singles.j0 k a1 true a0_0 a0_1 a0_2 0 0 0 0 0)) = some (r1, r2, r3, r4, r5, r6, r7) := H
  have A10 := Aside0.mk A100
  clear A100
  by_cases c11 : t290 = true
  ·subst c11
   have H1 : ((spec_l1In.f a1 0 2000).bind fun t291 => (spec_l4Singles.j0 k a1 (!t291) a0_0 a0_1 a0_2 0 0 0 0 0)) = some (r1, r2, r3, r4, r5, r6, r7) := by rw [if_pos rfl] at H; exact H
   clear H
   have H := H1
   clear H1
   replace H := Option.bind_eq_some_iff.mp H
   obtain ⟨t291, A120, H⟩ := H
   replace H : (spec_l4Singles.j0 k a1 (!t291) a0_0 a0_1 a0_2 0 0 0 0 0) = some (r1, r2, r3, r4, r5, r6, r7) := H
   have A12 := Aside0.mk A120
   clear A120
   have H' := Aside0.mk H
   clear H
   have hnb13 := NB287_288.out
   have hnc13 := NB288_287.out
   have hnb14 := NB287_289.out
   have hnc14 := NB289_287.out
   have hcz15_0 := zc0 BK287 0 rfl
   have hcz15_1 := zc0 BK287 1 rfl
   have hcz15_2 := zc0 BK287 2 rfl
   have hfz15_0 := blk_frozen BK287.out 0
   have hfz15_1 := blk_frozen BK287.out 1
   have hfz15_2 := blk_frozen BK287.out 2
   go_wp2_with (first | ((with_reducible refine gate_callee (f := 85) rfl ?_); refine goesL_ (some 12) rfl rfl Try.func85 (by kernel_rfl) rfl #[.agg #[.int .i64 a0_0, .int .i64 a0_1, .int .i64 a0_2]] rfl (by (try simp only [zq1, zq2, zq3]); first | done | rfl | (simp only [List.length_drop, List.length_take]; rfl)) ?_; (with_reducible refine (spec_l4Rule.calls a0_0 a0_1 a0_2 true _ A10.out).mono ?_); rintro e w16 ⟨rfl, hb⟩; refine ⟨_, rfl, ?_⟩; replace BK287 := Aside0.mk (blk_below (g := gb287) (o := .cells #[.int .i64 a0_0, .int .i64 a0_1, .int .i64 a0_2] 60 (0, 0)) (by (with_reducible repeat (first | refine blk_drewN ?_ _ | refine blk_drew ?_ | refine blk_alloc ?_ _)); refine blk_far ?_ NB287_289.out _; refine blk_far ?_ NB287_289.out _; refine blk_far ?_ NB287_289.out _; refine blk_far ?_ NB287_289.out _; refine blk_far ?_ NB287_289.out _; refine blk_far ?_ NB287_289.out _; (with_reducible repeat (first | refine blk_drewN ?_ _ | refine blk_drew ?_ | refine blk_alloc ?_ _)); exact BK287.out) hb); replace BK288 := Aside0.mk (blk_below (g := gb288) (o := .cells #[.slice none 0 0, .int .i64 0, .int .i64 0, .int .i64 0, .int .i64 0, .int .i64 0] 115 (0, 0)) (by (with_reducible repeat (first | refine blk_drewN ?_ _ | refine blk_drew ?_ | refine blk_alloc ?_ _)); refine blk_far ?_ NB288_289.out _; refine blk_far ?_ NB288_289.out _; refine blk_far ?_ NB288_289.out _; refine blk_far ?_ NB288_289.out _; refine blk_far ?_ NB288_289.out _; refine blk_far ?_ NB288_289.out _; (with_reducible repeat (first | refine blk_drewN ?_ _ | refine blk_drew ?_ | refine blk_alloc ?_ _)); exact BK288.out) hb); replace BK289 := Aside0.mk (blk_below (g := gb289) (o := .cells #[.slice none 0 0, .int .i64 0, .int .i64 0, .int .i64 0, .int .i64 0, .int .i64 0] 115 (0, 0)) (by (with_reducible repeat (first | refine blk_drewN ?_ _ | refine blk_drew ?_ | refine blk_alloc ?_ _)); refine blk_put (cs := #[.slice none 0 0, .int .i64 0, .int .i64 0, .int .i64 0, .int .i64 0, .int .i64 0]) ?_ 5 _ rfl; refine blk_put (cs := #[.slice none 0 0, .int .i64 0, .int .i64 0, .int .i64 0, .int .i64 0, .int .i64 0]) ?_ 4 _ rfl; refine blk_put (cs := #[.slice none 0 0, .int .i64 0, .int .i64 0, .int .i64 0, .int .i64 0, .int .i64 0]) ?_ 3 _ rfl; refine blk_put (cs := #[.slice none 0 0, .int .i64 0, .int .i64 0, .int .i64 0, .int .i64 0, .int .i64 0]) ?_ 2 _ rfl; refine blk_put (cs := #[.slice none 0 0, .int .i64 0, .int .i64 0, .int .i64 0, .int .i64 0, .int .i64 0]) ?_ 1 _ rfl; refine blk_put (cs := #[.slice none 0 0, .int .i64 0, .int .i64 0, .int .i64 0, .int .i64 0, .int .i64 0]) ?_ 0 _ rfl; (with_reducible repeat (first | refine blk_drewN ?_ _ | refine blk_drew ?_ | refine blk_alloc ?_ _)); exact BK289.out) hb); replace HB := Aside0.mk (below_step (by repeat (first | exact zh0 HB | refine below_set ?_ GE287.out | refine below_set ?_ GE288.out | refine below_set ?_ GE289.out)) hb); (try clear hb)) | (go_at_call 92; (with_reducible refine (spec_l1In.calls a1 0 2000 t291 _ A12.out).mono ?_); rintro e w' ⟨rfl, ⟨nd, rfl⟩⟩))
   go_meet
   case rel => exact ⟨_, (!t291), zfs, H', ⟨by first | omega | exact Nat.le_refl _⟩, ⟨zk0 BK287⟩, ⟨zk0 BK288⟩, ⟨zk0 BK289⟩, ⟨by repeat (first | exact zh0 HB | refine below_set ?_ GE287.out | refine below_set ?_ GE288.out | refine below_set ?_ GE289.out)⟩⟩
  ·replace c11 := Bool.eq_false_iff.mpr c11
   subst c11
   have H1 : (spec_l4Singles.j0 k a1 true a0_0 a0_1 a0_2 0 0 0 0 0) = some (r1, r2, r3, r4, r5, r6, r7) := by rw [if_neg (show ¬ (false = true) by decide)] at H; exact H
   clear H
   have H := H1
   clear H1
   have H' := Aside0.mk H
   clear H
   have hnb17 := NB287_288.out
   have hnc17 := NB288_287.out
   have hnb18 := NB287_289.out
   have hnc18 := NB289_287.out
   have hcz19_0 := zc0 BK287 0 rfl
   have hcz19_1 := zc0 BK287 1 rfl
   have hcz19_2 := zc0 BK287 2 rfl
   have hfz19_0 := blk_frozen BK287.out 0
   have hfz19_1 := blk_frozen BK287.out 1
   have hfz19_2 := blk_frozen BK287.out 2
   go_wp2_with (first | ((with_reducible refine gate_callee (f := 85) rfl ?_); refine goesL_ (some 12) rfl rfl Try.func85 (by kernel_rfl) rfl #[.agg #[.int .i64 a0_0, .int .i64 a0_1, .int .i64 a0_2]] rfl (by (try simp only [zq1, zq2, zq3]); first | done | rfl | (simp only [List.length_drop, List.length_take]; rfl)) ?_; (with_reducible refine (spec_l4Rule.calls a0_0 a0_1 a0_2 false _ A10.out).mono ?_); rintro e w20 ⟨rfl, hb⟩; refine ⟨_, rfl, ?_⟩; replace BK287 := Aside0.mk (blk_below (g := gb287) (o := .cells #[.int .i64 a0_0, .int .i64 a0_1, .int .i64 a0_2] 60 (0, 0)) (by (with_reducible repeat (first | refine blk_drewN ?_ _ | refine blk_drew ?_ | refine blk_alloc ?_ _)); refine blk_far ?_ NB287_289.out _; refine blk_far ?_ NB287_289.out _; refine blk_far ?_ NB287_289.out _; refine blk_far ?_ NB287_289.out _; refine blk_far ?_ NB287_289.out _; refine blk_far ?_ NB287_289.out _; (with_reducible repeat (first | refine blk_drewN ?_ _ | refine blk_drew ?_ | refine blk_alloc ?_ _)); exact BK287.out) hb); replace BK288 := Aside0.mk (blk_below (g := gb288) (o := .cells #[.slice none 0 0, .int .i64 0, .int .i64 0, .int .i64 0, .int .i64 0, .int .i64 0] 115 (0, 0)) (by (with_reducible repeat (first | refine blk_drewN ?_ _ | refine blk_drew ?_ | refine blk_alloc ?_ _)); refine blk_far ?_ NB288_289.out _; refine blk_far ?_ NB288_289.out _; refine blk_far ?_ NB288_289.out _; refine blk_far ?_ NB288_289.out _; refine blk_far ?_ NB288_289.out _; refine blk_far ?_ NB288_289.out _; (with_reducible repeat (first | refine blk_drewN ?_ _ | refine blk_drew ?_ | refine blk_alloc ?_ _)); exact BK288.out) hb); replace BK289 := Aside0.mk (blk_below (g := gb289) (o := .cells #[.slice none 0 0, .int .i64 0, .int .i64 0, .int .i64 0, .int .i64 0, .int .i64 0] 115 (0, 0)) (by (with_reducible repeat (first | refine blk_drewN ?_ _ | refine blk_drew ?_ | refine blk_alloc ?_ _)); refine blk_put (cs := #[.slice none 0 0, .int .i64 0, .int .i64 0, .int .i64 0, .int .i64 0, .int .i64 0]) ?_ 5 _ rfl; refine blk_put (cs := #[.slice none 0 0, .int .i64 0, .int .i64 0, .int .i64 0, .int .i64 0, .int .i64 0]) ?_ 4 _ rfl; refine blk_put (cs := #[.slice none 0 0, .int .i64 0, .int .i64 0, .int .i64 0, .int .i64 0, .int .i64 0]) ?_ 3 _ rfl; refine blk_put (cs := #[.slice none 0 0, .int .i64 0, .int .i64 0, .int .i64 0, .int .i64 0, .int .i64 0]) ?_ 2 _ rfl; refine blk_put (cs := #[.slice none 0 0, .int .i64 0, .int .i64 0, .int .i64 0, .int .i64 0, .int .i64 0]) ?_ 1 _ rfl; refine blk_put (cs := #[.slice none 0 0, .int .i64 0, .int .i64 0, .int .i64 0, .int .i64 0, .int .i64 0]) ?_ 0 _ rfl; (with_reducible repeat (first | refine blk_drewN ?_ _ | refine blk_drew ?_ | refine blk_alloc ?_ _)); exact BK289.out) hb); replace HB := Aside0.mk (below_step (by repeat (first | exact zh0 HB | refine below_set ?_ GE287.out | refine below_set ?_ GE288.out | refine below_set ?_ GE289.out)) hb); (try clear hb)))
   go_meet
   case rel => exact ⟨_, (true), zfs, H', ⟨by first | omega | exact Nat.le_refl _⟩, ⟨zk0 BK287⟩, ⟨zk0 BK288⟩, ⟨zk0 BK289⟩, ⟨by repeat (first | exact zh0 HB | refine below_set ?_ GE287.out | refine below_set ?_ GE288.out | refine below_set ?_ GE289.out)⟩⟩
 case rest =>
  clear HC3
  try clear c1
  try clear p2
  try clear c7
  try clear c8
  try clear c11
  try clear c13
  try clear c14
  try clear c17
  try clear c18
  try clear hcz15_0
  try clear hcz15_1
  try clear hcz15_2
  try clear hcz19_0
  try clear hcz19_1
  try clear hcz19_2
  try clear hcz9_0
  try clear hcz9_1
  try clear hcz9_2
  try clear hcz9_3
  try clear hcz9_4
  try clear hcz9_5
  try clear hfz15_0
  try clear hfz15_1
  try clear hfz15_2
  try clear hfz19_0
  try clear hfz19_1
  try clear hfz19_2
  try clear hfz9_0
  try clear hfz9_1
  try clear hfz9_2
  try clear hfz9_3
  try clear hfz9_4
  try clear hfz9_5
  obtain ⟨kq, x18_2, rfl, HA, HJ2, BK287, BK288, BK289, HB⟩ := hcut
  cases kq with
  | zero => exact absurd HA.out (by simp [spec_l4Singles.j0])
  | succ kj2 =>
   have H := HA.out
   clear HA
   simp only [spec_l4Singles.j0] at H
   by_cases c21 : x18_2 = true
   ·subst c21
    have H1 : (some (([] : List Int), 0, 0, 0, 0, 0, false)) = some (r1, r2, r3, r4, r5, r6, r7) := by rw [if_pos rfl] at H; exact H
    clear H
    have H := H1
    clear H1
    simp only [Option.some.injEq, Prod.mk.injEq] at H
    obtain ⟨rfl, rfl, rfl, rfl, rfl, rfl, rfl⟩ := H
    have hnb22 := NB289_287.out
    have hnc22 := NB287_289.out
    have hnb23 := NB289_288.out
    have hnc23 := NB288_289.out
    have hcz24_0 := zc0 BK289 0 rfl
    have hcz24_1 := zc0 BK289 1 rfl
    have hcz24_2 := zc0 BK289 2 rfl
    have hcz24_3 := zc0 BK289 3 rfl
    have hcz24_4 := zc0 BK289 4 rfl
    have hcz24_5 := zc0 BK289 5 rfl
    have hfz24_0 := blk_frozen BK289.out 0
    have hfz24_1 := blk_frozen BK289.out 1
    have hfz24_2 := blk_frozen BK289.out 2
    have hfz24_3 := blk_frozen BK289.out 3
    have hfz24_4 := blk_frozen BK289.out 4
    have hfz24_5 := blk_frozen BK289.out 5
    have hnb25 := NB288_287.out
    have hnc25 := NB287_288.out
    have hcz26_0 := zc0 BK288 0 rfl
    have hcz26_1 := zc0 BK288 1 rfl
    have hcz26_2 := zc0 BK288 2 rfl
    have hcz26_3 := zc0 BK288 3 rfl
    have hcz26_4 := zc0 BK288 4 rfl
    have hcz26_5 := zc0 BK288 5 rfl
    have hfz26_0 := blk_frozen BK288.out 0
    have hfz26_1 := blk_frozen BK288.out 1
    have hfz26_2 := blk_frozen BK288.out 2
    have hfz26_3 := blk_frozen BK288.out 3
    have hfz26_4 := blk_frozen BK288.out 4
    have hfz26_5 := blk_frozen BK288.out 5
    go_wp2
    refine bodyPost_ret (results_ct rfl _ _ gb288 115 #[.slice none 0 0, .int .i64 0, .int .i64 0, .int .i64 0, .int .i64 0, .int .i64 0] (0, 0) _ rfl (by (with_reducible repeat (first | refine blk_drewN ?_ _ | refine blk_drew ?_ | refine blk_alloc ?_ _)); refine blk_put (cs := #[.slice none 0 0, .int .i64 0, .int .i64 0, .int .i64 0, .int .i64 0, .int .i64 0]) ?_ 5 _ rfl; refine blk_put (cs := #[.slice none 0 0, .int .i64 0, .int .i64 0, .int .i64 0, .int .i64 0, .int .i64 0]) ?_ 4 _ rfl; refine blk_put (cs := #[.slice none 0 0, .int .i64 0, .int .i64 0, .int .i64 0, .int .i64 0, .int .i64 0]) ?_ 3 _ rfl; refine blk_put (cs := #[.slice none 0 0, .int .i64 0, .int .i64 0, .int .i64 0, .int .i64 0, .int .i64 0]) ?_ 2 _ rfl; refine blk_put (cs := #[.slice none 0 0, .int .i64 0, .int .i64 0, .int .i64 0, .int .i64 0, .int .i64 0]) ?_ 1 _ rfl; refine blk_put (cs := #[.slice none 0 0, .int .i64 0, .int .i64 0, .int .i64 0, .int .i64 0, .int .i64 0]) ?_ 0 _ rfl; (with_reducible repeat (first | refine blk_drewN ?_ _ | refine blk_drew ?_ | refine blk_alloc ?_ _)); exact BK288.out) Try.underlying115 rfl (by kernel_rfl)) rfl ?_
    exact ⟨_, by first | rfl | (simp <;> rfl) | (simp [*] <;> rfl), by first | exact Kd.R_nil _ _ _ _ _ | exact Kd.N_nil _ _ _ _ _ | exact Kd.V_nil _ _ _ _ _ | exact Kd.Q_nil _ _ _ _ _ | exact Kd.S_nil _ _ _ _ _, by repeat (first | exact zh0 HB | refine below_set ?_ GE287.out | refine below_set ?_ GE288.out | refine below_set ?_ GE289.out)⟩
   ·replace c21 := Bool.eq_false_iff.mpr c21
    subst c21
    have H1 : (spec_l4Singles.l0 kj2 a1 0 a0_0 a0_1 a0_2 ([] : List Int) 0 0 0 0 0) = some (r1, r2, r3, r4, r5, r6, r7) := by rw [if_neg (show ¬ (false = true) by decide)] at H; exact H
    clear H
    have H := H1
    clear H1
    have H' := Aside0.mk H
    clear H
    go_wp2
    go_loopg [7] kj2 (fun kq v7 w' => ∃ (x7_2 : Int) (x289001_2 : Int) (x289002_2 : Int) (x289003_2 : Int) (x289004_2 : Int) (x289005_2 : Int) (x290000_2 : List Int) (x290001_2 : Int) (x290002_2 : Int) (x290003_2 : Int) (x290004_2 : Int) (x290005_2 : Int) (u290000 : Value), v7 = .int .i64 x7_2 ∧ Aside0 (spec_l4Singles.l0 kq a1 x7_2 a0_0 a0_1 a0_2 x290000_2 x290001_2 x290002_2 x290003_2 x290004_2 x290005_2 = some (r1, r2, r3, r4, r5, r6, r7)) ∧ Aside0 (kq ≤ kj2) ∧ Aside0 (Kd.R (Kd.int .i64) 3 w' w.heap.size (fun _ => True) u290000 x290000_2) ∧ Aside0 (w'.heap[gb287]? = some (.cells #[.int .i64 a0_0, .int .i64 a0_1, .int .i64 a0_2] 60 (0, 0))) ∧ Aside0 (w'.heap[gb288]? = some (.cells #[(.slice none 0 0), .int .i64 x289001_2, .int .i64 x289002_2, .int .i64 x289003_2, .int .i64 x289004_2, .int .i64 x289005_2] 115 (0, 0))) ∧ Aside0 (w'.heap[gb289]? = some (.cells #[u290000, .int .i64 x290001_2, .int .i64 x290002_2, .int .i64 x290003_2, .int .i64 x290004_2, .int .i64 x290005_2] 115 (0, 0))) ∧ Aside0 (Below w.heap.size w w'))
    case atStart => exact ⟨(0), (0), (0), (0), (0), (0), (([] : List Int)), (0), (0), (0), (0), (0), (.slice none 0 0), zfs, H', ⟨Nat.le_refl _⟩, ⟨by first | exact Kd.R_nil _ _ _ _ _ | exact Kd.N_nil _ _ _ _ _ | exact Kd.V_nil _ _ _ _ _ | exact Kd.Q_nil _ _ _ _ _ | exact Kd.S_nil _ _ _ _ _⟩, ⟨zk0 BK287⟩, ⟨zk0 BK288⟩, ⟨zk0 BK289⟩, ⟨by repeat (first | exact zh0 HB | refine below_set ?_ GE287.out | refine below_set ?_ GE288.out | refine below_set ?_ GE289.out)⟩⟩
    case round =>
     clear H'
     try clear c1
     try clear c2
     try clear p2
     try clear c7
     try clear c8
     try clear c11
     try clear c13
     try clear c14
     try clear c17
     try clear c18
     try clear c21
     try clear c22
     try clear c23
     try clear c25
     try clear hcz15_0
     try clear hcz15_1
     try clear hcz15_2
     try clear hcz19_0
     try clear hcz19_1
     try clear hcz19_2
     try clear hcz24_0
     try clear hcz24_1
     try clear hcz24_2
     try clear hcz24_3
     try clear hcz24_4
     try clear hcz24_5
     try clear hcz26_0
     try clear hcz26_1
     try clear hcz26_2
     try clear hcz26_3
     try clear hcz26_4
     try clear hcz26_5
     try clear hcz9_0
     try clear hcz9_1
     try clear hcz9_2
     try clear hcz9_3
     try clear hcz9_4
     try clear hcz9_5
     try clear hfz15_0
     try clear hfz15_1
     try clear hfz15_2
     try clear hfz19_0
     try clear hfz19_1
     try clear hfz19_2
     try clear hfz24_0
     try clear hfz24_1
     try clear hfz24_2
     try clear hfz24_3
     try clear hfz24_4
     try clear hfz24_5
     try clear hfz26_0
     try clear hfz26_1
     try clear hfz26_2
     try clear hfz26_3
     try clear hfz26_4
     try clear hfz26_5
     try clear hfz9_0
     try clear hfz9_1
     try clear hfz9_2
     try clear hfz9_3
     try clear hfz9_4
     try clear hfz9_5
     try clear p2
     obtain ⟨x7_2, x289001_2, x289002_2, x289003_2, x289004_2, x289005_2, x290000_2, x290001_2, x290002_2, x290003_2, x290004_2, x290005_2, u290000, rfl, HA, HK2, HO_290000, BK287, BK288, BK289, HB⟩ := hrel
     cases gk with
     | zero => exact absurd HA.out (by simp [spec_l4Singles.l0])
     | succ k2 =>
      have H := HA.out
      clear HA
      simp only [spec_l4Singles.l0] at H
      by_cases c27 : x7_2 < a1
      ·rw [if_pos c27] at H
       have c27b0 : decide (x7_2 < a1) = true := decide_eq_true c27
       clear c27
       replace H := Option.bind_eq_some_iff.mp H
       obtain ⟨⟨t292, t295, t296, t297, t298, t299, t300⟩, A280, H⟩ := H
       replace H : (if t300 = true then (spec_l4Singles.l0 k2 a1 (wrap64 (x7_2 + 1)) a0_0 a0_1 a0_2 t292 t295 t296 t297 t298 t299) else (some (([] : List Int), 0, 0, 0, 0, 0, false))) = some (r1, r2, r3, r4, r5, r6, r7) := H
       have A28 := Aside0.mk A280
       clear A280
       by_cases c29 : t300 = true
       ·subst c29
        have H1 : (spec_l4Singles.l0 k2 a1 (wrap64 (x7_2 + 1)) a0_0 a0_1 a0_2 t292 t295 t296 t297 t298 t299) = some (r1, r2, r3, r4, r5, r6, r7) := by rw [if_pos rfl] at H; exact H
        clear H
        have H := H1
        clear H1
        have H' := Aside0.mk H
        clear H
        have hnb30 := NB287_288.out
        have hnc30 := NB288_287.out
        have hnb31 := NB287_289.out
        have hnc31 := NB289_287.out
        have hcz32_0 := zc0 BK287 0 rfl
        have hcz32_1 := zc0 BK287 1 rfl
        have hcz32_2 := zc0 BK287 2 rfl
        have hfz32_0 := blk_frozen BK287.out 0
        have hfz32_1 := blk_frozen BK287.out 1
        have hfz32_2 := blk_frozen BK287.out 2
        have hnb33 := NB289_288.out
        have hnc33 := NB288_289.out
        have hcz34_0 := zc0 BK289 0 rfl
        have hcz34_1 := zc0 BK289 1 rfl
        have hcz34_2 := zc0 BK289 2 rfl
        have hcz34_3 := zc0 BK289 3 rfl
        have hcz34_4 := zc0 BK289 4 rfl
        have hcz34_5 := zc0 BK289 5 rfl
        have hfz34_0 := blk_frozen BK289.out 0
        have hfz34_1 := blk_frozen BK289.out 1
        have hfz34_2 := blk_frozen BK289.out 2
        have hfz34_3 := blk_frozen BK289.out 3
        have hfz34_4 := blk_frozen BK289.out 4
        have hfz34_5 := blk_frozen BK289.out 5
        obtain ⟨Ao35, co35, eo35⟩ := Kd.R_slice HO_290000.out
        subst eo35
        go_wp2_with (first | ((with_reducible refine gate_callee (f := 119) rfl ?_); refine goesL_ (some 28) rfl rfl Try.func119 (by kernel_rfl) rfl #[.agg #[.int .i64 a0_0, .int .i64 a0_1, .int .i64 a0_2], .int .i64 0, .agg #[.slice Ao35 x290000_2.length co35, .int .i64 x290001_2, .int .i64 x290002_2, .int .i64 x290003_2, .int .i64 x290004_2, .int .i64 x290005_2], .int .i64 1] rfl (by (try simp only [zq1, zq2, zq3]); first | done | rfl | (simp only [List.length_drop, List.length_take]; rfl)) ?_; (with_reducible refine (spec_l4Do.calls k2 a0_0 a0_1 a0_2 0 (fun k_ => some k_ = (.slice Ao35 x290000_2.length co35 : Value).ownBlock) (.slice Ao35 x290000_2.length co35) x290000_2 x290001_2 x290002_2 x290003_2 x290004_2 x290005_2 1 t292 t295 t296 t297 t298 t299 true w _ ?side1 ?side2 A28.out).mono ?_); (case side1 => repeat (first | (with_reducible first | exact HB.out | apply below_alloc | apply pw_below_drewN | apply below_drew1 | refine below_set ?_ GE287.out | refine below_set ?_ GE288.out | refine below_set ?_ GE289.out) | exact HB.out)); (case side2 => exact Kd.R_tight rfl HO_290000.out); rintro e w36 ⟨v293, rfl, ho0, hb, hkp⟩; refine ⟨_, rfl, ?_⟩; have n0_ := Aside0.mk (blk_kept (zk0 BK287) hkp (fun hs_ => (fun e_ => (Kd.R_ne HO_290000.out BK287.out (by decide)) e_) hs_)); have n1_ := Aside0.mk (blk_kept (zk0 BK288) hkp (fun hs_ => (fun e_ => (Kd.R_ne HO_290000.out BK288.out (by decide)) e_) hs_)); have n2_ := Aside0.mk (blk_kept (zk0 BK289) hkp (fun hs_ => (fun e_ => (Kd.R_ne HO_290000.out BK289.out (by decide)) e_) hs_)); have n3_ := Aside0.mk (Kd.R_mono (ok' := fun k_ => True) ho0 (fun k_ hk_ => trivial)); have n4_ := Aside0.mk (hb); clear BK287; clear BK288; clear BK289; clear HB; clear HO_290000; have BK287 := n0_; have BK288 := n1_; have BK289 := n2_; have HO294 := n3_; have HB := n4_; clear n0_ n1_ n2_ n3_ n4_; (try clear hb); (try clear hkp); (try clear ho0)) | ((with_reducible refine gate_dst (N := 8) rfl ?_); refine box_event ?hg (N := 8) ?hd (cs := #[.slice none 0 0, .int .i64 0, .int .i64 0, .int .i64 0, .int .i64 0, .int .i64 0]) (t := 115) ?hr ?_; (case hd => rfl); (case hg => rfl); (case hr => first | (go_simp; done) | (go_simp; rfl)); intro gb301 hg w37 hbox hb; have BK301 := Aside0.mk (hbox); have GW301 := Aside0.mk ((by rw [hg]; exact (below_size (by repeat (first | exact zh0 HB | refine below_set ?_ GE287.out | refine below_set ?_ GE288.out | refine below_set ?_ GE289.out))) : w.heap.size ≤ gb301)); have GE301 := Aside0.mk ((by rw [hg]; exact (below_size (by repeat (first | exact zh0 HB | refine below_set ?_ GE287.out | refine below_set ?_ GE288.out | refine below_set ?_ GE289.out))) : w.heap.size ≤ gb301)); have NB287_301 := znl BK287 hg; have NB301_287 := znr BK287 hg; have NB288_301 := znl BK288 hg; have NB301_288 := znr BK288 hg; have NB289_301 := znl BK289 hg; have NB301_289 := znr BK289 hg; replace HO294 := zrb HO294 hb; replace BK287 := zb0 BK287 hb; replace BK288 := zb0 BK288 hb; replace BK289 := zb0 BK289 hb; replace HB := Aside0.mk (below_step (by repeat (first | exact zh0 HB | refine below_set ?_ GE287.out | refine below_set ?_ GE288.out | refine below_set ?_ GE289.out)) hb); clear hb hbox hg; obtain ⟨Ao38, co38, eo38⟩ := Kd.R_slice HO294.out; subst eo38; have hnb39 := NB301_287.out; have hnc39 := NB287_301.out; have hnb40 := NB301_288.out; have hnc40 := NB288_301.out; have hnb41 := NB301_289.out; have hnc41 := NB289_301.out; have hcz42_0 := zc0 BK301 0 rfl; have hcz42_1 := zc0 BK301 1 rfl; have hcz42_2 := zc0 BK301 2 rfl; have hcz42_3 := zc0 BK301 3 rfl; have hcz42_4 := zc0 BK301 4 rfl; have hcz42_5 := zc0 BK301 5 rfl; have hfz42_0 := blk_frozen BK301.out 0; have hfz42_1 := blk_frozen BK301.out 1; have hfz42_2 := blk_frozen BK301.out 2; have hfz42_3 := blk_frozen BK301.out 3; have hfz42_4 := blk_frozen BK301.out 4; have hfz42_5 := blk_frozen BK301.out 5; have hcz43_0 := zc0 BK289 0 rfl; have hcz43_1 := zc0 BK289 1 rfl; have hcz43_2 := zc0 BK289 2 rfl; have hcz43_3 := zc0 BK289 3 rfl; have hcz43_4 := zc0 BK289 4 rfl; have hcz43_5 := zc0 BK289 5 rfl; have hfz43_0 := blk_frozen BK289.out 0; have hfz43_1 := blk_frozen BK289.out 1; have hfz43_2 := blk_frozen BK289.out 2; have hfz43_3 := blk_frozen BK289.out 3; have hfz43_4 := blk_frozen BK289.out 4; have hfz43_5 := blk_frozen BK289.out 5))
        go_roundg k2
        case measure => have := HJ2.out; have := HK2.out; omega
        case rel => exact ⟨(wrap64 (x7_2 + 1)), (x289001_2), (x289002_2), (x289003_2), (x289004_2), (x289005_2), (t292), (t295), (t296), (t297), (t298), (t299), (.slice Ao38 t292.length co38), zfs, H', ⟨by have := HJ2.out; have := HK2.out; omega⟩, ⟨by (with_reducible repeat (first | apply Kd.R_alloc | apply Kd.R_drewN | apply Kd.R_drew)); exact Kd.R_mono (Kd.R_far (p := ⟨gb289, 5, none⟩) (Kd.R_far (p := ⟨gb289, 4, none⟩) (Kd.R_far (p := ⟨gb289, 3, none⟩) (Kd.R_far (p := ⟨gb289, 2, none⟩) (Kd.R_far (p := ⟨gb289, 1, none⟩) (Kd.R_far (p := ⟨gb289, 0, none⟩) (Kd.R_far (p := ⟨gb301, 5, none⟩) (Kd.R_far (p := ⟨gb301, 4, none⟩) (Kd.R_far (p := ⟨gb301, 3, none⟩) (Kd.R_far (p := ⟨gb301, 2, none⟩) (Kd.R_far (p := ⟨gb301, 1, none⟩) (Kd.R_far (p := ⟨gb301, 0, none⟩) (Kd.R_types (Kd.R_types HO294.out BK301.out (by decide)) BK289.out (by decide)) (fun _ hk => hk.1.2) (.slice Ao38 t292.length co38)) (fun _ hk => hk.1.2) (.int .i64 t295)) (fun _ hk => hk.1.2) (.int .i64 t296)) (fun _ hk => hk.1.2) (.int .i64 t297)) (fun _ hk => hk.1.2) (.int .i64 t298)) (fun _ hk => hk.1.2) (.int .i64 t299)) (fun _ hk => hk.2) (.slice Ao38 t292.length co38)) (fun _ hk => hk.2) (.int .i64 t295)) (fun _ hk => hk.2) (.int .i64 t296)) (fun _ hk => hk.2) (.int .i64 t297)) (fun _ hk => hk.2) (.int .i64 t298)) (fun _ hk => hk.2) (.int .i64 t299)) (fun _ hk => trivial)⟩, ⟨by (with_reducible repeat (first | refine blk_drewN ?_ _ | refine blk_drew ?_ | refine blk_alloc ?_ _)); refine blk_far ?_ NB287_289.out _; refine blk_far ?_ NB287_289.out _; refine blk_far ?_ NB287_289.out _; refine blk_far ?_ NB287_289.out _; refine blk_far ?_ NB287_289.out _; refine blk_far ?_ NB287_289.out _; refine blk_far ?_ NB287_301.out _; refine blk_far ?_ NB287_301.out _; refine blk_far ?_ NB287_301.out _; refine blk_far ?_ NB287_301.out _; refine blk_far ?_ NB287_301.out _; refine blk_far ?_ NB287_301.out _; (with_reducible repeat (first | refine blk_drewN ?_ _ | refine blk_drew ?_ | refine blk_alloc ?_ _)); exact BK287.out⟩, ⟨by (with_reducible repeat (first | refine blk_drewN ?_ _ | refine blk_drew ?_ | refine blk_alloc ?_ _)); refine blk_far ?_ NB288_289.out _; refine blk_far ?_ NB288_289.out _; refine blk_far ?_ NB288_289.out _; refine blk_far ?_ NB288_289.out _; refine blk_far ?_ NB288_289.out _; refine blk_far ?_ NB288_289.out _; refine blk_far ?_ NB288_301.out _; refine blk_far ?_ NB288_301.out _; refine blk_far ?_ NB288_301.out _; refine blk_far ?_ NB288_301.out _; refine blk_far ?_ NB288_301.out _; refine blk_far ?_ NB288_301.out _; (with_reducible repeat (first | refine blk_drewN ?_ _ | refine blk_drew ?_ | refine blk_alloc ?_ _)); exact BK288.out⟩, ⟨by (with_reducible repeat (first | refine blk_drewN ?_ _ | refine blk_drew ?_ | refine blk_alloc ?_ _)); refine blk_put (cs := #[.slice Ao38 t292.length co38, .int .i64 t295, .int .i64 t296, .int .i64 t297, .int .i64 t298, .int .i64 x290005_2]) ?_ 5 _ rfl; refine blk_put (cs := #[.slice Ao38 t292.length co38, .int .i64 t295, .int .i64 t296, .int .i64 t297, .int .i64 x290004_2, .int .i64 x290005_2]) ?_ 4 _ rfl; refine blk_put (cs := #[.slice Ao38 t292.length co38, .int .i64 t295, .int .i64 t296, .int .i64 x290003_2, .int .i64 x290004_2, .int .i64 x290005_2]) ?_ 3 _ rfl; refine blk_put (cs := #[.slice Ao38 t292.length co38, .int .i64 t295, .int .i64 x290002_2, .int .i64 x290003_2, .int .i64 x290004_2, .int .i64 x290005_2]) ?_ 2 _ rfl; refine blk_put (cs := #[.slice Ao38 t292.length co38, .int .i64 x290001_2, .int .i64 x290002_2, .int .i64 x290003_2, .int .i64 x290004_2, .int .i64 x290005_2]) ?_ 1 _ rfl; refine blk_put (cs := #[.slice Ao35 x290000_2.length co35, .int .i64 x290001_2, .int .i64 x290002_2, .int .i64 x290003_2, .int .i64 x290004_2, .int .i64 x290005_2]) ?_ 0 _ rfl; refine blk_far ?_ NB289_301.out _; refine blk_far ?_ NB289_301.out _; refine blk_far ?_ NB289_301.out _; refine blk_far ?_ NB289_301.out _; refine blk_far ?_ NB289_301.out _; refine blk_far ?_ NB289_301.out _; (with_reducible repeat (first | refine blk_drewN ?_ _ | refine blk_drew ?_ | refine blk_alloc ?_ _)); exact BK289.out⟩, ⟨by repeat (first | exact zh0 HB | refine below_set ?_ GE287.out | refine below_set ?_ GE288.out | refine below_set ?_ GE289.out | refine below_set ?_ GE301.out)⟩⟩
       ·replace c29 := Bool.eq_false_iff.mpr c29
        subst c29
        have H1 : (some (([] : List Int), 0, 0, 0, 0, 0, false)) = some (r1, r2, r3, r4, r5, r6, r7) := by rw [if_neg (show ¬ (false = true) by decide)] at H; exact H
        clear H
        have H := H1
        clear H1
        simp only [Option.some.injEq, Prod.mk.injEq] at H
        obtain ⟨rfl, rfl, rfl, rfl, rfl, rfl, rfl⟩ := H
        have hnb44 := NB287_288.out
        have hnc44 := NB288_287.out
        have hnb45 := NB287_289.out
        have hnc45 := NB289_287.out
        have hcz46_0 := zc0 BK287 0 rfl
        have hcz46_1 := zc0 BK287 1 rfl
        have hcz46_2 := zc0 BK287 2 rfl
        have hfz46_0 := blk_frozen BK287.out 0
        have hfz46_1 := blk_frozen BK287.out 1
        have hfz46_2 := blk_frozen BK287.out 2
        have hnb47 := NB289_288.out
        have hnc47 := NB288_289.out
        have hcz48_0 := zc0 BK289 0 rfl
        have hcz48_1 := zc0 BK289 1 rfl
        have hcz48_2 := zc0 BK289 2 rfl
        have hcz48_3 := zc0 BK289 3 rfl
        have hcz48_4 := zc0 BK289 4 rfl
        have hcz48_5 := zc0 BK289 5 rfl
        have hfz48_0 := blk_frozen BK289.out 0
        have hfz48_1 := blk_frozen BK289.out 1
        have hfz48_2 := blk_frozen BK289.out 2
        have hfz48_3 := blk_frozen BK289.out 3
        have hfz48_4 := blk_frozen BK289.out 4
        have hfz48_5 := blk_frozen BK289.out 5
        obtain ⟨Ao49, co49, eo49⟩ := Kd.R_slice HO_290000.out
        subst eo49
        go_wp2_with (first | ((with_reducible refine gate_callee (f := 119) rfl ?_); refine goesL_ (some 28) rfl rfl Try.func119 (by kernel_rfl) rfl #[.agg #[.int .i64 a0_0, .int .i64 a0_1, .int .i64 a0_2], .int .i64 0, .agg #[.slice Ao49 x290000_2.length co49, .int .i64 x290001_2, .int .i64 x290002_2, .int .i64 x290003_2, .int .i64 x290004_2, .int .i64 x290005_2], .int .i64 1] rfl (by (try simp only [zq1, zq2, zq3]); first | done | rfl | (simp only [List.length_drop, List.length_take]; rfl)) ?_; (with_reducible refine (spec_l4Do.calls k2 a0_0 a0_1 a0_2 0 (fun k_ => some k_ = (.slice Ao49 x290000_2.length co49 : Value).ownBlock) (.slice Ao49 x290000_2.length co49) x290000_2 x290001_2 x290002_2 x290003_2 x290004_2 x290005_2 1 t292 t295 t296 t297 t298 t299 false w _ ?side1 ?side2 A28.out).mono ?_); (case side1 => repeat (first | (with_reducible first | exact HB.out | apply below_alloc | apply pw_below_drewN | apply below_drew1 | refine below_set ?_ GE287.out | refine below_set ?_ GE288.out | refine below_set ?_ GE289.out) | exact HB.out)); (case side2 => exact Kd.R_tight rfl HO_290000.out); rintro e w50 ⟨v293, rfl, ho0, hb, hkp⟩; refine ⟨_, rfl, ?_⟩; have n0_ := Aside0.mk (blk_kept (zk0 BK287) hkp (fun hs_ => (fun e_ => (Kd.R_ne HO_290000.out BK287.out (by decide)) e_) hs_)); have n1_ := Aside0.mk (blk_kept (zk0 BK288) hkp (fun hs_ => (fun e_ => (Kd.R_ne HO_290000.out BK288.out (by decide)) e_) hs_)); have n2_ := Aside0.mk (blk_kept (zk0 BK289) hkp (fun hs_ => (fun e_ => (Kd.R_ne HO_290000.out BK289.out (by decide)) e_) hs_)); have n3_ := Aside0.mk (Kd.R_mono (ok' := fun k_ => True) ho0 (fun k_ hk_ => trivial)); have n4_ := Aside0.mk (hb); clear BK287; clear BK288; clear BK289; clear HB; clear HO_290000; have BK287 := n0_; have BK288 := n1_; have BK289 := n2_; have HO294 := n3_; have HB := n4_; clear n0_ n1_ n2_ n3_ n4_; (try clear hb); (try clear hkp); (try clear ho0)) | ((with_reducible refine gate_dst (N := 8) rfl ?_); refine box_event ?hg (N := 8) ?hd (cs := #[.slice none 0 0, .int .i64 0, .int .i64 0, .int .i64 0, .int .i64 0, .int .i64 0]) (t := 115) ?hr ?_; (case hd => rfl); (case hg => rfl); (case hr => first | (go_simp; done) | (go_simp; rfl)); intro gb301 hg w51 hbox hb; have BK301 := Aside0.mk (hbox); have GW301 := Aside0.mk ((by rw [hg]; exact (below_size (by repeat (first | exact zh0 HB | refine below_set ?_ GE287.out | refine below_set ?_ GE288.out | refine below_set ?_ GE289.out))) : w.heap.size ≤ gb301)); have GE301 := Aside0.mk ((by rw [hg]; exact (below_size (by repeat (first | exact zh0 HB | refine below_set ?_ GE287.out | refine below_set ?_ GE288.out | refine below_set ?_ GE289.out))) : w.heap.size ≤ gb301)); have NB287_301 := znl BK287 hg; have NB301_287 := znr BK287 hg; have NB288_301 := znl BK288 hg; have NB301_288 := znr BK288 hg; have NB289_301 := znl BK289 hg; have NB301_289 := znr BK289 hg; replace HO294 := zrb HO294 hb; replace BK287 := zb0 BK287 hb; replace BK288 := zb0 BK288 hb; replace BK289 := zb0 BK289 hb; replace HB := Aside0.mk (below_step (by repeat (first | exact zh0 HB | refine below_set ?_ GE287.out | refine below_set ?_ GE288.out | refine below_set ?_ GE289.out)) hb); clear hb hbox hg; obtain ⟨Ao52, co52, eo52⟩ := Kd.R_slice HO294.out; subst eo52; have hnb53 := NB301_287.out; have hnc53 := NB287_301.out; have hnb54 := NB301_288.out; have hnc54 := NB288_301.out; have hnb55 := NB301_289.out; have hnc55 := NB289_301.out; have hcz56_0 := zc0 BK301 0 rfl; have hcz56_1 := zc0 BK301 1 rfl; have hcz56_2 := zc0 BK301 2 rfl; have hcz56_3 := zc0 BK301 3 rfl; have hcz56_4 := zc0 BK301 4 rfl; have hcz56_5 := zc0 BK301 5 rfl; have hfz56_0 := blk_frozen BK301.out 0; have hfz56_1 := blk_frozen BK301.out 1; have hfz56_2 := blk_frozen BK301.out 2; have hfz56_3 := blk_frozen BK301.out 3; have hfz56_4 := blk_frozen BK301.out 4; have hfz56_5 := blk_frozen BK301.out 5; have hcz57_0 := zc0 BK288 0 rfl; have hcz57_1 := zc0 BK288 1 rfl; have hcz57_2 := zc0 BK288 2 rfl; have hcz57_3 := zc0 BK288 3 rfl; have hcz57_4 := zc0 BK288 4 rfl; have hcz57_5 := zc0 BK288 5 rfl; have hfz57_0 := blk_frozen BK288.out 0; have hfz57_1 := blk_frozen BK288.out 1; have hfz57_2 := blk_frozen BK288.out 2; have hfz57_3 := blk_frozen BK288.out 3; have hfz57_4 := blk_frozen BK288.out 4; have hfz57_5 := blk_frozen BK288.out 5))
        refine bodyPost_ret (results_ct rfl _ _ gb288 115 #[.slice none 0 0, .int .i64 0, .int .i64 0, .int .i64 0, .int .i64 0, .int .i64 0] (0, 0) _ rfl (by (with_reducible repeat (first | refine blk_drewN ?_ _ | refine blk_drew ?_ | refine blk_alloc ?_ _)); refine blk_put (cs := #[.slice none 0 0, .int .i64 0, .int .i64 0, .int .i64 0, .int .i64 0, .int .i64 x289005_2]) ?_ 5 _ rfl; refine blk_put (cs := #[.slice none 0 0, .int .i64 0, .int .i64 0, .int .i64 0, .int .i64 x289004_2, .int .i64 x289005_2]) ?_ 4 _ rfl; refine blk_put (cs := #[.slice none 0 0, .int .i64 0, .int .i64 0, .int .i64 x289003_2, .int .i64 x289004_2, .int .i64 x289005_2]) ?_ 3 _ rfl; refine blk_put (cs := #[.slice none 0 0, .int .i64 0, .int .i64 x289002_2, .int .i64 x289003_2, .int .i64 x289004_2, .int .i64 x289005_2]) ?_ 2 _ rfl; refine blk_put (cs := #[.slice none 0 0, .int .i64 x289001_2, .int .i64 x289002_2, .int .i64 x289003_2, .int .i64 x289004_2, .int .i64 x289005_2]) ?_ 1 _ rfl; refine blk_put (cs := #[.slice none 0 0, .int .i64 x289001_2, .int .i64 x289002_2, .int .i64 x289003_2, .int .i64 x289004_2, .int .i64 x289005_2]) ?_ 0 _ rfl; refine blk_far ?_ NB288_301.out _; refine blk_far ?_ NB288_301.out _; refine blk_far ?_ NB288_301.out _; refine blk_far ?_ NB288_301.out _; refine blk_far ?_ NB288_301.out _; refine blk_far ?_ NB288_301.out _; (with_reducible repeat (first | refine blk_drewN ?_ _ | refine blk_drew ?_ | refine blk_alloc ?_ _)); exact BK288.out) Try.underlying115 rfl (by kernel_rfl)) rfl ?_
        exact ⟨_, by first | rfl | (simp <;> rfl) | (simp [*] <;> rfl), by first | exact Kd.R_nil _ _ _ _ _ | exact Kd.N_nil _ _ _ _ _ | exact Kd.V_nil _ _ _ _ _ | exact Kd.Q_nil _ _ _ _ _ | exact Kd.S_nil _ _ _ _ _, by repeat (first | exact zh0 HB | refine below_set ?_ GE287.out | refine below_set ?_ GE288.out | refine below_set ?_ GE289.out | refine below_set ?_ GE301.out)⟩
      ·rw [if_neg c27] at H
       have c27b0 : decide (x7_2 < a1) = false := decide_eq_false c27
       clear c27
       simp only [Option.some.injEq, Prod.mk.injEq] at H
       obtain ⟨rfl, rfl, rfl, rfl, rfl, rfl, rfl⟩ := H
       have hnb58 := NB289_287.out
       have hnc58 := NB287_289.out
       have hnb59 := NB289_288.out
       have hnc59 := NB288_289.out
       have hcz60_0 := zc0 BK289 0 rfl
       have hcz60_1 := zc0 BK289 1 rfl
       have hcz60_2 := zc0 BK289 2 rfl
       have hcz60_3 := zc0 BK289 3 rfl
       have hcz60_4 := zc0 BK289 4 rfl
       have hcz60_5 := zc0 BK289 5 rfl
       have hfz60_0 := blk_frozen BK289.out 0
       have hfz60_1 := blk_frozen BK289.out 1
       have hfz60_2 := blk_frozen BK289.out 2
       have hfz60_3 := blk_frozen BK289.out 3
       have hfz60_4 := blk_frozen BK289.out 4
       have hfz60_5 := blk_frozen BK289.out 5
       obtain ⟨Ao61, co61, eo61⟩ := Kd.R_slice HO_290000.out
       subst eo61
       have hnb62 := NB288_287.out
       have hnc62 := NB287_288.out
       have hcz63_0 := zc0 BK288 0 rfl
       have hcz63_1 := zc0 BK288 1 rfl
       have hcz63_2 := zc0 BK288 2 rfl
       have hcz63_3 := zc0 BK288 3 rfl
       have hcz63_4 := zc0 BK288 4 rfl
       have hcz63_5 := zc0 BK288 5 rfl
       have hfz63_0 := blk_frozen BK288.out 0
       have hfz63_1 := blk_frozen BK288.out 1
       have hfz63_2 := blk_frozen BK288.out 2
       have hfz63_3 := blk_frozen BK288.out 3
       have hfz63_4 := blk_frozen BK288.out 4
       have hfz63_5 := blk_frozen BK288.out 5
       go_wp2
       refine bodyPost_ret (results_ct rfl _ _ gb288 115 #[.slice Ao61 x290000_2.length co61, .int .i64 x290001_2, .int .i64 x290002_2, .int .i64 x290003_2, .int .i64 x290004_2, .int .i64 x290005_2] (0, 0) _ rfl (by (with_reducible repeat (first | refine blk_drewN ?_ _ | refine blk_drew ?_ | refine blk_alloc ?_ _)); refine blk_put (cs := #[.slice Ao61 x290000_2.length co61, .int .i64 x290001_2, .int .i64 x290002_2, .int .i64 x290003_2, .int .i64 x290004_2, .int .i64 x289005_2]) ?_ 5 _ rfl; refine blk_put (cs := #[.slice Ao61 x290000_2.length co61, .int .i64 x290001_2, .int .i64 x290002_2, .int .i64 x290003_2, .int .i64 x289004_2, .int .i64 x289005_2]) ?_ 4 _ rfl; refine blk_put (cs := #[.slice Ao61 x290000_2.length co61, .int .i64 x290001_2, .int .i64 x290002_2, .int .i64 x289003_2, .int .i64 x289004_2, .int .i64 x289005_2]) ?_ 3 _ rfl; refine blk_put (cs := #[.slice Ao61 x290000_2.length co61, .int .i64 x290001_2, .int .i64 x289002_2, .int .i64 x289003_2, .int .i64 x289004_2, .int .i64 x289005_2]) ?_ 2 _ rfl; refine blk_put (cs := #[.slice Ao61 x290000_2.length co61, .int .i64 x289001_2, .int .i64 x289002_2, .int .i64 x289003_2, .int .i64 x289004_2, .int .i64 x289005_2]) ?_ 1 _ rfl; refine blk_put (cs := #[.slice none 0 0, .int .i64 x289001_2, .int .i64 x289002_2, .int .i64 x289003_2, .int .i64 x289004_2, .int .i64 x289005_2]) ?_ 0 _ rfl; (with_reducible repeat (first | refine blk_drewN ?_ _ | refine blk_drew ?_ | refine blk_alloc ?_ _)); exact BK288.out) Try.underlying115 rfl (by kernel_rfl)) rfl ?_
       exact ⟨_, by first | rfl | (simp <;> rfl) | (simp [*] <;> rfl), by (with_reducible repeat (first | apply Kd.R_alloc | apply Kd.R_drewN | apply Kd.R_drew)); exact Kd.R_mono (Kd.R_far (p := ⟨gb288, 5, none⟩) (Kd.R_far (p := ⟨gb288, 4, none⟩) (Kd.R_far (p := ⟨gb288, 3, none⟩) (Kd.R_far (p := ⟨gb288, 2, none⟩) (Kd.R_far (p := ⟨gb288, 1, none⟩) (Kd.R_far (p := ⟨gb288, 0, none⟩) (Kd.R_types HO_290000.out BK288.out (by decide)) (fun _ hk => hk.2) (.slice Ao61 x290000_2.length co61)) (fun _ hk => hk.2) (.int .i64 x290001_2)) (fun _ hk => hk.2) (.int .i64 x290002_2)) (fun _ hk => hk.2) (.int .i64 x290003_2)) (fun _ hk => hk.2) (.int .i64 x290004_2)) (fun _ hk => hk.2) (.int .i64 x290005_2)) (fun _ hk => trivial), by repeat (first | exact zh0 HB | refine below_set ?_ GE287.out | refine below_set ?_ GE288.out | refine below_set ?_ GE289.out)⟩

open Go.Proofs.Ytkifenbcepicjab.Cp
/-! ### spec_SingleCost: function 38 -/
def spec_SingleCost.f (k : Nat) (a0_0 : Int) (a0_1 : Int) (a0_2 : Int) (a1 : Int) : Option (Int × Bool) := (spec_l4Singles.f k a0_0 a0_1 a0_2 a1).bind fun bt303 => (some (bt303.2.2.1, bt303.2.2.2.2.2.2))
theorem spec_SingleCost.mono : ∀ a0 a1 a2 a3 k, LeO (spec_SingleCost.f k a0 a1 a2 a3) (spec_SingleCost.f (k + 1) a0 a1 a2 a3) := by
 intro a0 a1 a2 a3 k
 unfold spec_SingleCost.f
 repeat' first
   | (with_reducible exact spec_l4Singles.mono _ _ _ _ _)
   | (with_reducible exact LeO.refl _)
   | (with_reducible exact LeO.none _)
   | (with_reducible refine LeO.ite ?_ ?_)
   | (with_reducible refine LeO.bind ?_ (fun _ => ?_))
   | exact spec_l4Singles.mono _ _ _ _ _
   | exact LeO.none _
   | refine LeO.ite ?_ ?_
   | refine LeO.bind ?_ (fun _ => ?_)
set_option maxHeartbeats 8000000 in
set_option maxRecDepth 100000 in
theorem spec_SingleCost.calls (k : Nat) (a0_0 : Int) (a0_1 : Int) (a0_2 : Int) (a1 : Int) (r1 : Int) (r2 : Bool) (w : World) (h : spec_SingleCost.f k a0_0 a0_1 a0_2 a1 = some (r1, r2)) :
  Calls Try.prog 38 #[.agg #[.int .i64 a0_0, .int .i64 a0_1, .int .i64 a0_2], .int .i64 a1] w fun e w' => e = .returned (.tuple #[.int .i64 r1, .bool r2]) ∧ Below w.heap.size w w' := by
 have hu60 := Try.underlying60
 have hu115 := Try.underlying115
 have HB := Aside0.mk (Below.refl w.heap.size w)
 have H : ((spec_l4Singles.f k a0_0 a0_1 a0_2 a1).bind fun bt303 => (some (bt303.2.2.1, bt303.2.2.2.2.2.2))) = some (r1, r2) := h
 clear h
 replace H := Option.bind_eq_some_iff.mp H
 obtain ⟨⟨t303, t306, t307, t308, t309, t310, t311⟩, A30, H⟩ := H
 replace H : (some (t307, t311)) = some (r1, r2) := H
 have A3 := Aside0.mk A30
 clear A30
 simp only [Option.some.injEq, Prod.mk.injEq] at H
 obtain ⟨rfl, rfl⟩ := H
 go_enter Try.func38, Try.ntmps38
 go_wp2_with (first | ((with_reducible refine gate_dst (N := 2) rfl ?_); refine box_event ?hg (N := 2) ?hd (cs := #[.int .i64 a0_0, .int .i64 a0_1, .int .i64 a0_2]) (t := 60) ?hr ?_; (case hd => rfl); (case hg => rfl); (case hr => first | (go_simp; done) | (go_simp; rfl)); intro gb302 hg w4 hbox hb; have BK302 := Aside0.mk (hbox); have GW302 := zge HB hg; have GE302 := zge HB hg; replace HB := zhs HB hb; clear hb hbox hg; have hcz5_0 := zc0 BK302 0 rfl; have hcz5_1 := zc0 BK302 1 rfl; have hcz5_2 := zc0 BK302 2 rfl; have hfz5_0 := blk_frozen BK302.out 0; have hfz5_1 := blk_frozen BK302.out 1; have hfz5_2 := blk_frozen BK302.out 2) | ((with_reducible refine gate_callee (f := 84) rfl ?_); refine goesL_ (some 11) rfl rfl Try.func84 (by kernel_rfl) rfl #[.agg #[.int .i64 a0_0, .int .i64 a0_1, .int .i64 a0_2], .int .i64 a1] rfl (by (try simp only [zq1, zq2, zq3]); first | done | rfl | (simp only [List.length_drop, List.length_take]; rfl)) ?_; (with_reducible refine (spec_l4Singles.calls k a0_0 a0_1 a0_2 a1 t303 t306 t307 t308 t309 t310 t311 _ A3.out).mono ?_); rintro e w6 ⟨v304, rfl, ho0, hb⟩; refine ⟨_, rfl, ?_⟩; have HO305 := Aside0.mk (Kd.R_lower ho0 (below_size (zh0 HB))); replace BK302 := zb0 BK302 hb; replace HB := zhs HB hb; (try clear hb); (try clear ho0)) | ((with_reducible refine gate_dst (N := 6) rfl ?_); refine box_event ?hg (N := 6) ?hd (cs := #[.slice none 0 0, .int .i64 0, .int .i64 0, .int .i64 0, .int .i64 0, .int .i64 0]) (t := 115) ?hr ?_; (case hd => rfl); (case hg => rfl); (case hr => first | (go_simp; done) | (go_simp; rfl)); intro gb312 hg w7 hbox hb; have BK312 := Aside0.mk (hbox); have GW312 := zge HB hg; have GE312 := zge HB hg; have NB302_312 := znl BK302 hg; have NB312_302 := znr BK302 hg; replace HO305 := zrb HO305 hb; replace BK302 := zb0 BK302 hb; replace HB := zhs HB hb; clear hb hbox hg; obtain ⟨Ao8, co8, eo8⟩ := Kd.R_slice HO305.out; subst eo8; have hnb9 := NB312_302.out; have hnc9 := NB302_312.out; have hcz10_0 := zc0 BK312 0 rfl; have hcz10_1 := zc0 BK312 1 rfl; have hcz10_2 := zc0 BK312 2 rfl; have hcz10_3 := zc0 BK312 3 rfl; have hcz10_4 := zc0 BK312 4 rfl; have hcz10_5 := zc0 BK312 5 rfl; have hfz10_0 := blk_frozen BK312.out 0; have hfz10_1 := blk_frozen BK312.out 1; have hfz10_2 := blk_frozen BK312.out 2; have hfz10_3 := blk_frozen BK312.out 3; have hfz10_4 := blk_frozen BK312.out 4; have hfz10_5 := blk_frozen BK312.out 5))
 go_ret2
 exact ⟨zfr, by repeat (first | exact zh0 HB | refine below_set ?_ GE302.out | refine below_set ?_ GE312.out)⟩

/-! ### impl_SingleMoves: function 39 (by hand) -/
def impl_SingleMoves.f (a0_0 a0_1 a0_2 : Int) (a1 : Int) : Option (Int × Bool) := some (((impl_singles.allF a0_0 a0_1 a0_2 a1).getD (0, 0, 0, 0)).2.2.1, (impl_singles.allF a0_0 a0_1 a0_2 a1).isSome)
set_option maxHeartbeats 4000000 in
set_option maxRecDepth 100000 in
theorem impl_SingleMoves.calls (a0_0 a0_1 a0_2 : Int) (a1 : Int) (r1 : Int) (r2 : Bool) (w : World) (h : impl_SingleMoves.f a0_0 a0_1 a0_2 a1 = some (r1, r2)) :
    Calls Try.prog 39 #[.agg #[.int .i64 a0_0, .int .i64 a0_1, .int .i64 a0_2], .int .i64 a1] w fun e w' => e = .returned (.tuple #[.int .i64 r1, .bool r2]) ∧ Below w.heap.size w w' := by
  obtain ⟨sl, hsl⟩ : ∃ s, s = (impl_singles.allF a0_0 a0_1 a0_2 a1).getD (0, 0, 0, 0) := ⟨_, rfl⟩
  obtain ⟨q, hq⟩ : ∃ q, q = (impl_singles.allF a0_0 a0_1 a0_2 a1).isSome := ⟨_, rfl⟩
  have HC := Lib.hid (impl_singles.run a0_0 a0_1 a0_2 a1)
  unfold impl_SingleMoves.f at h
  rw [← hsl, ← hq] at h HC
  obtain ⟨rfl, rfl⟩ := Prod.mk.inj (Option.some.inj h)
  clear h hsl
  obtain ⟨gb, hgb⟩ : ∃ g, g = w.heap.size := ⟨_, rfl⟩
  obtain ⟨W0, hW⟩ : ∃ W, W = w.alloc (.cells #[.int .i64 a0_0, .int .i64 a0_1, .int .i64 a0_2] 60) := ⟨_, rfl⟩
  have HI : Hid (Lv.Inv w W0 [Lv.boxF gb #[.int .i64 a0_0, .int .i64 a0_1, .int .i64 a0_2] 60]) := by
    subst hW hgb
    exact Lib.hid ((Lv.Inv.refl w).box #[.int .i64 a0_0, .int .i64 a0_1, .int .i64 a0_2] 60)
  go_enter Try.func39, Try.ntmps39
  go_upto_region 1 with (fail)
  rw [← hW, ← hgb]
  clear hW hgb
  refine Fl.startW [.one 0, .take 1, .one 2, .take 3, .take 4, .take 5, .one 6, .one 7, .take 8] (by decide) HI.out ?_
  refine Fl.ldF (some 9) 0 rfl rfl rfl (by rfl) _ _ rfl rfl Try.underlying60 rfl (by kernel_rfl) ?_
  simp only [Act.put, Fl.z1, Fl.z2, Fl.z3]
  refine Fl.take (some 10) (v := .int .i64 a1) rfl rfl (Or.inl ⟨by rfl, fun _ _ => by rfl⟩) ?_
  simp only [Act.put, Fl.z1, Fl.z2, Fl.z3]
  refine Fl.call (some 11) Try.func83 (by kernel_rfl) rfl #[.agg #[.int .i64 a0_0, .int .i64 a0_1, .int .i64 a0_2], .int .i64 a1] rfl rfl rfl (by rfl) rfl (fun E2 W2 hE2 hi => ?_)
  refine (HC.out W2).mono ?_
  rintro e W' ⟨rfl, hb⟩
  refine Fl.keep (v := .tuple #[.agg (impl_store_grow.cs sl), .bool q]) hi hb ?_
  clear hi hb hE2
  simp only [Act.put, Fl.z1, Fl.z2, Fl.z3]
  refine Fl.take (some 8) (v := .tuple #[.agg (impl_store_grow.cs sl), .bool q]) rfl rfl (Or.inl ⟨by rfl, fun _ _ => by rfl⟩) ?_
  simp only [Act.put, Fl.z1, Fl.z2, Fl.z3]
  refine Fl.take (some 12) (v := .agg (impl_store_grow.cs sl)) rfl rfl (Or.inl ⟨by rfl, fun _ _ => by rfl⟩) ?_
  simp only [Act.put, Fl.z1, Fl.z2, Fl.z3]
  refine Fl.take (some 13) (v := .bool q) rfl rfl (Or.inl ⟨by rfl, fun _ _ => by rfl⟩) ?_
  simp only [Act.put, Fl.z1, Fl.z2, Fl.z3]
  refine Fl.var (N := 6) (cs := #[.int .i64 0, .int .i64 0, .int .i64 0, .int .i64 0]) (t := 110) ⟨_, rfl, rfl, fun _ => rfl, fun e w => by first | (go_simp; done) | (go_simp; rfl)⟩ (fun gs => ?_)
  simp only [Act.put, Fl.z1, Fl.z2, Fl.z3]
  refine Fl.store 0 (impl_store_grow.cs sl) rfl rfl rfl rfl _ _ _ rfl rfl rfl (by rfl) rfl (by kernel_rfl) (by simp [Value.oneCell']) ?_
  refine Fl.take (some 7) (v := .bool q) rfl rfl (Or.inl ⟨by rfl, fun _ _ => by rfl⟩) ?_
  simp only [Act.put, Fl.z1, Fl.z2, Fl.z3]
  refine Fl.stopW (fun W hi => ?_)
  replace HI := Lib.hid hi
  clear hi
  go_upto_region 2 with (fail)
  refine Fl.startL [.take 0, .take 1, .take 2, .take 3, .take 4] (by decide) HI.out ?_
  refine Fl.take (some 14) (v := .pointer (some ⟨gs, 2, none⟩)) rfl rfl (Or.inl ⟨by rfl, fun _ _ => by first | rfl | (go_simp; done) | (go_simp; rfl) | (go_simp; omega)⟩) ?_
  simp only [Act.put, Fl.z1, Fl.z2, Fl.z3]
  refine Fl.take (some 15) (v := .int .i64 sl.2.2.1) rfl rfl (Fl.ldc 0 2 rfl (by rfl) _ _ rfl rfl rfl Try.underlying3 rfl) ?_
  simp only [Act.put, Fl.z1, Fl.z2, Fl.z3]
  refine Fl.take (some 16) (v := .bool q) rfl rfl (Or.inl ⟨by rfl, fun _ _ => by rfl⟩) ?_
  simp only [Act.put, Fl.z1, Fl.z2, Fl.z3]
  refine Fl.take (some 4) (v := .int .i64 sl.2.2.1) rfl rfl (Or.inl ⟨by rfl, fun _ _ => by rfl⟩) ?_
  simp only [Act.put, Fl.z1, Fl.z2, Fl.z3]
  refine Fl.take (some 5) (v := .bool q) rfl rfl (Or.inl ⟨by rfl, fun _ _ => by rfl⟩) ?_
  simp only [Act.put, Fl.z1, Fl.z2, Fl.z3]
  refine Fl.stop (fun W hi => ?_)
  replace HI := Lib.hid hi
  clear hi
  go_wp2
  go_ret2
  exact ⟨rfl, HI.out.bel⟩

open Go.Proofs.Ytkifenbcepicjab.Cp
/-! ### spec_SingleMoves: function 40 -/
def spec_SingleMoves.f (k : Nat) (a0_0 : Int) (a0_1 : Int) (a0_2 : Int) (a1 : Int) : Option (Int × Bool) := (spec_l4Singles.f k a0_0 a0_1 a0_2 a1).bind fun bt314 => (some (bt314.2.1, bt314.2.2.2.2.2.2))
theorem spec_SingleMoves.mono : ∀ a0 a1 a2 a3 k, LeO (spec_SingleMoves.f k a0 a1 a2 a3) (spec_SingleMoves.f (k + 1) a0 a1 a2 a3) := by
 intro a0 a1 a2 a3 k
 unfold spec_SingleMoves.f
 repeat' first
   | (with_reducible exact spec_l4Singles.mono _ _ _ _ _)
   | (with_reducible exact LeO.refl _)
   | (with_reducible exact LeO.none _)
   | (with_reducible refine LeO.ite ?_ ?_)
   | (with_reducible refine LeO.bind ?_ (fun _ => ?_))
   | exact spec_l4Singles.mono _ _ _ _ _
   | exact LeO.none _
   | refine LeO.ite ?_ ?_
   | refine LeO.bind ?_ (fun _ => ?_)
set_option maxHeartbeats 8000000 in
set_option maxRecDepth 100000 in
theorem spec_SingleMoves.calls (k : Nat) (a0_0 : Int) (a0_1 : Int) (a0_2 : Int) (a1 : Int) (r1 : Int) (r2 : Bool) (w : World) (h : spec_SingleMoves.f k a0_0 a0_1 a0_2 a1 = some (r1, r2)) :
  Calls Try.prog 40 #[.agg #[.int .i64 a0_0, .int .i64 a0_1, .int .i64 a0_2], .int .i64 a1] w fun e w' => e = .returned (.tuple #[.int .i64 r1, .bool r2]) ∧ Below w.heap.size w w' := by
 have hu60 := Try.underlying60
 have hu115 := Try.underlying115
 have HB := Aside0.mk (Below.refl w.heap.size w)
 have H : ((spec_l4Singles.f k a0_0 a0_1 a0_2 a1).bind fun bt314 => (some (bt314.2.1, bt314.2.2.2.2.2.2))) = some (r1, r2) := h
 clear h
 replace H := Option.bind_eq_some_iff.mp H
 obtain ⟨⟨t314, t317, t318, t319, t320, t321, t322⟩, A30, H⟩ := H
 replace H : (some (t317, t322)) = some (r1, r2) := H
 have A3 := Aside0.mk A30
 clear A30
 simp only [Option.some.injEq, Prod.mk.injEq] at H
 obtain ⟨rfl, rfl⟩ := H
 go_enter Try.func40, Try.ntmps40
 go_wp2_with (first | ((with_reducible refine gate_dst (N := 2) rfl ?_); refine box_event ?hg (N := 2) ?hd (cs := #[.int .i64 a0_0, .int .i64 a0_1, .int .i64 a0_2]) (t := 60) ?hr ?_; (case hd => rfl); (case hg => rfl); (case hr => first | (go_simp; done) | (go_simp; rfl)); intro gb313 hg w4 hbox hb; have BK313 := Aside0.mk (hbox); have GW313 := zge HB hg; have GE313 := zge HB hg; replace HB := zhs HB hb; clear hb hbox hg; have hcz5_0 := zc0 BK313 0 rfl; have hcz5_1 := zc0 BK313 1 rfl; have hcz5_2 := zc0 BK313 2 rfl; have hfz5_0 := blk_frozen BK313.out 0; have hfz5_1 := blk_frozen BK313.out 1; have hfz5_2 := blk_frozen BK313.out 2) | ((with_reducible refine gate_callee (f := 84) rfl ?_); refine goesL_ (some 11) rfl rfl Try.func84 (by kernel_rfl) rfl #[.agg #[.int .i64 a0_0, .int .i64 a0_1, .int .i64 a0_2], .int .i64 a1] rfl (by (try simp only [zq1, zq2, zq3]); first | done | rfl | (simp only [List.length_drop, List.length_take]; rfl)) ?_; (with_reducible refine (spec_l4Singles.calls k a0_0 a0_1 a0_2 a1 t314 t317 t318 t319 t320 t321 t322 _ A3.out).mono ?_); rintro e w6 ⟨v315, rfl, ho0, hb⟩; refine ⟨_, rfl, ?_⟩; have HO316 := Aside0.mk (Kd.R_lower ho0 (below_size (zh0 HB))); replace BK313 := zb0 BK313 hb; replace HB := zhs HB hb; (try clear hb); (try clear ho0)) | ((with_reducible refine gate_dst (N := 6) rfl ?_); refine box_event ?hg (N := 6) ?hd (cs := #[.slice none 0 0, .int .i64 0, .int .i64 0, .int .i64 0, .int .i64 0, .int .i64 0]) (t := 115) ?hr ?_; (case hd => rfl); (case hg => rfl); (case hr => first | (go_simp; done) | (go_simp; rfl)); intro gb323 hg w7 hbox hb; have BK323 := Aside0.mk (hbox); have GW323 := zge HB hg; have GE323 := zge HB hg; have NB313_323 := znl BK313 hg; have NB323_313 := znr BK313 hg; replace HO316 := zrb HO316 hb; replace BK313 := zb0 BK313 hb; replace HB := zhs HB hb; clear hb hbox hg; obtain ⟨Ao8, co8, eo8⟩ := Kd.R_slice HO316.out; subst eo8; have hnb9 := NB323_313.out; have hnc9 := NB313_323.out; have hcz10_0 := zc0 BK323 0 rfl; have hcz10_1 := zc0 BK323 1 rfl; have hcz10_2 := zc0 BK323 2 rfl; have hcz10_3 := zc0 BK323 3 rfl; have hcz10_4 := zc0 BK323 4 rfl; have hcz10_5 := zc0 BK323 5 rfl; have hfz10_0 := blk_frozen BK323.out 0; have hfz10_1 := blk_frozen BK323.out 1; have hfz10_2 := blk_frozen BK323.out 2; have hfz10_3 := blk_frozen BK323.out 3; have hfz10_4 := blk_frozen BK323.out 4; have hfz10_5 := blk_frozen BK323.out 5))
 go_ret2
 exact ⟨zfr, by repeat (first | exact zh0 HB | refine below_set ?_ GE313.out | refine below_set ?_ GE323.out)⟩

end Go.Proofs.Ytkifenbcepicjab.PFnGrowth
