/- What is proved here: each Go function that is named below answers, and leaves memory, as the theorem of its name says; no condition beyond those that each theorem states. Laid by this session's own program (wip/driver.py) over the kit's print. -/
import Derived.Test.YtkifenbcepicjaaPFnExactEntriesBetweenx0
import Derived.Test.YtkifenbcepicjaaPFnExactEntriesBetweenx1
import Derived.Test.YtkifenbcepicjaaPFnExactEntriesBetweenx2
import Derived.Test.YtkifenbcepicjaaPFnExactEntriesBetweenx4
namespace Go.Proofs.Ytkifenbcepicjaa.PFnExactEntriesBetween
open Go.RowKit Go.Proofs.YtkifenbcepicjaaW.PrintWords Go.Proofs.YtkifenbcepicjaaW.PrintLast Go.Proofs.YtkifenbcepicjaaW.PrintMore
attribute [local go_sem] max2_int min2_int max_two min_two max_three min_three max_four min_four   -- for this text's walks alone
set_option linter.unusedVariables false
set_option linter.unusedSimpArgs false

open Go.Proofs.Ytkifenbcepicjaa.Cp
/-! ### laws_eqMemory: function 14 -/
def laws_eqMemory.f (k : Nat) (l0_0 : List (List Int)) (l1_0 : List (List Int)) : Option (Bool) := (laws_eqByteSS.f k l0_0 l1_0).bind fun t159 => (if t159 = true then (some true) else (some false))
theorem laws_eqMemory.mono : ∀ a0 a1 k, LeO (laws_eqMemory.f k a0 a1) (laws_eqMemory.f (k + 1) a0 a1) := by
 intro a0 a1 k
 unfold laws_eqMemory.f
 repeat' first
   | (with_reducible exact laws_eqByteSS.mono _ _ _)
   | (with_reducible exact LeO.refl _)
   | (with_reducible exact LeO.none _)
   | (with_reducible refine LeO.ite ?_ ?_)
   | (with_reducible refine LeO.bind ?_ (fun _ => ?_))
   | exact laws_eqByteSS.mono _ _ _
   | exact LeO.none _
   | refine LeO.ite ?_ ?_
   | refine LeO.bind ?_ (fun _ => ?_)
set_option maxHeartbeats 8000000 in
set_option maxRecDepth 100000 in
theorem laws_eqMemory.calls (k : Nat) (A0_0 : Option Addr) (c0_0 : Nat) (l0_0 : List (List Int)) (A1_0 : Option Addr) (c1_0 : Nat) (l1_0 : List (List Int)) (r : Bool) (w : World) (hr0_0 : Kd.C (Kd.slice 5 (Kd.int .u8)) w A0_0 l0_0.length l0_0) (hc0_0 : l0_0.length ≤ c0_0) (hr1_0 : Kd.C (Kd.slice 5 (Kd.int .u8)) w A1_0 l1_0.length l1_0) (hc1_0 : l1_0.length ≤ c1_0) (h : laws_eqMemory.f k l0_0 l1_0 = some r) :
  Calls Try.prog 14 #[.agg #[.slice A0_0 l0_0.length c0_0], .agg #[.slice A1_0 l1_0.length c1_0]] w fun e w' => e = .returned (.bool r) ∧ Below w.heap.size w w' := by
 have hu32 := Try.underlying32
 have HR0_0 := Aside0.mk hr0_0
 have HC0_0 := Aside0.mk hc0_0
 clear hr0_0 hc0_0
 have HR1_0 := Aside0.mk hr1_0
 have HC1_0 := Aside0.mk hc1_0
 clear hr1_0 hc1_0
 have HB := Aside0.mk (Below.refl w.heap.size w)
 have H : ((laws_eqByteSS.f k l0_0 l1_0).bind fun t159 => (if t159 = true then (some true) else (some false))) = some r := h
 clear h
 replace H := Option.bind_eq_some_iff.mp H
 obtain ⟨t159, A30, H⟩ := H
 replace H : (if t159 = true then (some true) else (some false)) = some r := H
 have A3 := Aside0.mk A30
 clear A30
 by_cases c4 : t159 = true
 ·subst c4
  have H1 : (some true) = some r := by rw [if_pos rfl] at H; exact H
  clear H
  have H := H1
  clear H1
  obtain rfl := Option.some.inj H
  go_enter Try.func14, Try.ntmps14
  go_wp2_with (first | ((with_reducible refine gate_dst (N := 2) rfl ?_); refine box_event ?hg (N := 2) ?hd (cs := #[.slice A0_0 l0_0.length c0_0]) (t := 32) ?hr ?_; (case hd => rfl); (case hg => rfl); (case hr => first | (go_simp; done) | (go_simp; rfl)); intro gb157 hg w5 hbox hb; have BK157 := Aside0.mk (hbox); have GW157 := zge HB hg; have GE157 := zge HB hg; replace HB := zhs HB hb; clear hb hbox hg) | ((with_reducible refine gate_dst (N := 3) rfl ?_); refine box_event ?hg (N := 3) ?hd (cs := #[.slice A1_0 l1_0.length c1_0]) (t := 32) ?hr ?_; (case hd => rfl); (case hg => rfl); (case hr => first | (go_simp; done) | (go_simp; rfl)); intro gb158 hg w6 hbox hb; have BK158 := Aside0.mk (hbox); have GW158 := zge HB hg; have GE158 := zge HB hg; have NB157_158 := znl BK157 hg; have NB158_157 := znr BK157 hg; replace BK157 := zb0 BK157 hb; replace HB := zhs HB hb; clear hb hbox hg; have hnb7 := NB157_158.out; have hnc7 := NB158_157.out; have hcz8_0 := zc0 BK157 0 rfl; have hfz8_0 := blk_frozen BK157.out 0; have hcz9_0 := zc0 BK158 0 rfl; have hfz9_0 := blk_frozen BK158.out 0) | ((with_reducible refine gate_callee (f := 43) rfl ?_); refine goesL_ (some 9) rfl rfl Try.func43 (by kernel_rfl) rfl #[.slice A0_0 l0_0.length c0_0, .slice A1_0 l1_0.length c1_0] rfl (by (try simp only [zq1, zq2, zq3]); first | done | rfl | (simp only [List.length_drop, List.length_take]; rfl)) ?_; (with_reducible refine (laws_eqByteSS.calls k _ _ l0_0 _ _ l1_0 true _ ?side1 ?side2 ?side3 ?side4 A3.out).mono ?_); (case side1 => exact Kd.C_below HR0_0.out (zh0 HB)); (case side2 => exact HC0_0.out); (case side3 => exact Kd.C_below HR1_0.out (zh0 HB)); (case side4 => exact HC1_0.out); rintro e w' ⟨rfl, ⟨nd, rfl⟩⟩; refine ⟨_, rfl, ?_⟩))
  go_ret
  exact ⟨by first | rfl | (simp <;> rfl) | (simp [*] <;> rfl), by repeat (first | exact zh0 HB | refine below_set ?_ GE157.out | refine below_set ?_ GE158.out)⟩
 ·replace c4 := Bool.eq_false_iff.mpr c4
  subst c4
  have H1 : (some false) = some r := by rw [if_neg (show ¬ (false = true) by decide)] at H; exact H
  clear H
  have H := H1
  clear H1
  obtain rfl := Option.some.inj H
  go_enter Try.func14, Try.ntmps14
  go_wp2_with (first | ((with_reducible refine gate_dst (N := 2) rfl ?_); refine box_event ?hg (N := 2) ?hd (cs := #[.slice A0_0 l0_0.length c0_0]) (t := 32) ?hr ?_; (case hd => rfl); (case hg => rfl); (case hr => first | (go_simp; done) | (go_simp; rfl)); intro gb157 hg w10 hbox hb; have BK157 := Aside0.mk (hbox); have GW157 := zge HB hg; have GE157 := zge HB hg; replace HB := zhs HB hb; clear hb hbox hg) | ((with_reducible refine gate_dst (N := 3) rfl ?_); refine box_event ?hg (N := 3) ?hd (cs := #[.slice A1_0 l1_0.length c1_0]) (t := 32) ?hr ?_; (case hd => rfl); (case hg => rfl); (case hr => first | (go_simp; done) | (go_simp; rfl)); intro gb158 hg w11 hbox hb; have BK158 := Aside0.mk (hbox); have GW158 := zge HB hg; have GE158 := zge HB hg; have NB157_158 := znl BK157 hg; have NB158_157 := znr BK157 hg; replace BK157 := zb0 BK157 hb; replace HB := zhs HB hb; clear hb hbox hg; have hnb12 := NB157_158.out; have hnc12 := NB158_157.out; have hcz13_0 := zc0 BK157 0 rfl; have hfz13_0 := blk_frozen BK157.out 0; have hcz14_0 := zc0 BK158 0 rfl; have hfz14_0 := blk_frozen BK158.out 0) | ((with_reducible refine gate_callee (f := 43) rfl ?_); refine goesL_ (some 9) rfl rfl Try.func43 (by kernel_rfl) rfl #[.slice A0_0 l0_0.length c0_0, .slice A1_0 l1_0.length c1_0] rfl (by (try simp only [zq1, zq2, zq3]); first | done | rfl | (simp only [List.length_drop, List.length_take]; rfl)) ?_; (with_reducible refine (laws_eqByteSS.calls k _ _ l0_0 _ _ l1_0 false _ ?side1 ?side2 ?side3 ?side4 A3.out).mono ?_); (case side1 => exact Kd.C_below HR0_0.out (zh0 HB)); (case side2 => exact HC0_0.out); (case side3 => exact Kd.C_below HR1_0.out (zh0 HB)); (case side4 => exact HC1_0.out); rintro e w' ⟨rfl, ⟨nd, rfl⟩⟩; refine ⟨_, rfl, ?_⟩))
  go_ret
  exact ⟨by first | rfl | (simp <;> rfl) | (simp [*] <;> rfl), by repeat (first | exact zh0 HB | refine below_set ?_ GE157.out | refine below_set ?_ GE158.out)⟩

open Go.Proofs.Ytkifenbcepicjaa.Cp
/-! ### laws_markByteS: function 73 -/
def laws_markByteS.l0 : Nat → List Int → Int → Int → Option (Int × List Int)
 | 0, _, _, _ => none
 | k + 1, x0, x1, x5 => if x5 < (x0.length : Int) then (if 0 ≤ x5 then (laws_markByteS.l0 k (x0.set (x5 : Int).toNat ((x1) % 256)) (wrap64 (x1 + 1)) (wrap64 (x5 + 1))) else (none)) else (some (x1, x0))
def laws_markByteS.f (k : Nat) (l0 : List Int) (a1 : Int) : Option (Int × List Int) := laws_markByteS.l0 k l0 a1 0
theorem laws_markByteS.mono_l : ∀ k, (∀ y0 y1 y2, LeO (laws_markByteS.l0 k y0 y1 y2) (laws_markByteS.l0 (k + 1) y0 y1 y2))
 | 0 => fun _ _ _ r h => by simp [laws_markByteS.l0] at h
 | k + 1 => by
  have ih0 := laws_markByteS.mono_l k
  ·intro y0 y1 y2
   unfold laws_markByteS.l0
   repeat' first
   | (with_reducible exact ih0 _ _ _)
   | (with_reducible exact LeO.refl _)
   | (with_reducible exact LeO.none _)
   | (with_reducible refine LeO.ite ?_ ?_)
   | (with_reducible refine LeO.bind ?_ (fun _ => ?_))
   | exact ih0 _ _ _
   | exact LeO.none _
   | refine LeO.ite ?_ ?_
   | refine LeO.bind ?_ (fun _ => ?_)
theorem laws_markByteS.mono : ∀ a0 a1 k, LeO (laws_markByteS.f k a0 a1) (laws_markByteS.f (k + 1) a0 a1) := by
 intro a0 a1 k
 have ih0 := laws_markByteS.mono_l k
 unfold laws_markByteS.f
 repeat' first
   | (with_reducible exact ih0 _ _ _)
   | (with_reducible exact LeO.refl _)
   | (with_reducible exact LeO.none _)
   | (with_reducible refine LeO.ite ?_ ?_)
   | (with_reducible refine LeO.bind ?_ (fun _ => ?_))
   | exact ih0 _ _ _
   | exact LeO.none _
   | refine LeO.ite ?_ ?_
   | refine LeO.bind ?_ (fun _ => ?_)
set_option maxHeartbeats 8000000 in
set_option maxRecDepth 100000 in
theorem laws_markByteS.calls (k : Nat) (P0_ : Nat → Prop) (u9000_ : Value) (l0 : List Int) (a1 : Int) (r1 : Int) (r2 : List Int) (w0 w : World) (hB : Below w0.heap.size w0 w) (ho0 : Kd.R (Kd.int .u8) 5 w w0.heap.size P0_ u9000_ l0) (h : laws_markByteS.f k l0 a1 = some (r1, r2)) :
  Calls Try.prog 73 #[u9000_, .int .i64 a1] w fun e w' => e = .returned (.int .i64 r1) ∧ Kd.R (Kd.int .u8) 5 w' w0.heap.size (fun k_ => (P0_ k_ ∨ w.heap.size ≤ k_)) u9000_ r2 ∧ Below w0.heap.size w0 w' ∧ Kept w w' (fun k_ => P0_ k_) := by
 have HO0 := Aside0.mk (show Kd.R (Kd.int .u8) 5 w w0.heap.size (fun k_ => (P0_ k_ ∨ w.heap.size ≤ k_)) u9000_ l0 from Kd.R_mono ho0 (fun k_ hk => (.inl hk)))
 have HK := Aside0.mk (Kept.refl w (fun k_ => P0_ k_))
 have HW0 := Aside0.mk hB.size
 have HB := Aside0.mk hB
 clear hB
 have H : (laws_markByteS.l0 k l0 a1 0) = some (r1, r2) := h
 clear h
 have H' := Aside0.mk H
 clear H
 go_enter Try.func73, Try.ntmps73
 go_wp2
 go_loopg [1, 5] k (fun kq v1 v5 w' => ∃ (x0_1 : List Int) (x1_1 : Int) (x5_1 : Int), v1 = .int .i64 x1_1 ∧ v5 = .int .i64 x5_1 ∧ Aside0 (laws_markByteS.l0 kq x0_1 x1_1 x5_1 = some (r1, r2)) ∧ Aside0 (kq ≤ k) ∧ Aside0 (Kd.R (Kd.int .u8) 5 w' w0.heap.size (fun k_ => (P0_ k_ ∨ w.heap.size ≤ k_)) u9000_ x0_1) ∧ Aside0 (Kept w w' (fun k_ => P0_ k_)) ∧ Aside0 (Below w0.heap.size w0 w'))
 case atStart => exact ⟨(l0), (a1), (0), (by first | rfl | (simp; done) | (simp [*]; done)), (by first | rfl | (simp; done) | (simp [*]; done)), H', ⟨Nat.le_refl _⟩, ⟨zr0 HO0⟩, ⟨by repeat (first | (with_reducible first | exact HK.out | apply Kept.alloc | apply Kept.drewN | apply Kept.drew) | exact HK.out)⟩, ⟨by repeat (first | exact zh0 HB)⟩⟩
 case round =>
  clear H'
  try clear p2
  obtain ⟨x0_1, x1_1, x5_1, rfl, rfl, HA, HK1, HO_0, HK, HB⟩ := hrel
  cases gk with
  | zero => exact absurd HA.out (by simp [laws_markByteS.l0])
  | succ k1 =>
   have H := HA.out
   clear HA
   simp only [laws_markByteS.l0] at H
   by_cases c3 : x5_1 < (x0_1.length : Int)
   ·rw [if_pos c3] at H
    have c3b0 : decide (x5_1 < (x0_1.length : Int)) = true := decide_eq_true c3
    clear c3
    by_cases c4 : 0 ≤ x5_1
    ·rw [if_pos c4] at H
     have c4b0 : decide (0 ≤ x5_1) = true := decide_eq_true c4
     clear c4
     obtain ⟨y160, hy160⟩ : ∃ y_ : List Int, y_ = (x0_1.set (x5_1 : Int).toNat ((x1_1) % 256)) := ⟨_, rfl⟩
     replace H : (laws_markByteS.l0 k1 y160 (wrap64 (x1_1 + 1)) (wrap64 (x5_1 + 1))) = some (r1, r2) := by first | (rw [hy160]; with_reducible exact H) | (have H2_ := (Option.bind_some _ _).symm.trans H; rw [hy160]; with_reducible exact H2_) | (have H2_ := (Option.bind_some _ _).symm.trans H; with_reducible exact H2_) | with_reducible exact H | (rw [hy160]; exact H) | exact H
     have Ny160 := Aside0.mk hy160
     clear hy160
     have H' := Aside0.mk H
     clear H
     obtain ⟨Ao6, co6, eo6⟩ := Kd.R_slice HO_0.out
     subst eo6
     have p5 : 0 ≤ (x5_1 : Int) := of_decide_eq_true (by first | (with_reducible assumption) | assumption)
     have q5 : (x5_1 : Int) < ((x0_1.length : Int) : Int) := of_decide_eq_true (by first | (with_reducible assumption) | assumption)
     obtain ⟨go5, co5, eo5, gb5, gl5, cl5, HG5⟩ := Kd.R_form HO_0.out (by omega)
     (first | cases eo5 | (injection eo5 with ea_ en_ ec_; (first | subst ea_ | (injection ea_ with ea_; subst ea_)); subst ec_; clear en_))
     have GB5 := Aside0.mk gb5
     have GG5 := Aside0.mk HG5
     clear gb5 gl5 HG5
     have HMgo5 := Aside0.mk (show (P0_ go5 ∨ w.heap.size ≤ go5) from (HO_0.out.1 _ rfl))
     obtain ⟨hx5_0, hf5_0⟩ := Kd.R_celln 0 HO_0.out (x5_1 : Int) p5 q5
     replace p5 := eq_true p5
     replace q5 := eq_true q5
     have HP7 := Kd.R_putg HO_0.out (x5_1 : Int) ((x1_1) % 256)
     go_wp2_with (first | ((with_reducible refine gate_store (t := 5) (p := 16) rfl ?_); refine store_event (t := 5) (p := 16) (v := ?vo_w8) (w1 := (wr.setCell ⟨go5, (x5_1 : Int).toNat, none⟩ (.int .u8 ((x1_1) % 256)))) ?hg ?ho ?hn ?hr ?_; (case ho => rfl); (case hg => rfl); (case hn => rfl); (case hr => first | (go_simp; done) | (go_simp; rfl)); intro w8 hw; have hg : wr.grownBy w8 (some go5) := (by rw [hw]; exact HP7.2); have hp_ : Kd.R (Kd.int .u8) 5 w8 w0.heap.size (fun k_ => (P0_ k_ ∨ w.heap.size ≤ k_)) (.slice (some ⟨go5, 0, none⟩) x0_1.length co6) y160 := (by rw [hw, Ny160.out]; exact HP7.1); clear HP7; have n0_ := Aside0.mk (hp_); have n1_ := Aside0.mk ((by rw [hw]; exact below_set (HB.out) GB5.out : Below w0.heap.size w0 w8)); have n2_ := Aside0.mk (Kept.of_grown (S := (fun k_ => P0_ k_)) hg (by repeat (first | (with_reducible first | exact HK.out | apply Kept.alloc | apply Kept.drewN | apply Kept.drew) | exact HK.out)) (fun k_ e_ => (HO_0.out.1 k_ e_))); clear HO_0; clear HB; clear HK; have HO_0 := n0_; have HB := n1_; have HK := n2_; clear n0_ n1_ n2_; clear hg hw hp_))
     go_roundg k1
     case measure => have := HK1.out; omega
     case rel => exact ⟨(y160), (wrap64 (x1_1 + 1)), (wrap64 (x5_1 + 1)), (by first | rfl | (simp; done) | (simp [*]; done)), (by first | rfl | (simp; done) | (simp [*]; done)), H', ⟨by have := HK1.out; omega⟩, ⟨zr0 HO_0⟩, ⟨by repeat (first | (with_reducible first | exact HK.out | apply Kept.alloc | apply Kept.drewN | apply Kept.drew) | exact HK.out)⟩, ⟨by repeat (first | exact zh0 HB)⟩⟩
    ·rw [if_neg c4] at H
     exact absurd H (by simp)
   ·rw [if_neg c3] at H
    have c3b0 : decide (x5_1 < (x0_1.length : Int)) = false := decide_eq_false c3
    clear c3
    simp only [Option.some.injEq, Prod.mk.injEq] at H
    obtain ⟨rfl, rfl⟩ := H
    obtain ⟨Ao9, co9, eo9⟩ := Kd.R_slice HO_0.out
    subst eo9
    go_wp2
    go_ret
    exact ⟨by first | rfl | (simp <;> rfl) | (simp [*] <;> rfl), zr0 HO_0, by repeat (first | exact zh0 HB), by repeat (first | (with_reducible first | exact HK.out | apply Kept.alloc | apply Kept.drewN | apply Kept.drew) | exact HK.out)⟩

/-! ### laws_markByteSS: function 44 (by hand) -/
def laws_markByteSS.l0 : Nat → List (List Int) → Int → Int → Option Int
  | 0, _, _, _ => none
  | k + 1, x0, x1, x2 => if x2 < (x0.length : Int) then (if 0 ≤ x2 then ((laws_markByteS.f k (rd_L1 x0 x2) x1).bind fun t => laws_markByteSS.l0 k x0 t.1 (wrap64 (x2 + 1))) else none) else some x1
def laws_markByteSS.f (k : Nat) (l0 : List (List Int)) (a1 : Int) : Option Int := laws_markByteSS.l0 k l0 a1 0
theorem laws_markByteSS.mono_l : ∀ k, (∀ y0 y1 y2, LeO (laws_markByteSS.l0 k y0 y1 y2) (laws_markByteSS.l0 (k + 1) y0 y1 y2))
  | 0 => fun _ _ _ r h => by simp [laws_markByteSS.l0] at h
  | k + 1 => by
    have ih0 := laws_markByteSS.mono_l k
    intro y0 y1 y2
    unfold laws_markByteSS.l0
    refine LeO.ite (LeO.ite (LeO.bind (laws_markByteS.mono _ _ _) (fun _ => ih0 _ _ _)) (LeO.none _)) (LeO.refl _)
theorem laws_markByteSS.mono : ∀ a0 a1 k, LeO (laws_markByteSS.f k a0 a1) (laws_markByteSS.f (k + 1) a0 a1) := fun a0 a1 k => laws_markByteSS.mono_l k a0 a1 0
set_option maxHeartbeats 8000000 in
set_option maxRecDepth 100000 in
theorem laws_markByteSS.calls (k : Nat) (P0_ : Nat → Prop) (u9000_ : Value) (l0 : List (List Int)) (a1 : Int) (r1 : Int) (w0 w : World) (hB : Below w0.heap.size w0 w) (ho0 : Kd.S (Kd.slice 5 (Kd.int .u8)) 43 w w0.heap.size P0_ u9000_ l0) (h : laws_markByteSS.f k l0 a1 = some r1) :
    Calls Try.prog 44 #[u9000_, .int .i64 a1] w fun e w' => e = .returned (.int .i64 r1) ∧ Below w0.heap.size w0 w' ∧ Kept w w' (fun k_ => P0_ k_) := by
  have hu22 := Try.underlying22
  have HO := Aside0.mk ho0
  have HB := Aside0.mk hB
  obtain ⟨A0, c0, ev⟩ := Kd.S_slice ho0
  subst ev
  have H' := Aside0.mk (show laws_markByteSS.l0 k l0 a1 0 = some r1 from h)
  clear h ho0 hB
  go_enter Try.func44, Try.ntmps44
  go_wp2
  go_loopg [1, 5] k (fun kq v1 v5 w' => ∃ (ys : List (List Int)) (x1 x2 : Int), v1 = .int .i64 x1 ∧ v5 = .int .i64 x2 ∧ Aside0 (laws_markByteSS.l0 kq l0 x1 x2 = some r1) ∧ Aside0 (kq ≤ k) ∧ Aside0 (ys.length = l0.length) ∧ Aside0 (0 ≤ x2 ∧ ∀ j, x2.toNat ≤ j → ys.getD j [] = l0.getD j []) ∧ Aside0 (Kd.S (Kd.slice 5 (Kd.int .u8)) 43 w' w0.heap.size (fun k_ => P0_ k_ ∨ w.heap.size ≤ k_) (.slice A0 l0.length c0) ys) ∧ Aside0 (Below w0.heap.size w0 w') ∧ Aside0 (Kept w w' (fun k_ => P0_ k_)))
  case atStart => exact ⟨l0, a1, 0, rfl, rfl, H', ⟨Nat.le_refl _⟩, ⟨rfl⟩, ⟨⟨Int.le_refl _, fun _ _ => rfl⟩⟩, ⟨Kd.S_mono HO.out (fun k_ hk => .inl hk)⟩, HB, ⟨Kept.refl w _⟩⟩
  case round =>
    clear H' HO HB
    obtain ⟨ys, x1, x2, rfl, rfl, HA, HK1, HL, HX, HO, HB, HK⟩ := hrel
    cases gk with
    | zero => exact absurd HA.out (by simp [laws_markByteSS.l0])
    | succ k1 =>
      have H := HA.out
      clear HA
      simp only [laws_markByteSS.l0] at H
      by_cases c3 : x2 < (l0.length : Int)
      · have p0 : 0 ≤ x2 := HX.out.1
        rw [if_pos c3, if_pos p0] at H
        obtain ⟨⟨t1, t2⟩, ht, H⟩ := Option.bind_eq_some_iff.mp H
        obtain ⟨g, rfl⟩ : ∃ g, A0 = some ⟨g, 0, none⟩ := by
          obtain ⟨g, cap, e, _⟩ := Kd.S_form HO.out (by rw [HL.out]; omega)
          injection e with e1 e2 e3
          exact ⟨g, e1⟩
        obtain ⟨oki, cs, hcl, hM, hcc, hoki, hH⟩ := Kd.S_lend HO.out [] x2 p0 c3
        obtain ⟨v, rfl, hR⟩ := hM
        have hcell : wr.cell? ⟨g, x2.toNat, none⟩ = some v := by
          have := hcc 0 v rfl
          rwa [show (Kd.slice 5 (Kd.int .u8)).sz = 1 from rfl, Nat.mul_one, Nat.add_zero] at this
        have hrow : ys.getD x2.toNat [] = rd_L1 l0 x2 := HX.out.2 _ (Nat.le_refl _)
        rw [hrow] at hR
        obtain ⟨Av, cv, ev⟩ := Kd.R_slice hR
        subst ev
        have HC := Aside0.mk (laws_markByteS.calls k1 oki _ _ x1 t1 t2 w0 wr HB.out hR ht)
        have HH := Aside0.mk hH
        have HI := Aside0.mk hoki
        have HJ := Aside0.mk H
        clear H hR hH hoki hcc hcl hrow ht
        have c3b : decide (x2 < (l0.length : Int)) = true := decide_eq_true c3
        have p1 := eq_true p0
        have q1 := eq_true c3
        have P0 := Aside0.mk p0
        have Q0 := Aside0.mk c3
        clear p0 c3
        go_wp2_with fail
        refine HC.out.mono ?_
        rintro e w' ⟨rfl, hr2, hb', hk'⟩
        have HR2 := Aside0.mk hr2
        have HB2 := Aside0.mk hb'
        have HK2 := Aside0.mk hk'
        clear hr2 hb' hk'
        go_wp2
        have hlt : l0.length ≤ 9223372036854775807 := by have := (Kd.S_reads' HO.out).2.2.2.1; have := HL.out; omega
        have hw : wrap64 (x2 + 1) = x2 + 1 := by have := P0.out; have := Q0.out; unfold wrap64; omega
        go_roundg k1
        case measure => have := HK1.out; omega
        case rel =>
          refine ⟨ys.set x2.toNat t2, t1, wrap64 (x2 + 1), by first | rfl | (simp; done) | (simp [*]; done), by first | rfl | (simp; done) | (simp [*]; done), HJ, ⟨by have := HK1.out; omega⟩, ⟨by rw [List.length_set]; exact HL.out⟩, ⟨by rw [hw]; refine ⟨by have := P0.out; omega, fun j hj => ?_⟩; have := P0.out; rw [List.getD_eq_getElem?_getD, List.getElem?_set_ne (by omega), ← List.getD_eq_getElem?_getD]; exact HX.out.2 j (by omega)⟩, ⟨?_⟩, HB2, ⟨?_⟩⟩
          · refine Kd.H_back (Kd.H_kept (Kd.H_widen HH.out) HK2.out (fun k_ _ hn hs => hn (.inl hs))) (okp := fun k_ => oki k_ ∨ wr.heap.size ≤ k_) ⟨_, rfl, HR2.out⟩ (fun k_ hk => hk.elim .inl (fun h2 => .inr ⟨.inr (Nat.le_trans HK.out.1 h2), h2⟩))
          · exact HK.out.then_ HK2.out (fun k_ hk => (HI.out k_ hk).1)
      · rw [if_neg c3] at H
        obtain rfl := Option.some.inj H
        have c3b : decide (x2 < (l0.length : Int)) = false := decide_eq_false c3
        clear c3 H
        go_wp2
        go_ret
        exact ⟨rfl, HB.out, HK.out⟩

/-! ### laws_markMemory: function 15 (by hand) -/
def laws_markMemory.f (k : Nat) (l0_0 : List (List Int)) (a1 : Int) : Option Int := laws_markByteSS.f k l0_0 a1
theorem laws_markMemory.mono : ∀ a0 a1 k, LeO (laws_markMemory.f k a0 a1) (laws_markMemory.f (k + 1) a0 a1) := laws_markByteSS.mono
set_option maxHeartbeats 8000000 in
set_option maxRecDepth 100000 in
theorem laws_markMemory.calls (k : Nat) (P0_0_ : Nat → Prop) (u9000_ : Value) (l0_0 : List (List Int)) (a1 : Int) (r1 : Int) (w0 w : World) (hB : Below w0.heap.size w0 w) (ho0_0 : Kd.S (Kd.slice 5 (Kd.int .u8)) 43 w w0.heap.size P0_0_ u9000_ l0_0) (h : laws_markMemory.f k l0_0 a1 = some r1) :
    Calls Try.prog 15 #[.agg #[u9000_], .int .i64 a1] w fun e w' => e = .returned (.int .i64 r1) ∧ Below w0.heap.size w0 w' ∧ Kept w w' (fun k_ => P0_0_ k_) := by
  have hu32 := Try.underlying32
  obtain ⟨A0, c0, ev⟩ := Kd.S_slice ho0_0
  subst ev
  have HC := Aside0.mk (fun W1 (hb : Below w.heap.size w W1) => laws_markByteSS.calls k P0_0_ _ l0_0 a1 r1 w0 W1 (hB.trans (hb.mono hB.size)) (Kd.S_below ho0_0 hb) h)
  clear h ho0_0
  have HB := Aside0.mk hB
  clear hB
  go_enter Try.func15, Try.ntmps15
  go_wp2_with (go_at_call 44; refine (HC.out _ ((Below.refl _ w).alloc (Nat.le_refl _) _)).mono ?_; rintro e w' ⟨rfl, hb', hk'⟩)
  go_ret
  exact ⟨rfl, hb', (Kept.alloc (Kept.refl w _) _).then_ hk' (fun k_ hk => .inl hk)⟩

/-! ### laws_markEntryS: function 16 (by hand) -/
/-- The marks of one entry. -/
def laws_markEntryS.key (k : Int) : List Int := (List.range 16).map fun t : Nat => IntKind.u8.wrap (k + (t : Int))
def laws_markEntryS.en (k : Int) : Ky.En := ⟨laws_markEntryS.key k, k + 16, k + 17, k + 18, k + 19⟩
def laws_markEntryS.l : List Ky.En → Int → List Ky.En
  | [], _ => []
  | _ :: xs, k => laws_markEntryS.en k :: laws_markEntryS.l xs (k + 20)
def laws_markEntryS.f (l0 : List Ky.En) (a1 : Int) : Option (Int × List Ky.En) := if l0.length ≤ 1048576 ∧ 0 ≤ a1 ∧ a1 ≤ 1099511627776000 then some (a1 + 20 * (l0.length : Int), laws_markEntryS.l l0 a1) else none
theorem laws_markEntryS.l_length : ∀ (xs : List Ky.En) (k : Int), (laws_markEntryS.l xs k).length = xs.length
  | [], _ => rfl
  | _ :: xs, k => by unfold laws_markEntryS.l; simp [laws_markEntryS.l_length xs]
theorem laws_markEntryS.l_snoc : ∀ (xs : List Ky.En) (y : Ky.En) (k : Int), laws_markEntryS.l (xs ++ [y]) k = laws_markEntryS.l xs k ++ [laws_markEntryS.en (k + 20 * (xs.length : Int))]
  | [], _, k => by simp [laws_markEntryS.l]
  | x :: xs, y, k => by
    rw [List.cons_append, laws_markEntryS.l, laws_markEntryS.l, laws_markEntryS.l_snoc xs y (k + 20), List.cons_append, List.length_cons]
    congr 4
    omega
theorem laws_markEntryS.key_of {l : List Int} {k : Int} (h : l.length = 16) (h2 : ∀ t : Nat, t < 16 → l[t]? = some (IntKind.u8.wrap (k + (t : Int)))) : l = laws_markEntryS.key k := by
  apply List.ext_getElem?
  intro t
  by_cases ht : t < 16
  · rw [h2 t ht, laws_markEntryS.key, List.getElem?_map, List.getElem?_range ht]
    rfl
  · rw [List.getElem?_eq_none (by omega), List.getElem?_eq_none (by simp [laws_markEntryS.key]; omega)]
set_option maxHeartbeats 4000000 in
set_option maxRecDepth 100000 in
theorem laws_markEntryS.calls (P0_ : Nat → Prop) (u9000_ : Value) (l0 : List Ky.En) (a1 : Int) (r1 : Int) (r2 : List Ky.En) (w0 w : World) (hB : Below w0.heap.size w0 w) (ho0 : Kd.R Ky.ke 66 w w0.heap.size P0_ u9000_ l0) (h : laws_markEntryS.f l0 a1 = some (r1, r2)) :
    Calls Try.prog 16 #[u9000_, .int .i64 a1] w fun e w' => e = .returned (.int .i64 r1) ∧ Kd.R Ky.ke 66 w' w0.heap.size (fun k_ => (P0_ k_ ∨ w.heap.size ≤ k_)) u9000_ r2 ∧ Below w0.heap.size w0 w' ∧ Kept w w' (fun k_ => P0_ k_) := by
  obtain ⟨⟨hle, ha0, ha1⟩, h⟩ := Ky.of_cond h
  obtain ⟨rfl, rfl⟩ := Prod.mk.inj h
  clear h
  obtain ⟨A, c, hv⟩ := Kd.R_slice ho0
  subst hv
  obtain ⟨n, hn⟩ : ∃ n, n = l0.length := ⟨_, rfl⟩
  have HO := Lib.hid ho0
  rw [← hn] at hle ⊢
  rw [← hn] at HO
  have HN := Lib.hid hn
  have HM := Lib.hid hle
  have HAA := Lib.hid (And.intro ha0 ha1)
  have HB := Lib.hid hB
  have HK0 := Lib.hid (Kept.refl w P0_)
  clear hn ho0 hle hB ha0 ha1
  go_enter Try.func16, Try.ntmps16
  go_wp2
  go_loopg [1, 5, 6] n (fun gg s1 s5 _ wr => ∃ (i : Nat), s5 = .int .i64 i ∧ s1 = .int .i64 (a1 + 20 * (i : Int)) ∧ Hid (i ≤ n ∧ n - i ≤ gg) ∧ Hid (Kd.R Ky.ke 66 wr w0.heap.size P0_ (.slice A n c) (laws_markEntryS.l (l0.take i) a1 ++ l0.drop i)) ∧ Hid (Below w0.heap.size w0 wr) ∧ Hid (Kept w wr P0_))
  case atStart => exact ⟨0, rfl, by simp, Lib.hid (by omega), HO, HB, HK0⟩
  case round =>
    clear HO HB HK0
    obtain ⟨i, rfl, rfl, HK, HO, HB, HKP⟩ := hrel
    by_cases hlt : i < n
    · obtain ⟨x, hx⟩ : ∃ x, l0[i]? = some x := ⟨_, List.getElem?_eq_getElem (by have := HN.out; omega)⟩
      obtain ⟨hxl, hxe⟩ := List.getElem?_eq_some_iff.1 hx
      have hll : (laws_markEntryS.l (l0.take i) a1).length = i := by rw [laws_markEntryS.l_length, List.length_take]; omega
      obtain ⟨M, hM⟩ : ∃ M, M = laws_markEntryS.l (l0.take i) a1 := ⟨_, rfl⟩
      rw [← hM] at hll
      have ho := HO.out
      rw [← hM, List.drop_eq_getElem_cons hxl, hxe] at ho
      obtain ⟨g, cap, hv, hbg, _⟩ := Kd.R_form ho (by rw [List.length_append, List.length_cons]; omega)
      obtain ⟨T, hT⟩ : ∃ T, T = l0.drop (i + 1) := ⟨_, rfl⟩
      rw [← hT] at ho
      have hlen : (M ++ x :: T).length = n := by rw [List.length_append, List.length_cons, hll, hT, List.length_drop]; have := HN.out; omega
      have hgx : (M ++ x :: T)[i]? = some x := by rw [List.getElem?_append_right (by omega), hll, Nat.sub_self]; rfl
      injection hv with hv1 hv2 hv3
      subst hv1
      have hPg : P0_ g := ho.1 g rfl
      have HPG := Lib.hid hPg
      have HBG := Lib.hid hbg
      have HLL := Lib.hid hll
      have HMM := Lib.hid hM
      have HTT := Lib.hid hT
      have HXX := Lib.hid hx
      have HO2 := Lib.hid ho
      have HXK := Lib.hid (Ky.R_key ho (by omega) hgx)
      obtain ⟨k, hk⟩ : ∃ k, k = a1 + 20 * (i : Int) := ⟨_, rfl⟩
      have HKK := Lib.hid (show 0 ≤ k ∧ k ≤ 1099511700000000 by have := HAA.out; have := HM.out; omega)
      rw [← hk]
      have HKE := Lib.hid hk
      clear ho hbg hll hM hT hx hPg hlen hgx hv2 hv3 hxl hxe HO hk
      have k0 : (0 : Int) ≤ (i : Int) := by omega
      have k1 : (i : Int) < (n : Int) := by omega
      have k3 : ((n : Int)).toNat ≤ 1048576 := by have := HM.out; omega
      have m0 : ∀ (y y' : Ky.En) (q : Nat) (v : Value) (Wq : World), Kd.R Ky.ke 66 Wq w0.heap.size P0_ (.slice (some ⟨g, 0, none⟩) n c) (M ++ y :: T) → q < 20 → (Ky.ec y).toList.set q v = (Ky.ec y').toList → Ky.Key y'.key → (∃ u, Wq.cell? ⟨g, i * 20 + q, none⟩ = some u) ∧ Wq.frozen? ⟨g, i * 20 + q, none⟩ = false ∧ Kd.R Ky.ke 66 (Wq.setCell ⟨g, i * 20 + q, none⟩ v) w0.heap.size P0_ (.slice (some ⟨g, 0, none⟩) n c) (M ++ y' :: T) := fun y y' q v Wq hR hq hc hk => by
        have := Ky.mark1 hR hlt (Ky.mid_get HLL.out) hq hc hk
        rw [Ky.mid_set HLL.out] at this
        exact this
      have MM0 := Lib.hid m0
      clear m0
      go_upto_region 4 with (fail)
      go_wp2
      go_loopg [1, 6] 16 (fun gg s1 s6 wr => ∃ (j : Nat) (l : List Int), s6 = .int .i64 j ∧ s1 = .int .i64 (k + (j : Int)) ∧ Hid (j ≤ 16 ∧ 16 - j ≤ gg) ∧ Hid (Kd.R Ky.ke 66 wr w0.heap.size P0_ (.slice (some ⟨g, 0, none⟩) n c) (M ++ ⟨l, x.a, x.s, x.l, x.c⟩ :: T)) ∧ Hid (l.length = 16 ∧ ∀ t : Nat, t < j → l[t]? = some (IntKind.u8.wrap (k + (t : Int)))) ∧ Hid (Below w0.heap.size w0 wr) ∧ Hid (Kept w wr P0_))
      case atStart => exact ⟨0, x.key, rfl, by simp, Lib.hid (by omega), HO2, Lib.hid ⟨HXK.out, fun t ht => absurd ht (by omega)⟩, HB, HKP⟩
      case round =>
        clear HO2 HB HKP
        obtain ⟨j, l, rfl, rfl, HJ, HO2, HL, HB, HKP⟩ := hrel
        by_cases hj : j < 16
        · obtain ⟨⟨u, hcu⟩, hfu, hnew⟩ := MM0.out _ ⟨l.set j (IntKind.u8.wrap (k + (j : Int))), x.a, x.s, x.l, x.c⟩ j (.int .u8 (IntKind.u8.wrap (k + (j : Int)))) _ HO2.out (by omega) (Ky.ec_setKey (x := ⟨l, x.a, x.s, x.l, x.c⟩) HL.out.1 j hj _) (by unfold Ky.Key; rw [List.length_set]; exact HL.out.1)
          have HNW := Lib.hid hnew
          clear hnew
          have j0 : (0 : Int) ≤ (j : Int) := by omega
          have j1 : (j : Int) < 16 := by omega
          have e1 : IntKind.i64.wrap (k + (j : Int) + 1) = k + (j : Int) + 1 := by rw [IntKind.wrap_i64]; have := HKK.out; omega
          go_wp2
          go_roundg (16 - (j + 1))
          case measure => have := HJ.out; omega
          case rel => exact ⟨j + 1, l.set j (IntKind.u8.wrap (k + (j : Int))), by go_num, by rw [show k + ((j + 1 : Nat) : Int) = k + (j : Int) + 1 from by omega], Lib.hid (by have := HJ.out; omega), HNW, Lib.hid (Ky.key_step HL.out hj), Lib.hid (below_set HB.out HBG.out), Lib.hid (Kept.setCell HKP.out (.inl HPG.out) _)⟩
        · obtain rfl : j = 16 := by have := HJ.out; omega
          have hl : l = laws_markEntryS.key k := laws_markEntryS.key_of HL.out.1 (fun t ht => HL.out.2 t ht)
          have HLK := Lib.hid hl
          have hwin : ∀ (q : Nat) (v : Int) (a s l2 c2 a' s' l' c' : Int), ([.int .i64 a, .int .i64 s, .int .i64 l2, .int .i64 c2] : List Value).set q (.int .i64 v) = [.int .i64 a', .int .i64 s', .int .i64 l', .int .i64 c'] → (Ky.ec ⟨l, a, s, l2, c2⟩).toList.set (16 + q) (.int .i64 v) = (Ky.ec ⟨l, a', s', l', c'⟩).toList := fun q v a s l2 c2 a' s' l' c' h => by
            rw [Ky.ec_setWin (x := ⟨l, a, s, l2, c2⟩) HL.out.1 q _ _ h, Ky.ec_list]
          obtain ⟨⟨u1, d1⟩, f1, R1⟩ := MM0.out _ ⟨l, k + 16, x.s, x.l, x.c⟩ 16 (.int .i64 (k + 16)) _ HO2.out (by decide) (hwin 0 _ _ _ _ _ _ _ _ _ rfl) HL.out.1
          obtain ⟨⟨u2, d2⟩, f2, R2⟩ := MM0.out _ ⟨l, k + 16, k + 17, x.l, x.c⟩ 17 (.int .i64 (k + 17)) _ R1 (by decide) (hwin 1 _ _ _ _ _ _ _ _ _ rfl) HL.out.1
          obtain ⟨⟨u3, d3⟩, f3, R3⟩ := MM0.out _ ⟨l, k + 16, k + 17, k + 18, x.c⟩ 18 (.int .i64 (k + 18)) _ R2 (by decide) (hwin 2 _ _ _ _ _ _ _ _ _ rfl) HL.out.1
          obtain ⟨⟨u4, d4⟩, f4, R4⟩ := MM0.out _ ⟨l, k + 16, k + 17, k + 18, k + 19⟩ 19 (.int .i64 (k + 19)) _ R3 (by decide) (hwin 3 _ _ _ _ _ _ _ _ _ rfl) HL.out.1
          have HR4 := Lib.hid R4
          clear R1 R2 R3 R4 hwin hl
          have e16 : k + ((16 : Nat) : Int) = k + 16 := rfl
          have e1 : IntKind.i64.wrap (k + 16 + 1) = k + 17 := by rw [IntKind.wrap_i64]; have := HKK.out; omega
          have e2 : IntKind.i64.wrap (k + 17 + 1) = k + 18 := by rw [IntKind.wrap_i64]; have := HKK.out; omega
          have e3 : IntKind.i64.wrap (k + 18 + 1) = k + 19 := by rw [IntKind.wrap_i64]; have := HKK.out; omega
          have e4 : IntKind.i64.wrap (k + 19 + 1) = k + 20 := by rw [IntKind.wrap_i64]; have := HKK.out; omega
          rw [e16]
          clear HJ
          have HROW : Hid (M ++ ⟨l, k + 16, k + 17, k + 18, k + 19⟩ :: T = laws_markEntryS.l (l0.take (i + 1)) a1 ++ l0.drop (i + 1)) := Lib.hid (by
            have hin := HN.out
            rw [List.take_add_one, HXX.out, Option.toList_some, laws_markEntryS.l_snoc, ← HMM.out, List.length_take, Nat.min_eq_left (by omega), ← HKE.out, ← HTT.out, List.append_assoc, laws_markEntryS.en, ← HLK.out]
            rfl)
          go_wp2
          go_roundg (n - (i + 1))
          case measure => have := HK.out; omega
          case rel => exact ⟨i + 1, by go_num, by rw [show a1 + 20 * ((i + 1 : Nat) : Int) = k + 20 from by have := HKE.out; omega], Lib.hid (by have := HK.out; omega), Lib.hid (by rw [← HROW.out]; exact HR4.out), Lib.hid (below_set (below_set (below_set (below_set HB.out HBG.out) HBG.out) HBG.out) HBG.out), Lib.hid (Kept.setCell (Kept.setCell (Kept.setCell (Kept.setCell HKP.out (.inl HPG.out) _) (.inl HPG.out) _) (.inl HPG.out) _) (.inl HPG.out) _)⟩
    · obtain rfl : i = n := by have := HK.out; omega
      have c9 : decide ((i : Int) < (i : Int)) = false := decide_eq_false (by omega)
      go_wp2
      go_ret
      refine ⟨rfl, ?_, HB.out, HKP.out⟩
      have h := HO.out
      rw [HN.out, List.take_length, List.drop_length, List.append_nil] at h
      rw [HN.out]
      exact Kd.R_mono h (fun _ hk => .inl hk)

/-! ### laws_heldEntryS: function 17 (by hand) -/
def laws_heldEntryS.key (k : Int) : List Int := (List.range 16).map fun t : Nat => IntKind.u8.wrap (k + (t : Int))
def laws_heldEntryS.go : List Ky.En → Int → Int
  | [], k => k
  | x :: xs, k => if x.key = laws_heldEntryS.key k ∧ x.a = k + 16 ∧ x.s = k + 17 ∧ x.l = k + 18 ∧ x.c = k + 19 then laws_heldEntryS.go xs (k + 20) else -1
def laws_heldEntryS.f (l0 : List Ky.En) (a1 : Int) : Option Int := if l0.length ≤ 1048576 ∧ 0 ≤ a1 ∧ a1 ≤ 1073741824 then some (laws_heldEntryS.go l0 a1) else none
theorem laws_heldEntryS.key_get (k : Int) {t : Nat} (ht : t < 16) : (laws_heldEntryS.key k)[t]? = some (IntKind.u8.wrap (k + (t : Int))) := by
  rw [laws_heldEntryS.key, List.getElem?_map, List.getElem?_range ht]
  rfl
theorem laws_heldEntryS.key_of {l : List Int} {k : Int} (h : l.length = 16) (h2 : ∀ t : Nat, t < 16 → l[t]? = some (IntKind.u8.wrap (k + (t : Int)))) : l = laws_heldEntryS.key k := by
  apply List.ext_getElem?
  intro t
  by_cases ht : t < 16
  · rw [h2 t ht, laws_heldEntryS.key_get k ht]
  · rw [List.getElem?_eq_none (by omega), List.getElem?_eq_none (by simp [laws_heldEntryS.key]; omega)]
set_option maxHeartbeats 4000000 in
set_option maxRecDepth 100000 in
theorem laws_heldEntryS.calls (A0 : Option Addr) (c0 : Nat) (l0 : List Ky.En) (a1 : Int) (r : Int) (w : World) (hr0 : Kd.C Ky.ke w A0 l0.length l0) (hc0 : l0.length ≤ c0) (h : laws_heldEntryS.f l0 a1 = some r) :
    Calls Try.prog 17 #[.slice A0 l0.length c0, .int .i64 a1] w fun e w' => e = .returned (.int .i64 r) ∧ Below w.heap.size w w' := by
  have HR0 := Lib.hid hr0
  clear hr0 hc0
  obtain ⟨⟨hle, ha0, ha1⟩, h⟩ := Ky.of_cond h
  obtain ⟨n, hn⟩ : ∃ n, n = l0.length := ⟨_, rfl⟩
  rw [← hn] at hle ⊢
  have HN := Lib.hid hn
  have HM := Lib.hid hle
  have HH := Lib.hid h
  have HAA := Lib.hid (And.intro ha0 ha1)
  have HB := Lib.hid (Below.refl w.heap.size w)
  clear hn h hle ha0 ha1
  go_enter Try.func17, Try.ntmps17
  go_wp2
  go_loopg [1, 5, 6] n (fun gg s1 s5 _ wr => ∃ (i : Nat), s5 = .int .i64 i ∧ s1 = .int .i64 (a1 + 20 * (i : Int)) ∧ Hid (i ≤ n ∧ n - i ≤ gg) ∧ Hid (laws_heldEntryS.go (l0.drop i) (a1 + 20 * (i : Int)) = r) ∧ Hid (Below w.heap.size w wr))
  case atStart => exact ⟨0, rfl, by simp, Lib.hid (by omega), Lib.hid (by have := HH.out; simpa using this), HB⟩
  case round =>
    clear HH HB
    obtain ⟨i, rfl, rfl, HK, HG, HB⟩ := hrel
    by_cases hlt : i < n
    · obtain ⟨b, o, hA, hrow⟩ := Ky.row_entry HR0.out (by have := HN.out; omega)
      obtain ⟨x, hx⟩ : ∃ x, l0[i]? = some x := ⟨_, List.getElem?_eq_getElem (by have := HN.out; omega)⟩
      have HKx := Lib.hid (hrow i x hx).1
      have HCx := Lib.hid (hrow i x hx).2
      have hg := HG.out
      obtain ⟨hxl, hxe⟩ := List.getElem?_eq_some_iff.1 hx
      rw [List.drop_eq_getElem_cons hxl, hxe, laws_heldEntryS.go] at hg
      obtain ⟨k, hk⟩ : ∃ k, k = a1 + 20 * (i : Int) := ⟨_, rfl⟩
      have HKK := Lib.hid (show 0 ≤ k ∧ k ≤ 1100000000 by have := HAA.out; have := HM.out; omega)
      rw [← hk] at hg ⊢
      have HKE := Lib.hid hk
      have HGG := Lib.hid hg
      clear hx hxl hxe HG hrow hg hk
      subst hA
      have k0 : (0 : Int) ≤ (i : Int) := by omega
      have k1 : (i : Int) < (n : Int) := by omega
      have k3 : ((n : Int)).toNat ≤ 1048576 := by have := HM.out; omega
      go_upto_region 4 with (fail)
      go_wp2
      go_loopg [1, 6] 16 (fun gg s1 s6 wr => ∃ (j : Nat), s6 = .int .i64 j ∧ s1 = .int .i64 (k + (j : Int)) ∧ Hid (j ≤ 16 ∧ 16 - j ≤ gg) ∧ Hid (∀ t : Nat, t < j → x.key[t]? = some (IntKind.u8.wrap (k + (t : Int)))) ∧ Hid (Below w.heap.size w wr))
      case atStart => exact ⟨0, rfl, by simp, Lib.hid (by omega), Lib.hid (fun t ht => absurd ht (by omega)), HB⟩
      case round =>
        clear HB
        obtain ⟨j, rfl, rfl, HJ, HL, HB⟩ := hrel
        by_cases hj : j < 16
        · obtain ⟨v, hv⟩ : ∃ v, x.key[j]? = some v := ⟨_, List.getElem?_eq_getElem (by have h_ : x.key.length = 16 := HKx.out; omega)⟩
          have hcv := pw_cell_below HB.out (HCx.out j (.int .u8 v) (by rw [Ky.ec_list, List.getElem?_append_left (by rw [List.length_map]; have h_ : x.key.length = 16 := HKx.out; omega), List.getElem?_map, hv]; rfl))
          have HV := Lib.hid hv
          clear hv
          have j0 : (0 : Int) ≤ (j : Int) := by omega
          have j1 : (j : Int) < 16 := by omega
          have e1 : IntKind.i64.wrap (k + (j : Int) + 1) = k + (j : Int) + 1 := by rw [IntKind.wrap_i64]; have := HKK.out; omega
          by_cases hq : v = IntKind.u8.wrap (k + (j : Int))
          · subst hq
            go_wp2
            go_roundg (16 - (j + 1))
            case measure => have := HJ.out; omega
            case rel => exact ⟨j + 1, by go_num, by rw [show k + ((j + 1 : Nat) : Int) = k + (j : Int) + 1 from by omega], Lib.hid (by have := HJ.out; omega), Lib.hid (fun t ht => by
                by_cases e : t = j
                · subst e; exact HV.out
                · exact HL.out t (by omega)), HB⟩
          · have hne : (v != (k + (j : Int)) % 256) = true := by rw [← IntKind.wrap_u8]; simpa using hq
            have hr := HGG.out
            rw [if_neg (fun hh => hq (by have h2 := HV.out; rw [hh.1, laws_heldEntryS.key_get k hj] at h2; exact (Option.some.inj h2).symm))] at hr
            have HRR := Lib.hid hr
            clear hr
            go_wp2
            go_ret
            exact ⟨by rw [← HRR.out]; rfl, HB.out⟩
        · obtain rfl : j = 16 := by have := HJ.out; omega
          have HKY : Hid (x.key = laws_heldEntryS.key k) := Lib.hid (laws_heldEntryS.key_of HKx.out HL.out)
          have cell : ∀ q v, (Ky.wc x)[q]? = some v → wr.cell? ⟨b, o + i * 20 + 16 + q, none⟩ = some v := fun q v hq => pw_cell_below HB.out (Ky.range_win HKx.out HCx.out q v (by rw [Array.getElem?_toList]; exact hq))
          have d0 := cell 0 (.int .i64 x.a) rfl
          have d1 := cell 1 (.int .i64 x.s) rfl
          have d2 := cell 2 (.int .i64 x.l) rfl
          have d3 := cell 3 (.int .i64 x.c) rfl
          rw [Nat.add_zero] at d0
          clear cell HL HJ
          have hgg := HGG.out
          generalize x.a = xa at d0 hgg
          generalize x.s = xs_ at d1 hgg
          generalize x.l = xl at d2 hgg
          generalize x.c = xc at d3 hgg
          have HG2 := Lib.hid hgg
          clear hgg HGG
          have e16 : k + ((16 : Nat) : Int) = k + 16 := rfl
          have e1 : IntKind.i64.wrap (k + 16 + 1) = k + 17 := by rw [IntKind.wrap_i64]; have := HKK.out; omega
          have e2 : IntKind.i64.wrap (k + 17 + 1) = k + 18 := by rw [IntKind.wrap_i64]; have := HKK.out; omega
          have e3 : IntKind.i64.wrap (k + 18 + 1) = k + 19 := by rw [IntKind.wrap_i64]; have := HKK.out; omega
          have e4 : IntKind.i64.wrap (k + 19 + 1) = k + 20 := by rw [IntKind.wrap_i64]; have := HKK.out; omega
          rw [e16]
          by_cases q0 : xa = k + 16
          case neg =>
            have hne : (xa == k + 16) = false := by simpa using q0
            have hr := HG2.out
            rw [if_neg (fun hh => q0 hh.2.1)] at hr
            have HRR := Lib.hid hr
            clear hr
            go_wp2
            go_ret
            exact ⟨by rw [← HRR.out]; rfl, HB.out⟩
          subst q0
          by_cases q1 : xs_ = k + 17
          case neg =>
            have hne : (xs_ == k + 17) = false := by simpa using q1
            have hr := HG2.out
            rw [if_neg (fun hh => q1 hh.2.2.1)] at hr
            have HRR := Lib.hid hr
            clear hr
            go_wp2
            go_ret
            exact ⟨by rw [← HRR.out]; rfl, HB.out⟩
          subst q1
          by_cases q2 : xl = k + 18
          case neg =>
            have hne : (xl == k + 18) = false := by simpa using q2
            have hr := HG2.out
            rw [if_neg (fun hh => q2 hh.2.2.2.1)] at hr
            have HRR := Lib.hid hr
            clear hr
            go_wp2
            go_ret
            exact ⟨by rw [← HRR.out]; rfl, HB.out⟩
          subst q2
          by_cases q3 : xc = k + 19
          case neg =>
            have hne : (xc == k + 19) = false := by simpa using q3
            have hr := HG2.out
            rw [if_neg (fun hh => q3 hh.2.2.2.2)] at hr
            have HRR := Lib.hid hr
            clear hr
            go_wp2
            go_ret
            exact ⟨by rw [← HRR.out]; rfl, HB.out⟩
          subst q3
          have hr := HG2.out
          rw [if_pos ⟨HKY.out, rfl, rfl, rfl, rfl⟩] at hr
          have HRR := Lib.hid hr
          clear hr HG2
          go_wp2
          go_roundg (n - (i + 1))
          case measure => have := HK.out; omega
          case rel => exact ⟨i + 1, by go_num, by rw [show a1 + 20 * ((i + 1 : Nat) : Int) = k + 20 from by have := HKE.out; omega], Lib.hid (by have := HK.out; omega), Lib.hid (by rw [show a1 + 20 * ((i + 1 : Nat) : Int) = k + 20 from by have := HKE.out; omega]; exact HRR.out), HB⟩
    · obtain rfl : i = n := by have := HK.out; omega
      have hr := HG.out
      rw [List.drop_eq_nil_of_le (by have := HN.out; omega), laws_heldEntryS.go] at hr
      subst hr
      go_wp2
      go_ret
      exact ⟨rfl, HB.out⟩

/-! ### laws_FnExactEntriesBetween: function 3 (by hand) -/
def laws_FnExactEntriesBetween.f (k : Nat) (l0_0 : List (List Int)) (l1 : (List Ky.En)) (a2 : List Int) (a3 : List Int) : Option Bool := (laws_szMemory.f k l0_0 1048576).bind fun x1 => if x1 < 0 then some true else (laws_szEntryS.f l1 x1).bind fun x3 => if x3 < 0 then some true else (laws_toMemory.f k l0_0).bind fun x5 => (laws_toEntryS.f l1).bind fun x8 => (laws_toByteA16.f a2).bind fun x11 => (laws_toByteA16.f a3).bind fun x13 => (spec_EntriesBetween.f k x5 x8 x11 x13).bind fun y_x15 => (impl_EntriesBetween.f k x5 x8 x11 x13).bind fun y_x22 => (laws_eqEntryS.f (y_x22.1) (y_x15.1)).bind fun x26 => (laws_eqMemory.f k x5 x5).bind fun x29 => (laws_eqEntryS.f x8 x8).bind fun x32 => (laws_markMemory.f k x5 1).bind fun x34 => (laws_markEntryS.f x8 x34).bind fun y_x36 => (laws_markEntryS.f (y_x22.1) 1).bind fun y_x39 => (laws_heldEntryS.f (y_x39.2) 1).bind fun x42 => if x26 = true ∧ x29 = true ∧ x32 = true ∧ y_x22.2 = y_x15.2 ∧ ¬ y_x36.1 < 0 ∧ ¬ x42 < 0 ∧ x42 = y_x39.1 then some true else none
theorem laws_FnExactEntriesBetween.mono : ∀ l0_0 l1 a2 a3 k, LeO (laws_FnExactEntriesBetween.f k l0_0 l1 a2 a3) (laws_FnExactEntriesBetween.f (k + 1) l0_0 l1 a2 a3) := by
  intro l0_0 l1 a2 a3 k
  unfold laws_FnExactEntriesBetween.f
  exact LeO.bind (by apply laws_szMemory.mono) (fun _ => LeO.ite (LeO.refl _) (LeO.bind (LeO.refl _) (fun _ => LeO.ite (LeO.refl _) (LeO.bind (by apply laws_toMemory.mono) (fun _ => LeO.bind (LeO.refl _) (fun _ => LeO.bind (LeO.refl _) (fun _ => LeO.bind (LeO.refl _) (fun _ => LeO.bind (by apply spec_EntriesBetween.mono) (fun _ => LeO.bind (by apply impl_EntriesBetween.mono) (fun _ => LeO.bind (LeO.refl _) (fun _ => LeO.bind (by apply laws_eqMemory.mono) (fun _ => LeO.bind (LeO.refl _) (fun _ => LeO.bind (by apply laws_markMemory.mono) (fun _ => LeO.bind (LeO.refl _) (fun _ => LeO.bind (LeO.refl _) (fun _ => LeO.bind (LeO.refl _) (fun _ => LeO.refl _)))))))))))))))))
set_option maxHeartbeats 4000000 in
set_option maxRecDepth 100000 in
theorem laws_FnExactEntriesBetween.calls (k : Nat) (A0_0 : Option Addr) (c0_0 : Nat) (l0_0 : List (List Int)) (A1 : Option Addr) (c1 : Nat) (l1 : (List Ky.En)) (a2 : List Int) (a3 : List Int) (r : Bool) (w : World) (hr0_0 : Kd.C (Kd.slice 5 (Kd.int .u8)) w A0_0 l0_0.length l0_0) (hc0_0 : l0_0.length ≤ c0_0) (hr1 : Kd.C Ky.ke w A1 l1.length l1) (hc1 : l1.length ≤ c1) (hk2 : Ky.Key a2) (hk3 : Ky.Key a3) (h : laws_FnExactEntriesBetween.f k l0_0 l1 a2 a3 = some r) :
    Calls Try.prog 3 #[.agg #[.slice A0_0 l0_0.length c0_0], .slice A1 l1.length c1, .agg (Ky.bs a2), .agg (Ky.bs a3)] w fun e w' => e = .returned (.bool r) ∧ Below w.heap.size w w' := by
  have HR0_0 := Lib.hid hr0_0
  have HC0_0 := Lib.hid hc0_0
  clear hr0_0 hc0_0
  have HR1 := Lib.hid hr1
  have HC1 := Lib.hid hc1
  clear hr1 hc1
  have HKa2 := Lib.hid hk2
  clear hk2
  have HKa3 := Lib.hid hk3
  clear hk3
  obtain ⟨W0, hW⟩ : ∃ W, W = (((w.alloc (.cells #[.slice A0_0 l0_0.length c0_0] 24)).alloc (.cells (Ky.bs a2) 26)).alloc (.cells (Ky.bs a3) 26)) := ⟨_, rfl⟩
  have HI : Hid (Lv.Inv w W0 [Lv.boxF (w.heap.size + 2) (Ky.bs a3) 26, Lv.boxF (w.heap.size + 1) (Ky.bs a2) 26, Lv.boxF (w.heap.size) #[.slice A0_0 l0_0.length c0_0] 24]) := by
    subst hW
    have := ((((Lv.Inv.refl w).box #[.slice A0_0 l0_0.length c0_0] 24).box (Ky.bs a2) 26).box (Ky.bs a3) 26)
    exact Lib.hid (by simpa using this)
  unfold laws_FnExactEntriesBetween.f at h
  replace h := Option.bind_eq_some_iff.mp h
  obtain ⟨x1, A2, h⟩ := h
  try dsimp only at h
  have HA2 := Lib.hid A2
  clear A2
  have HH := Lib.hid h
  clear h
  go_enter Try.func3, Try.ntmps3
  go_upto_region 1 with (fail)
  rw [← hW]
  clear hW
  go_upto_region 2 with (fail)
  refine Fl.startL [.take 0, .take 1, .one 2, .take 3] (by decide) HI.out ?_
  refine Fl.take (some 21) (v := .agg #[.slice A0_0 l0_0.length c0_0]) rfl rfl (Fl.ld 2 rfl (by rfl) _ _ rfl rfl Try.underlying24 rfl (by kernel_rfl)) ?_
  simp only [Act.put, Fl.z1, Fl.z2, Fl.z3]
  refine Fl.take (some 22) (v := .int .i64 1048576) rfl rfl (Or.inl ⟨by rfl, fun _ _ => by rfl⟩) ?_
  simp only [Act.put, Fl.z1, Fl.z2, Fl.z3]
  refine Fl.call (some 23) Try.func6 (by kernel_rfl) rfl #[.agg #[.slice A0_0 l0_0.length c0_0], .int .i64 1048576] rfl rfl rfl (by rfl) rfl (fun E W hE hi => ?_)
  refine (laws_szMemory.calls k _ _ l0_0 1048576 x1 W (Kd.C_below HR0_0.out hi.bel) HC0_0.out HA2.out).mono ?_
  rintro e W' ⟨rfl, hb⟩
  refine Fl.keep hi hb ?_
  clear hi hb hE
  simp only [Act.put, Fl.z1, Fl.z2, Fl.z3]
  refine Fl.take (some 9) (v := .int .i64 x1) rfl rfl (Or.inl ⟨by rfl, fun _ _ => by rfl⟩) ?_
  simp only [Act.put, Fl.z1, Fl.z2, Fl.z3]
  refine Fl.stop (fun W hi => ?_)
  replace HI := Lib.hid hi
  clear hi
  try clear hn_
  have h := HH.out
  clear HH
  by_cases hn : x1 < 0
  · rw [if_pos hn] at h
    obtain rfl := Option.some.inj h
    clear h
    have hn_ := decide_eq_true hn
    go_wp2
    go_ret
    exact ⟨rfl, HI.out.bel⟩
  rw [if_neg hn] at h
  have hn_ := decide_eq_false hn
  clear hn
  replace h := Option.bind_eq_some_iff.mp h
  obtain ⟨x3, A4, h⟩ := h
  try dsimp only at h
  have HA4 := Lib.hid A4
  clear A4
  have HH := Lib.hid h
  clear h
  go_upto_region 5 with (fail)
  refine Fl.startL [.take 0, .take 1, .one 2, .take 3] (by decide) HI.out ?_
  refine Fl.take (some 26) (v := .slice A1 l1.length c1) rfl rfl (Or.inl ⟨by rfl, fun _ _ => by rfl⟩) ?_
  simp only [Act.put, Fl.z1, Fl.z2, Fl.z3]
  refine Fl.take (some 27) (v := .int .i64 x1) rfl rfl (Or.inl ⟨by rfl, fun _ _ => by rfl⟩) ?_
  simp only [Act.put, Fl.z1, Fl.z2, Fl.z3]
  refine Fl.call (some 28) Try.func7 (by kernel_rfl) rfl #[.slice A1 l1.length c1, .int .i64 x1] rfl rfl rfl (by rfl) rfl (fun E W hE hi => ?_)
  refine (laws_szEntryS.calls _ _ l1 x1 x3 W (Kd.C_below HR1.out hi.bel) HC1.out HA4.out).mono ?_
  rintro e W' ⟨rfl, hb⟩
  refine Fl.keep hi hb ?_
  clear hi hb hE
  simp only [Act.put, Fl.z1, Fl.z2, Fl.z3]
  refine Fl.take (some 9) (v := .int .i64 x3) rfl rfl (Or.inl ⟨by rfl, fun _ _ => by rfl⟩) ?_
  simp only [Act.put, Fl.z1, Fl.z2, Fl.z3]
  refine Fl.stop (fun W hi => ?_)
  replace HI := Lib.hid hi
  clear hi
  try clear hn_
  have h := HH.out
  clear HH
  by_cases hn : x3 < 0
  · rw [if_pos hn] at h
    obtain rfl := Option.some.inj h
    clear h
    have hn_ := decide_eq_true hn
    go_wp2
    go_ret
    exact ⟨rfl, HI.out.bel⟩
  rw [if_neg hn] at h
  have hn_ := decide_eq_false hn
  clear hn
  replace h := Option.bind_eq_some_iff.mp h
  obtain ⟨x5, A6, h⟩ := h
  try dsimp only at h
  have HA6 := Lib.hid A6
  clear A6
  replace h := Option.bind_eq_some_iff.mp h
  obtain ⟨x8, A9, h⟩ := h
  try dsimp only at h
  have HA9 := Lib.hid A9
  clear A9
  replace h := Option.bind_eq_some_iff.mp h
  obtain ⟨x11, A12, h⟩ := h
  try dsimp only at h
  have HA12 := Lib.hid A12
  clear A12
  replace h := Option.bind_eq_some_iff.mp h
  obtain ⟨x13, A14, h⟩ := h
  try dsimp only at h
  have HA14 := Lib.hid A14
  clear A14
  replace h := Option.bind_eq_some_iff.mp h
  obtain ⟨⟨x15, x16⟩, A17, h⟩ := h
  try dsimp only at h
  have HA17 := Lib.hid A17
  clear A17
  replace h := Option.bind_eq_some_iff.mp h
  obtain ⟨⟨x22, x23⟩, A24, h⟩ := h
  try dsimp only at h
  have HA24 := Lib.hid A24
  clear A24
  replace h := Option.bind_eq_some_iff.mp h
  obtain ⟨x26, A27, h⟩ := h
  try dsimp only at h
  have HA27 := Lib.hid A27
  clear A27
  replace h := Option.bind_eq_some_iff.mp h
  obtain ⟨x29, A30, h⟩ := h
  try dsimp only at h
  have HA30 := Lib.hid A30
  clear A30
  replace h := Option.bind_eq_some_iff.mp h
  obtain ⟨x32, A33, h⟩ := h
  try dsimp only at h
  have HA33 := Lib.hid A33
  clear A33
  replace h := Option.bind_eq_some_iff.mp h
  obtain ⟨x34, A35, h⟩ := h
  try dsimp only at h
  have HA35 := Lib.hid A35
  clear A35
  replace h := Option.bind_eq_some_iff.mp h
  obtain ⟨⟨x36, x37⟩, A38, h⟩ := h
  try dsimp only at h
  have HA38 := Lib.hid A38
  clear A38
  replace h := Option.bind_eq_some_iff.mp h
  obtain ⟨⟨x39, x40⟩, A41, h⟩ := h
  try dsimp only at h
  have HA41 := Lib.hid A41
  clear A41
  replace h := Option.bind_eq_some_iff.mp h
  obtain ⟨x42, A43, h⟩ := h
  try dsimp only at h
  have HA43 := Lib.hid A43
  clear A43
  obtain ⟨hc, rfl⟩ := Lv.of_if h
  clear h
  obtain ⟨rfl, rfl, rfl, rfl, hnx36, hnx42, rfl⟩ := hc
  have HNx36 := Lib.hid hnx36
  clear hnx36
  have HNx42 := Lib.hid hnx42
  clear hnx42
  go_upto_region 8 with (fail)
  refine Fl.start [([],[]),([0],[0]),([],[]),([2,1],[2]),([],[]),([4,3],[4]),([],[]),([6,5],[6]),([1,3,5,7,7],[1,3,5,7]),([8],[8]),([9],[9]),([9],[9]),([10,8,0,1,2,3,4,5,6,7,8,9,10],[10]),([11,12,0,1,2,3,4,5,6,7,8,9,10,11,12],[11])] [] 15 [.take 0, .take 2, .take 4, .take 6, .one 1, .one 3, .one 5, .one 7, .one 8, .take 9, .take 10, .take 11, .take 12, .take 13] [] (by kernel_rfl) (by kernel_rfl) (by decide) (by decide) (by kernel_rfl) (by kernel_rfl) Fl.mk0 HI.out ?_
  refine Fl.take (some 32) (v := .agg #[.slice A0_0 l0_0.length c0_0]) rfl rfl (Fl.ld 2 rfl (by rfl) _ _ rfl rfl Try.underlying24 rfl (by kernel_rfl)) ?_
  simp only [Act.put, Fl.z1, Fl.z2, Fl.z3]
  refine Fl.take (some 34) (v := .slice A1 l1.length c1) rfl rfl (Or.inl ⟨by rfl, fun _ _ => by rfl⟩) ?_
  simp only [Act.put, Fl.z1, Fl.z2, Fl.z3]
  refine Fl.take (some 36) (v := .agg (Ky.bs a2)) rfl rfl (Fl.ld 1 rfl (by rfl) _ _ rfl rfl Try.underlying26 rfl (Ky.hKk HKa2.out)) ?_
  simp only [Act.put, Fl.z1, Fl.z2, Fl.z3]
  refine Fl.take (some 38) (v := .agg (Ky.bs a3)) rfl rfl (Fl.ld 0 rfl (by rfl) _ _ rfl rfl Try.underlying26 rfl (Ky.hKk HKa3.out)) ?_
  simp only [Act.put, Fl.z1, Fl.z2, Fl.z3]
  refine Fl.call (some 33) Try.func9 (by kernel_rfl) rfl #[.agg #[.slice A0_0 l0_0.length c0_0]] rfl rfl rfl (by rfl) rfl (fun E W hE hi => ?_)
  refine (laws_toMemory.calls k _ _ l0_0 x5 W (Kd.C_below HR0_0.out hi.bel) HC0_0.out HA6.out).mono ?_
  rintro e W' ⟨v, rfl, hr, hb⟩
  obtain ⟨Aq7, cq7, rfl⟩ := Kd.S_slice hr
  refine Fl.addS hi (Kd.S_mono hr (fun _ _ => trivial)) hb ?_
  clear hr
  clear hi hb hE
  simp only [Act.put, Fl.z1, Fl.z2, Fl.z3]
  refine Fl.call (some 35) Try.func10 (by kernel_rfl) rfl #[.slice A1 l1.length c1] rfl rfl rfl (by rfl) rfl (fun E W hE hi => ?_)
  refine (laws_toEntryS.calls _ _ l1 x8 W (Kd.C_below HR1.out hi.bel) HC1.out HA9.out).mono ?_
  rintro e W' ⟨v, rfl, hr, hb⟩
  obtain ⟨Aq10, cq10, rfl⟩ := Kd.R_slice hr
  refine Fl.addR hi (Kd.R_mono hr (fun _ _ => trivial)) hb ?_
  clear hr
  clear hi hb hE
  simp only [Act.put, Fl.z1, Fl.z2, Fl.z3]
  refine Fl.call (some 37) Try.func11 (by kernel_rfl) rfl #[.agg (Ky.bs a2)] rfl rfl rfl (by rfl) rfl (fun E W hE hi => ?_)
  refine (laws_toByteA16.calls a2 x11 W HKa2.out HA12.out).mono ?_
  rintro e W' ⟨rfl, hb, hkx11⟩
  have HKx11 := Lib.hid hkx11
  clear hkx11
  refine Fl.keep hi hb ?_
  clear hi hb hE
  simp only [Act.put, Fl.z1, Fl.z2, Fl.z3]
  refine Fl.call (some 39) Try.func11 (by kernel_rfl) rfl #[.agg (Ky.bs a3)] rfl rfl rfl (by rfl) rfl (fun E W hE hi => ?_)
  refine (laws_toByteA16.calls a3 x13 W HKa3.out HA14.out).mono ?_
  rintro e W' ⟨rfl, hb, hkx13⟩
  have HKx13 := Lib.hid hkx13
  clear hkx13
  refine Fl.keep hi hb ?_
  clear hi hb hE
  simp only [Act.put, Fl.z1, Fl.z2, Fl.z3]
  refine Fl.call (some 40) Try.func8 (by kernel_rfl) rfl #[.agg #[.slice Aq7 x5.length cq7], .slice Aq10 x8.length cq10, .agg (Ky.bs x11), .agg (Ky.bs x13)] rfl rfl rfl (by rfl) rfl (fun E W hE hi => ?_)
  refine (spec_EntriesBetween.calls k _ _ x5 _ _ x8 x11 x13 x15 x23 W (hi.cS 1 rfl) (hi.lS 1 rfl) (hi.cR 0 rfl) (hi.lR 0 rfl) HKx11.out HKx13.out HA17.out).mono ?_
  rintro e W' ⟨v, rfl, hr, hb⟩
  obtain ⟨Aq18, cq18, rfl⟩ := Kd.R_slice hr
  refine Fl.addR hi (Kd.R_mono hr (fun _ _ => trivial)) hb ?_
  clear hr
  clear hi hb hE
  simp only [Act.put, Fl.z1, Fl.z2, Fl.z3]
  refine Fl.take (some 31) (v := .tuple #[.slice Aq18 x15.length cq18, .bool x23]) rfl rfl (Or.inl ⟨by rfl, fun _ _ => by rfl⟩) ?_
  simp only [Act.put, Fl.z1, Fl.z2, Fl.z3]
  refine Fl.take (some 41) (v := .slice Aq18 x15.length cq18) rfl rfl (Or.inl ⟨by rfl, fun _ _ => by rfl⟩) ?_
  simp only [Act.put, Fl.z1, Fl.z2, Fl.z3]
  refine Fl.take (some 42) (v := .bool x23) rfl rfl (Or.inl ⟨by rfl, fun _ _ => by rfl⟩) ?_
  simp only [Act.put, Fl.z1, Fl.z2, Fl.z3]
  refine Fl.take (some 10) (v := .slice Aq18 x15.length cq18) rfl rfl (Or.inl ⟨by rfl, fun _ _ => by rfl⟩) ?_
  simp only [Act.put, Fl.z1, Fl.z2, Fl.z3]
  refine Fl.take (some 11) (v := .bool x23) rfl rfl (Or.inl ⟨by rfl, fun _ _ => by rfl⟩) ?_
  simp only [Act.put, Fl.z1, Fl.z2, Fl.z3]
  refine Fl.fin0 ?_
  refine Fl.stopN (fun W hi => ?_)
  replace HI := Lib.hid hi
  clear hi
  try clear hn_
  go_upto_region 9 with (fail)
  refine Fl.startL [.take 0, .one 1, .one 2, .one 3] (by decide) HI.out ?_
  refine Fl.take (some 43) (v := .agg #[.slice A0_0 l0_0.length c0_0]) rfl rfl (Fl.ld 5 rfl (by rfl) _ _ rfl rfl Try.underlying24 rfl (by kernel_rfl)) ?_
  simp only [Act.put, Fl.z1, Fl.z2, Fl.z3]
  refine Fl.call (some 44) Try.func9 (by kernel_rfl) rfl #[.agg #[.slice A0_0 l0_0.length c0_0]] rfl rfl rfl (by rfl) rfl (fun E W hE hi => ?_)
  refine (laws_toMemory.calls k _ _ l0_0 x5 W (Kd.C_below HR0_0.out hi.bel) HC0_0.out HA6.out).mono ?_
  rintro e W' ⟨v, rfl, hr, hb⟩
  obtain ⟨Aq19, cq19, rfl⟩ := Kd.S_slice hr
  refine Fl.addS hi (Kd.S_mono hr (fun _ _ => trivial)) hb ?_
  clear hr
  clear hi hb hE
  simp only [Act.put, Fl.z1, Fl.z2, Fl.z3]
  refine Fl.var (N := 12) (cs := #[.slice none 0 0]) (t := 32) ⟨_, rfl, rfl, fun _ => rfl, fun e w => by go_simp⟩ (fun b20 => ?_)
  simp only [Act.put, Fl.z1, Fl.z2, Fl.z3]
  refine Fl.store 0 #[.slice Aq19 x5.length cq19] rfl rfl rfl rfl _ _ _ rfl rfl rfl (by rfl) rfl (by kernel_rfl) (by simp [Value.oneCell']) ?_
  refine Fl.stop (fun W hi => ?_)
  replace HI := Lib.hid hi
  clear hi
  try clear hn_
  go_upto_region 10 with (fail)
  refine Fl.startL [.take 0, .one 1, .take 2] (by decide) HI.out ?_
  refine Fl.take (some 45) (v := .slice A1 l1.length c1) rfl rfl (Or.inl ⟨by rfl, fun _ _ => by rfl⟩) ?_
  simp only [Act.put, Fl.z1, Fl.z2, Fl.z3]
  refine Fl.call (some 46) Try.func10 (by kernel_rfl) rfl #[.slice A1 l1.length c1] rfl rfl rfl (by rfl) rfl (fun E W hE hi => ?_)
  refine (laws_toEntryS.calls _ _ l1 x8 W (Kd.C_below HR1.out hi.bel) HC1.out HA9.out).mono ?_
  rintro e W' ⟨v, rfl, hr, hb⟩
  obtain ⟨Aq21, cq21, rfl⟩ := Kd.R_slice hr
  refine Fl.addR hi (Kd.R_mono hr (fun _ _ => trivial)) hb ?_
  clear hr
  clear hi hb hE
  simp only [Act.put, Fl.z1, Fl.z2, Fl.z3]
  refine Fl.take (some 13) (v := .slice Aq21 x8.length cq21) rfl rfl (Or.inl ⟨by rfl, fun _ _ => by rfl⟩) ?_
  simp only [Act.put, Fl.z1, Fl.z2, Fl.z3]
  refine Fl.stop (fun W hi => ?_)
  replace HI := Lib.hid hi
  clear hi
  try clear hn_
  go_upto_region 11 with (fail)
  refine Fl.start [([],[]),([],[]),([],[]),([2],[2]),([],[]),([4,3],[4]),([0,1,3,5,5],[0,1,3,5]),([6],[6]),([7],[7]),([7],[7]),([8,6,0,1,2,3,4,5,6,7,8],[8]),([9,10,0,1,2,3,4,5,6,7,8,9,10],[9])] [] 13 [.take 0, .take 1, .take 2, .take 4, .one 3, .one 5, .one 6, .take 7, .take 8, .take 9, .take 10, .take 11] [] (by kernel_rfl) (by kernel_rfl) (by decide) (by decide) (by kernel_rfl) (by kernel_rfl) Fl.mk0 HI.out ?_
  refine Fl.take (some 48) (v := .agg #[.slice Aq19 x5.length cq19]) rfl rfl (Fl.ld 1 rfl (by rfl) _ _ rfl rfl Try.underlying32 rfl (by kernel_rfl)) ?_
  simp only [Act.put, Fl.z1, Fl.z2, Fl.z3]
  refine Fl.take (some 49) (v := .slice Aq21 x8.length cq21) rfl rfl (Or.inl ⟨by rfl, fun _ _ => by rfl⟩) ?_
  simp only [Act.put, Fl.z1, Fl.z2, Fl.z3]
  refine Fl.take (some 50) (v := .agg (Ky.bs a2)) rfl rfl (Fl.ld 7 rfl (by rfl) _ _ rfl rfl Try.underlying26 rfl (Ky.hKk HKa2.out)) ?_
  simp only [Act.put, Fl.z1, Fl.z2, Fl.z3]
  refine Fl.take (some 52) (v := .agg (Ky.bs a3)) rfl rfl (Fl.ld 6 rfl (by rfl) _ _ rfl rfl Try.underlying26 rfl (Ky.hKk HKa3.out)) ?_
  simp only [Act.put, Fl.z1, Fl.z2, Fl.z3]
  refine Fl.call (some 51) Try.func11 (by kernel_rfl) rfl #[.agg (Ky.bs a2)] rfl rfl rfl (by rfl) rfl (fun E W hE hi => ?_)
  refine (laws_toByteA16.calls a2 x11 W HKa2.out HA12.out).mono ?_
  rintro e W' ⟨rfl, hb, hkx11⟩
  have HKx11 := Lib.hid hkx11
  clear hkx11
  refine Fl.keep hi hb ?_
  clear hi hb hE
  simp only [Act.put, Fl.z1, Fl.z2, Fl.z3]
  refine Fl.call (some 53) Try.func11 (by kernel_rfl) rfl #[.agg (Ky.bs a3)] rfl rfl rfl (by rfl) rfl (fun E W hE hi => ?_)
  refine (laws_toByteA16.calls a3 x13 W HKa3.out HA14.out).mono ?_
  rintro e W' ⟨rfl, hb, hkx13⟩
  have HKx13 := Lib.hid hkx13
  clear hkx13
  refine Fl.keep hi hb ?_
  clear hi hb hE
  simp only [Act.put, Fl.z1, Fl.z2, Fl.z3]
  refine Fl.call (some 54) Try.func12 (by kernel_rfl) rfl #[.agg #[.slice Aq19 x5.length cq19], .slice Aq21 x8.length cq21, .agg (Ky.bs x11), .agg (Ky.bs x13)] rfl rfl rfl (by rfl) rfl (fun E W hE hi => ?_)
  refine (impl_EntriesBetween.calls k _ _ x5 _ _ x8 x11 x13 x22 x23 W ((hE _ (Fl.inv_drop hi)).cS 2 rfl) ((hE _ (Fl.inv_drop hi)).lS 2 rfl) ((hE _ (Fl.inv_drop hi)).cR 0 rfl) ((hE _ (Fl.inv_drop hi)).lR 0 rfl) HKx11.out HKx13.out HA24.out).mono ?_
  rintro e W' ⟨v, rfl, hr, hb⟩
  obtain ⟨Aq25, cq25, rfl⟩ := Kd.R_slice hr
  refine Fl.addR hi (Kd.R_mono hr (fun _ _ => trivial)) hb ?_
  clear hr
  clear hi hb hE
  simp only [Act.put, Fl.z1, Fl.z2, Fl.z3]
  refine Fl.take (some 47) (v := .tuple #[.slice Aq25 x22.length cq25, .bool x23]) rfl rfl (Or.inl ⟨by rfl, fun _ _ => by rfl⟩) ?_
  simp only [Act.put, Fl.z1, Fl.z2, Fl.z3]
  refine Fl.take (some 55) (v := .slice Aq25 x22.length cq25) rfl rfl (Or.inl ⟨by rfl, fun _ _ => by rfl⟩) ?_
  simp only [Act.put, Fl.z1, Fl.z2, Fl.z3]
  refine Fl.take (some 56) (v := .bool x23) rfl rfl (Or.inl ⟨by rfl, fun _ _ => by rfl⟩) ?_
  simp only [Act.put, Fl.z1, Fl.z2, Fl.z3]
  refine Fl.take (some 14) (v := .slice Aq25 x22.length cq25) rfl rfl (Or.inl ⟨by rfl, fun _ _ => by rfl⟩) ?_
  simp only [Act.put, Fl.z1, Fl.z2, Fl.z3]
  refine Fl.take (some 15) (v := .bool x23) rfl rfl (Or.inl ⟨by rfl, fun _ _ => by rfl⟩) ?_
  simp only [Act.put, Fl.z1, Fl.z2, Fl.z3]
  refine Fl.fin0 ?_
  refine Fl.stopN (fun W hi => ?_)
  replace HI := Lib.hid hi
  clear hi
  try clear hn_
  go_upto_region 12 with (fail)
  refine Fl.startL [.take 0, .take 1, .one 2, .take 3, .take 4, .take 5, .take 6, .take 7, .take 8] (by decide) HI.out ?_
  refine Fl.take (some 57) (v := .slice Aq25 x22.length cq25) rfl rfl (Or.inl ⟨by rfl, fun _ _ => by rfl⟩) ?_
  simp only [Act.put, Fl.z1, Fl.z2, Fl.z3]
  refine Fl.take (some 58) (v := .slice Aq18 x15.length cq18) rfl rfl (Or.inl ⟨by rfl, fun _ _ => by rfl⟩) ?_
  simp only [Act.put, Fl.z1, Fl.z2, Fl.z3]
  refine Fl.call (some 59) Try.func13 (by kernel_rfl) rfl #[.slice Aq25 x22.length cq25, .slice Aq18 x15.length cq18] rfl rfl rfl (by rfl) rfl (fun E W hE hi => ?_)
  refine (laws_eqEntryS.calls _ _ x22 _ _ x15 true W ((hE _ (Fl.inv_drop hi)).cR 0 rfl) ((hE _ (Fl.inv_drop hi)).lR 0 rfl) ((hE _ (Fl.inv_drop hi)).cR 4 rfl) ((hE _ (Fl.inv_drop hi)).lR 4 rfl) HA27.out).mono ?_
  rintro e W' ⟨rfl, hb⟩
  refine Fl.keep hi hb ?_
  clear hi hb hE
  simp only [Act.put, Fl.z1, Fl.z2, Fl.z3]
  refine Fl.take (some 60) (v := .bool false) rfl rfl (Or.inl ⟨by rfl, fun _ _ => by rfl⟩) ?_
  simp only [Act.put, Fl.z1, Fl.z2, Fl.z3]
  refine Fl.take (some 61) (v := .bool false) rfl rfl (Or.inl ⟨by rfl, fun _ _ => by rfl⟩) ?_
  simp only [Act.put, Fl.z1, Fl.z2, Fl.z3]
  refine Fl.take (some 62) (v := .bool x23) rfl rfl (Or.inl ⟨by rfl, fun _ _ => by rfl⟩) ?_
  simp only [Act.put, Fl.z1, Fl.z2, Fl.z3]
  refine Fl.take (some 63) (v := .bool x23) rfl rfl (Or.inl ⟨by rfl, fun _ _ => by rfl⟩) ?_
  simp only [Act.put, Fl.z1, Fl.z2, Fl.z3]
  refine Fl.take (some 64) (v := .bool false) rfl rfl (Or.inl ⟨by rfl, fun _ _ => by go_simp⟩) ?_
  simp only [Act.put, Fl.z1, Fl.z2, Fl.z3]
  refine Fl.take (some 65) (v := .bool false) rfl rfl (Or.inl ⟨by rfl, fun _ _ => by rfl⟩) ?_
  simp only [Act.put, Fl.z1, Fl.z2, Fl.z3]
  refine Fl.stop (fun W hi => ?_)
  replace HI := Lib.hid hi
  clear hi
  try clear hn_
  go_upto_region 14 with (fail)
  refine Fl.start [([],[]),([],[]),([1],[1]),([0,2,2],[0,2]),([3],[3])] [] 6 [.take 0, .take 1, .one 2, .one 3, .take 4] [] (by kernel_rfl) (by kernel_rfl) (by decide) (by decide) (by kernel_rfl) (by kernel_rfl) Fl.mk0 HI.out ?_
  refine Fl.take (some 66) (v := .agg #[.slice Aq19 x5.length cq19]) rfl rfl (Fl.ld 2 rfl (by rfl) _ _ rfl rfl Try.underlying32 rfl (by kernel_rfl)) ?_
  simp only [Act.put, Fl.z1, Fl.z2, Fl.z3]
  refine Fl.take (some 67) (v := .agg #[.slice A0_0 l0_0.length c0_0]) rfl rfl (Fl.ld 9 rfl (by rfl) _ _ rfl rfl Try.underlying24 rfl (by kernel_rfl)) ?_
  simp only [Act.put, Fl.z1, Fl.z2, Fl.z3]
  refine Fl.call (some 68) Try.func9 (by kernel_rfl) rfl #[.agg #[.slice A0_0 l0_0.length c0_0]] rfl rfl rfl (by rfl) rfl (fun E W hE hi => ?_)
  refine (laws_toMemory.calls k _ _ l0_0 x5 W (Kd.C_below HR0_0.out hi.bel) HC0_0.out HA6.out).mono ?_
  rintro e W' ⟨v, rfl, hr, hb⟩
  obtain ⟨Aq28, cq28, rfl⟩ := Kd.S_slice hr
  refine Fl.addS hi (Kd.S_mono hr (fun _ _ => trivial)) hb ?_
  clear hr
  clear hi hb hE
  simp only [Act.put, Fl.z1, Fl.z2, Fl.z3]
  refine Fl.call (some 69) Try.func14 (by kernel_rfl) rfl #[.agg #[.slice Aq19 x5.length cq19], .agg #[.slice Aq28 x5.length cq28]] rfl rfl rfl (by rfl) rfl (fun E W hE hi => ?_)
  refine (laws_eqMemory.calls k _ _ x5 _ _ x5 true W ((hE _ (Fl.inv_drop hi)).cS 3 rfl) ((hE _ (Fl.inv_drop hi)).lS 3 rfl) (hi.cS 0 rfl) (hi.lS 0 rfl) HA30.out).mono ?_
  rintro e W' ⟨rfl, hb⟩
  refine Fl.keep hi hb ?_
  clear hi hb hE
  simp only [Act.put, Fl.z1, Fl.z2, Fl.z3]
  refine Fl.take (some 70) (v := .bool false) rfl rfl (Or.inl ⟨by rfl, fun _ _ => by rfl⟩) ?_
  simp only [Act.put, Fl.z1, Fl.z2, Fl.z3]
  refine Fl.fin0 ?_
  refine Fl.stopN (fun W hi => ?_)
  replace HI := Lib.hid hi
  clear hi
  try clear hn_
  go_upto_region 16 with (fail)
  refine Fl.startL [.take 0, .take 1, .one 2, .one 3, .take 4] (by decide) HI.out ?_
  refine Fl.take (some 71) (v := .slice Aq21 x8.length cq21) rfl rfl (Or.inl ⟨by rfl, fun _ _ => by rfl⟩) ?_
  simp only [Act.put, Fl.z1, Fl.z2, Fl.z3]
  refine Fl.take (some 72) (v := .slice A1 l1.length c1) rfl rfl (Or.inl ⟨by rfl, fun _ _ => by rfl⟩) ?_
  simp only [Act.put, Fl.z1, Fl.z2, Fl.z3]
  refine Fl.call (some 73) Try.func10 (by kernel_rfl) rfl #[.slice A1 l1.length c1] rfl rfl rfl (by rfl) rfl (fun E W hE hi => ?_)
  refine (laws_toEntryS.calls _ _ l1 x8 W (Kd.C_below HR1.out hi.bel) HC1.out HA9.out).mono ?_
  rintro e W' ⟨v, rfl, hr, hb⟩
  obtain ⟨Aq31, cq31, rfl⟩ := Kd.R_slice hr
  refine Fl.addR hi (Kd.R_mono hr (fun _ _ => trivial)) hb ?_
  clear hr
  clear hi hb hE
  simp only [Act.put, Fl.z1, Fl.z2, Fl.z3]
  refine Fl.call (some 74) Try.func13 (by kernel_rfl) rfl #[.slice Aq21 x8.length cq21, .slice Aq31 x8.length cq31] rfl rfl rfl (by rfl) rfl (fun E W hE hi => ?_)
  refine (laws_eqEntryS.calls _ _ x8 _ _ x8 true W ((hE _ (Fl.inv_drop hi)).cR 2 rfl) ((hE _ (Fl.inv_drop hi)).lR 2 rfl) (hi.cR 0 rfl) (hi.lR 0 rfl) HA33.out).mono ?_
  rintro e W' ⟨rfl, hb⟩
  refine Fl.keep hi hb ?_
  clear hi hb hE
  simp only [Act.put, Fl.z1, Fl.z2, Fl.z3]
  refine Fl.take (some 75) (v := .bool false) rfl rfl (Or.inl ⟨by rfl, fun _ _ => by rfl⟩) ?_
  simp only [Act.put, Fl.z1, Fl.z2, Fl.z3]
  refine Fl.stop (fun W hi => ?_)
  replace HI := Lib.hid hi
  clear hi
  try clear hn_
  go_upto_region 19 with (fail)
  refine Fl.startW [.one 0, .take 1, .one 2, .take 3] (by decide) HI.out ?_
  refine Fl.ldF (some 76) 4 rfl rfl rfl (by rfl) _ _ rfl rfl Try.underlying32 rfl (by kernel_rfl) ?_
  simp only [Act.put, Fl.z1, Fl.z2, Fl.z3]
  refine Fl.take (some 77) (v := .int .i64 1) rfl rfl (Or.inl ⟨by rfl, fun _ _ => by rfl⟩) ?_
  simp only [Act.put, Fl.z1, Fl.z2, Fl.z3]
  refine Fl.call (some 78) Try.func15 (by kernel_rfl) rfl #[.agg #[.slice Aq19 x5.length cq19], .int .i64 1] rfl rfl rfl (by rfl) rfl (fun E W hE hi => ?_)
  refine Fl.markS 5 rfl hi (fun S hS => laws_markMemory.calls k S _ _ _ _ _ _ hi.bel hS HA35.out) ?_
  clear hi hE
  simp only [Act.put, Fl.z1, Fl.z2, Fl.z3]
  refine Fl.take (some 16) (v := .int .i64 x34) rfl rfl (Or.inl ⟨by rfl, fun _ _ => by rfl⟩) ?_
  simp only [Act.put, Fl.z1, Fl.z2, Fl.z3]
  refine Fl.stopW (fun W hi => ?_)
  replace HI := Lib.hid hi
  clear hi
  try clear hn_
  go_upto_region 20 with (fail)
  refine Fl.startW [.take 0, .take 1, .one 2, .take 3] (by decide) HI.out ?_
  refine Fl.take (some 79) (v := .slice Aq21 x8.length cq21) rfl rfl (Or.inl ⟨by rfl, fun _ _ => by rfl⟩) ?_
  simp only [Act.put, Fl.z1, Fl.z2, Fl.z3]
  refine Fl.take (some 80) (v := .int .i64 x34) rfl rfl (Or.inl ⟨by rfl, fun _ _ => by rfl⟩) ?_
  simp only [Act.put, Fl.z1, Fl.z2, Fl.z3]
  refine Fl.call (some 81) Try.func16 (by kernel_rfl) rfl #[.slice Aq21 x8.length cq21, .int .i64 x34] rfl rfl rfl (by rfl) rfl (fun E W hE hi => ?_)
  refine Fl.markR 3 rfl hi rfl (fun S hS => laws_markEntryS.calls S _ _ _ _ _ _ _ hi.bel hS HA38.out) ?_
  clear hi hE
  simp only [Act.put, Fl.z1, Fl.z2, Fl.z3]
  refine Fl.take (some 16) (v := .int .i64 x36) rfl rfl (Or.inl ⟨by rfl, fun _ _ => by rfl⟩) ?_
  simp only [Act.put, Fl.z1, Fl.z2, Fl.z3]
  refine Fl.stopW (fun W hi => ?_)
  replace HI := Lib.hid hi
  clear hi
  try clear hn_
  go_upto_region 21 with (fail)
  refine Fl.startL [.take 0, .take 1, .take 2, .take 3, .take 4, .one 5, .take 6, .take 7, .take 8, .take 9, .take 10, .take 11, .take 12] (by decide) HI.out ?_
  refine Fl.take (some 82) (v := .int .i64 x36) rfl rfl (Or.inl ⟨by rfl, fun _ _ => by rfl⟩) ?_
  simp only [Act.put, Fl.z1, Fl.z2, Fl.z3]
  refine Fl.take (some 83) (v := .bool false) rfl rfl (Or.inl ⟨by rfl, fun _ _ => by have h_ := decide_eq_false HNx36.out; go_simp⟩) ?_
  simp only [Act.put, Fl.z1, Fl.z2, Fl.z3]
  refine Fl.take (some 84) (v := .bool false) rfl rfl (Or.inl ⟨by rfl, fun _ _ => by rfl⟩) ?_
  simp only [Act.put, Fl.z1, Fl.z2, Fl.z3]
  refine Fl.take (some 85) (v := .slice Aq25 x22.length cq25) rfl rfl (Or.inl ⟨by rfl, fun _ _ => by rfl⟩) ?_
  simp only [Act.put, Fl.z1, Fl.z2, Fl.z3]
  refine Fl.take (some 86) (v := .slice Aq18 x15.length cq18) rfl rfl (Or.inl ⟨by rfl, fun _ _ => by rfl⟩) ?_
  simp only [Act.put, Fl.z1, Fl.z2, Fl.z3]
  refine Fl.call (some 87) Try.func13 (by kernel_rfl) rfl #[.slice Aq25 x22.length cq25, .slice Aq18 x15.length cq18] rfl rfl rfl (by rfl) rfl (fun E W hE hi => ?_)
  refine (laws_eqEntryS.calls _ _ x22 _ _ x15 true W ((hE _ (Fl.inv_drop hi)).cR 2 rfl) ((hE _ (Fl.inv_drop hi)).lR 2 rfl) ((hE _ (Fl.inv_drop hi)).cR 6 rfl) ((hE _ (Fl.inv_drop hi)).lR 6 rfl) HA27.out).mono ?_
  rintro e W' ⟨rfl, hb⟩
  refine Fl.keep hi hb ?_
  clear hi hb hE
  simp only [Act.put, Fl.z1, Fl.z2, Fl.z3]
  refine Fl.take (some 88) (v := .bool false) rfl rfl (Or.inl ⟨by rfl, fun _ _ => by rfl⟩) ?_
  simp only [Act.put, Fl.z1, Fl.z2, Fl.z3]
  refine Fl.take (some 89) (v := .bool false) rfl rfl (Or.inl ⟨by rfl, fun _ _ => by rfl⟩) ?_
  simp only [Act.put, Fl.z1, Fl.z2, Fl.z3]
  refine Fl.take (some 90) (v := .bool false) rfl rfl (Or.inl ⟨by rfl, fun _ _ => by rfl⟩) ?_
  simp only [Act.put, Fl.z1, Fl.z2, Fl.z3]
  refine Fl.take (some 91) (v := .bool x23) rfl rfl (Or.inl ⟨by rfl, fun _ _ => by rfl⟩) ?_
  simp only [Act.put, Fl.z1, Fl.z2, Fl.z3]
  refine Fl.take (some 92) (v := .bool x23) rfl rfl (Or.inl ⟨by rfl, fun _ _ => by rfl⟩) ?_
  simp only [Act.put, Fl.z1, Fl.z2, Fl.z3]
  refine Fl.take (some 93) (v := .bool false) rfl rfl (Or.inl ⟨by rfl, fun _ _ => by go_simp⟩) ?_
  simp only [Act.put, Fl.z1, Fl.z2, Fl.z3]
  refine Fl.take (some 94) (v := .bool false) rfl rfl (Or.inl ⟨by rfl, fun _ _ => by rfl⟩) ?_
  simp only [Act.put, Fl.z1, Fl.z2, Fl.z3]
  refine Fl.stop (fun W hi => ?_)
  replace HI := Lib.hid hi
  clear hi
  try clear hn_
  go_upto_region 24 with (fail)
  refine Fl.startW [.take 0, .take 1, .one 2, .take 3] (by decide) HI.out ?_
  refine Fl.take (some 95) (v := .slice Aq25 x22.length cq25) rfl rfl (Or.inl ⟨by rfl, fun _ _ => by rfl⟩) ?_
  simp only [Act.put, Fl.z1, Fl.z2, Fl.z3]
  refine Fl.take (some 96) (v := .int .i64 1) rfl rfl (Or.inl ⟨by rfl, fun _ _ => by rfl⟩) ?_
  simp only [Act.put, Fl.z1, Fl.z2, Fl.z3]
  refine Fl.call (some 97) Try.func16 (by kernel_rfl) rfl #[.slice Aq25 x22.length cq25, .int .i64 1] rfl rfl rfl (by rfl) rfl (fun E W hE hi => ?_)
  refine Fl.markR 2 rfl hi rfl (fun S hS => laws_markEntryS.calls S _ _ _ _ _ _ _ hi.bel hS HA41.out) ?_
  clear hi hE
  simp only [Act.put, Fl.z1, Fl.z2, Fl.z3]
  refine Fl.take (some 17) (v := .int .i64 x42) rfl rfl (Or.inl ⟨by rfl, fun _ _ => by rfl⟩) ?_
  simp only [Act.put, Fl.z1, Fl.z2, Fl.z3]
  refine Fl.stopW (fun W hi => ?_)
  replace HI := Lib.hid hi
  clear hi
  try clear hn_
  go_upto_region 26 with (fail)
  refine Fl.startL [.take 0, .take 1, .one 2, .take 3] (by decide) HI.out ?_
  refine Fl.take (some 98) (v := .slice Aq25 x22.length cq25) rfl rfl (Or.inl ⟨by rfl, fun _ _ => by rfl⟩) ?_
  simp only [Act.put, Fl.z1, Fl.z2, Fl.z3]
  refine Fl.take (some 99) (v := .int .i64 1) rfl rfl (Or.inl ⟨by rfl, fun _ _ => by rfl⟩) ?_
  simp only [Act.put, Fl.z1, Fl.z2, Fl.z3]
  refine Fl.call (some 100) Try.func17 (by kernel_rfl) rfl #[.slice Aq25 x22.length cq25, .int .i64 1] rfl rfl rfl (by rfl) rfl (fun E W hE hi => ?_)
  have hl_ := ((hE _ (Fl.inv_drop hi)).reads 2 rfl).1
  have hc_ := laws_heldEntryS.calls _ _ x40 1 x42 W ((hE _ (Fl.inv_drop hi)).reads 2 rfl).2.2 (hl_ ▸ ((hE _ (Fl.inv_drop hi)).reads 2 rfl).2.1) HA43.out
  rw [← hl_] at hc_
  refine hc_.mono ?_
  clear hc_ hl_
  rintro e W' ⟨rfl, hb⟩
  refine Fl.keep hi hb ?_
  clear hi hb hE
  simp only [Act.put, Fl.z1, Fl.z2, Fl.z3]
  refine Fl.take (some 18) (v := .int .i64 x42) rfl rfl (Or.inl ⟨by rfl, fun _ _ => by rfl⟩) ?_
  simp only [Act.put, Fl.z1, Fl.z2, Fl.z3]
  refine Fl.stop (fun W hi => ?_)
  replace HI := Lib.hid hi
  clear hi
  try clear hn_
  have hn_ := decide_eq_false HNx42.out
  go_upto_region 31 with (fail)
  refine Fl.start [([],[]),([0],[0]),([],[]),([2,1],[2]),([],[]),([4,3],[4]),([],[]),([6,5],[6]),([1,3,5,7,7],[1,3,5,7]),([8],[8]),([9],[9]),([9],[9]),([10,8,0,1,2,3,4,5,6,7,8,9,10],[10]),([11,12,0,1,2,3,4,5,6,7,8,9,10,11,12],[11])] [] 15 [.take 0, .take 2, .take 4, .take 6, .one 1, .one 3, .one 5, .one 7, .one 8, .take 9, .take 10, .take 11, .take 12, .take 13] [] (by kernel_rfl) (by kernel_rfl) (by decide) (by decide) (by kernel_rfl) (by kernel_rfl) Fl.mk0 HI.out ?_
  refine Fl.take (some 107) (v := .agg #[.slice A0_0 l0_0.length c0_0]) rfl rfl (Fl.ld 11 rfl (by rfl) _ _ rfl rfl Try.underlying24 rfl (by kernel_rfl)) ?_
  simp only [Act.put, Fl.z1, Fl.z2, Fl.z3]
  refine Fl.take (some 109) (v := .slice A1 l1.length c1) rfl rfl (Or.inl ⟨by rfl, fun _ _ => by rfl⟩) ?_
  simp only [Act.put, Fl.z1, Fl.z2, Fl.z3]
  refine Fl.take (some 111) (v := .agg (Ky.bs a2)) rfl rfl (Fl.ld 10 rfl (by rfl) _ _ rfl rfl Try.underlying26 rfl (Ky.hKk HKa2.out)) ?_
  simp only [Act.put, Fl.z1, Fl.z2, Fl.z3]
  refine Fl.take (some 113) (v := .agg (Ky.bs a3)) rfl rfl (Fl.ld 9 rfl (by rfl) _ _ rfl rfl Try.underlying26 rfl (Ky.hKk HKa3.out)) ?_
  simp only [Act.put, Fl.z1, Fl.z2, Fl.z3]
  refine Fl.call (some 108) Try.func9 (by kernel_rfl) rfl #[.agg #[.slice A0_0 l0_0.length c0_0]] rfl rfl rfl (by rfl) rfl (fun E W hE hi => ?_)
  refine (laws_toMemory.calls k _ _ l0_0 x5 W (Kd.C_below HR0_0.out hi.bel) HC0_0.out HA6.out).mono ?_
  rintro e W' ⟨v, rfl, hr, hb⟩
  obtain ⟨Aq44, cq44, rfl⟩ := Kd.S_slice hr
  refine Fl.addS hi (Kd.S_mono hr (fun _ _ => trivial)) hb ?_
  clear hr
  clear hi hb hE
  simp only [Act.put, Fl.z1, Fl.z2, Fl.z3]
  refine Fl.call (some 110) Try.func10 (by kernel_rfl) rfl #[.slice A1 l1.length c1] rfl rfl rfl (by rfl) rfl (fun E W hE hi => ?_)
  refine (laws_toEntryS.calls _ _ l1 x8 W (Kd.C_below HR1.out hi.bel) HC1.out HA9.out).mono ?_
  rintro e W' ⟨v, rfl, hr, hb⟩
  obtain ⟨Aq45, cq45, rfl⟩ := Kd.R_slice hr
  refine Fl.addR hi (Kd.R_mono hr (fun _ _ => trivial)) hb ?_
  clear hr
  clear hi hb hE
  simp only [Act.put, Fl.z1, Fl.z2, Fl.z3]
  refine Fl.call (some 112) Try.func11 (by kernel_rfl) rfl #[.agg (Ky.bs a2)] rfl rfl rfl (by rfl) rfl (fun E W hE hi => ?_)
  refine (laws_toByteA16.calls a2 x11 W HKa2.out HA12.out).mono ?_
  rintro e W' ⟨rfl, hb, hkx11⟩
  have HKx11 := Lib.hid hkx11
  clear hkx11
  refine Fl.keep hi hb ?_
  clear hi hb hE
  simp only [Act.put, Fl.z1, Fl.z2, Fl.z3]
  refine Fl.call (some 114) Try.func11 (by kernel_rfl) rfl #[.agg (Ky.bs a3)] rfl rfl rfl (by rfl) rfl (fun E W hE hi => ?_)
  refine (laws_toByteA16.calls a3 x13 W HKa3.out HA14.out).mono ?_
  rintro e W' ⟨rfl, hb, hkx13⟩
  have HKx13 := Lib.hid hkx13
  clear hkx13
  refine Fl.keep hi hb ?_
  clear hi hb hE
  simp only [Act.put, Fl.z1, Fl.z2, Fl.z3]
  refine Fl.call (some 115) Try.func12 (by kernel_rfl) rfl #[.agg #[.slice Aq44 x5.length cq44], .slice Aq45 x8.length cq45, .agg (Ky.bs x11), .agg (Ky.bs x13)] rfl rfl rfl (by rfl) rfl (fun E W hE hi => ?_)
  refine (impl_EntriesBetween.calls k _ _ x5 _ _ x8 x11 x13 x22 x23 W (hi.cS 1 rfl) (hi.lS 1 rfl) (hi.cR 0 rfl) (hi.lR 0 rfl) HKx11.out HKx13.out HA24.out).mono ?_
  rintro e W' ⟨v, rfl, hr, hb⟩
  obtain ⟨Aq46, cq46, rfl⟩ := Kd.R_slice hr
  refine Fl.addR hi (Kd.R_mono hr (fun _ _ => trivial)) hb ?_
  clear hr
  clear hi hb hE
  simp only [Act.put, Fl.z1, Fl.z2, Fl.z3]
  refine Fl.take (some 106) (v := .tuple #[.slice Aq46 x22.length cq46, .bool x23]) rfl rfl (Or.inl ⟨by rfl, fun _ _ => by rfl⟩) ?_
  simp only [Act.put, Fl.z1, Fl.z2, Fl.z3]
  refine Fl.take (some 116) (v := .slice Aq46 x22.length cq46) rfl rfl (Or.inl ⟨by rfl, fun _ _ => by rfl⟩) ?_
  simp only [Act.put, Fl.z1, Fl.z2, Fl.z3]
  refine Fl.take (some 117) (v := .bool x23) rfl rfl (Or.inl ⟨by rfl, fun _ _ => by rfl⟩) ?_
  simp only [Act.put, Fl.z1, Fl.z2, Fl.z3]
  refine Fl.take (some 19) (v := .slice Aq46 x22.length cq46) rfl rfl (Or.inl ⟨by rfl, fun _ _ => by rfl⟩) ?_
  simp only [Act.put, Fl.z1, Fl.z2, Fl.z3]
  refine Fl.take (some 20) (v := .bool x23) rfl rfl (Or.inl ⟨by rfl, fun _ _ => by rfl⟩) ?_
  simp only [Act.put, Fl.z1, Fl.z2, Fl.z3]
  refine Fl.fin0 ?_
  refine Fl.stopN (fun W hi => ?_)
  replace HI := Lib.hid hi
  clear hi
  try clear hn_
  go_upto_region 32 with (fail)
  refine Fl.startL [.take 0, .take 1, .one 2, .take 3, .take 4, .take 5, .take 6, .take 7, .take 8] (by decide) HI.out ?_
  refine Fl.take (some 118) (v := .slice Aq46 x22.length cq46) rfl rfl (Or.inl ⟨by rfl, fun _ _ => by rfl⟩) ?_
  simp only [Act.put, Fl.z1, Fl.z2, Fl.z3]
  refine Fl.take (some 119) (v := .slice Aq18 x15.length cq18) rfl rfl (Or.inl ⟨by rfl, fun _ _ => by rfl⟩) ?_
  simp only [Act.put, Fl.z1, Fl.z2, Fl.z3]
  refine Fl.call (some 120) Try.func13 (by kernel_rfl) rfl #[.slice Aq46 x22.length cq46, .slice Aq18 x15.length cq18] rfl rfl rfl (by rfl) rfl (fun E W hE hi => ?_)
  refine (laws_eqEntryS.calls _ _ x22 _ _ x15 true W ((hE _ (Fl.inv_drop hi)).cR 0 rfl) ((hE _ (Fl.inv_drop hi)).lR 0 rfl) ((hE _ (Fl.inv_drop hi)).cR 9 rfl) ((hE _ (Fl.inv_drop hi)).lR 9 rfl) HA27.out).mono ?_
  rintro e W' ⟨rfl, hb⟩
  refine Fl.keep hi hb ?_
  clear hi hb hE
  simp only [Act.put, Fl.z1, Fl.z2, Fl.z3]
  refine Fl.take (some 121) (v := .bool false) rfl rfl (Or.inl ⟨by rfl, fun _ _ => by rfl⟩) ?_
  simp only [Act.put, Fl.z1, Fl.z2, Fl.z3]
  refine Fl.take (some 122) (v := .bool false) rfl rfl (Or.inl ⟨by rfl, fun _ _ => by rfl⟩) ?_
  simp only [Act.put, Fl.z1, Fl.z2, Fl.z3]
  refine Fl.take (some 123) (v := .bool x23) rfl rfl (Or.inl ⟨by rfl, fun _ _ => by rfl⟩) ?_
  simp only [Act.put, Fl.z1, Fl.z2, Fl.z3]
  refine Fl.take (some 124) (v := .bool x23) rfl rfl (Or.inl ⟨by rfl, fun _ _ => by rfl⟩) ?_
  simp only [Act.put, Fl.z1, Fl.z2, Fl.z3]
  refine Fl.take (some 125) (v := .bool false) rfl rfl (Or.inl ⟨by rfl, fun _ _ => by go_simp⟩) ?_
  simp only [Act.put, Fl.z1, Fl.z2, Fl.z3]
  refine Fl.take (some 126) (v := .bool false) rfl rfl (Or.inl ⟨by rfl, fun _ _ => by rfl⟩) ?_
  simp only [Act.put, Fl.z1, Fl.z2, Fl.z3]
  refine Fl.stop (fun W hi => ?_)
  replace HI := Lib.hid hi
  clear hi
  try clear hn_
  go_upto_region 35 with (fail)
  refine Fl.startL [.take 0, .take 1, .one 2, .take 3] (by decide) HI.out ?_
  refine Fl.take (some 127) (v := .slice Aq25 x22.length cq25) rfl rfl (Or.inl ⟨by rfl, fun _ _ => by rfl⟩) ?_
  simp only [Act.put, Fl.z1, Fl.z2, Fl.z3]
  refine Fl.take (some 128) (v := .int .i64 1) rfl rfl (Or.inl ⟨by rfl, fun _ _ => by rfl⟩) ?_
  simp only [Act.put, Fl.z1, Fl.z2, Fl.z3]
  refine Fl.call (some 129) Try.func17 (by kernel_rfl) rfl #[.slice Aq25 x22.length cq25, .int .i64 1] rfl rfl rfl (by rfl) rfl (fun E W hE hi => ?_)
  have hl_ := ((hE _ (Fl.inv_drop hi)).reads 5 rfl).1
  have hc_ := laws_heldEntryS.calls _ _ x40 1 x42 W ((hE _ (Fl.inv_drop hi)).reads 5 rfl).2.2 (hl_ ▸ ((hE _ (Fl.inv_drop hi)).reads 5 rfl).2.1) HA43.out
  rw [← hl_] at hc_
  refine hc_.mono ?_
  clear hc_ hl_
  rintro e W' ⟨rfl, hb⟩
  refine Fl.keep hi hb ?_
  clear hi hb hE
  simp only [Act.put, Fl.z1, Fl.z2, Fl.z3]
  refine Fl.take (some 18) (v := .int .i64 x42) rfl rfl (Or.inl ⟨by rfl, fun _ _ => by rfl⟩) ?_
  simp only [Act.put, Fl.z1, Fl.z2, Fl.z3]
  refine Fl.stop (fun W hi => ?_)
  replace HI := Lib.hid hi
  clear hi
  try clear hn_
  have hn_ := decide_eq_false HNx42.out
  go_wp2
  go_ret
  exact ⟨rfl, HI.out.bel⟩

end Go.Proofs.Ytkifenbcepicjaa.PFnExactEntriesBetween
