/- What is proved here: each Go function that is named below answers, and leaves memory, as the theorem of its name says; no condition beyond those that each theorem states. Laid by this session's own program (wip/driver.py) over the kit's print. -/
import Derived.Test.YtdojnaghcfhadaaPFnExactRingBytesx0
import Derived.Test.YtdojnaghcfhadaaPFnExactRingBytesx1
import Derived.Test.YtdojnaghcfhadaaPFnExactRingBytesx2
import Derived.Test.YtdojnaghcfhadaaPFnExactRingBytesx3
namespace Go.Proofs.Ytdojnaghcfhadaa.PFnExactRingBytes
open Go.RowKit Go.Proofs.YtdojnaghcfhadaaW.PrintWords Go.Proofs.YtdojnaghcfhadaaW.PrintLast Go.Proofs.YtdojnaghcfhadaaW.PrintMore
attribute [local go_sem] max2_int min2_int max_two min_two max_three min_three max_four min_four   -- for this text's walks alone
set_option linter.unusedVariables false
set_option linter.unusedSimpArgs false

open Go.Proofs.Ytdojnaghcfhadaa.Cp
/-! ### laws_markByteS: function 46 -/
def laws_markByteS.l0 : Nat → List Int → Int → Int → Option (Int × List Int)
 | 0, _, _, _ => none
 | k + 1, x0, x1, x5 => if x5 < (x0.length : Int) then (if 0 ≤ x5 then (laws_markByteS.l0 k (x0.set (x5 : Int).toNat ((x1) % 256)) (wrap64 (x1 + 1)) (wrap64 (x5 + 1))) else (none)) else (some (x1, x0))
def laws_markByteS.f (k : Nat) (l0 : List Int) (a1 : Int) : Option (Int × List Int) := laws_markByteS.l0 k l0 a1 0
theorem laws_markByteS.mono_l : ∀ k, (∀ y0 y1 y2, LeO (laws_markByteS.l0 k y0 y1 y2) (laws_markByteS.l0 (k + 1) y0 y1 y2))
 | 0 => fun _ _ _ r h => by simp [laws_markByteS.l0] at h
 | k + 1 => by
  have ih0 := laws_markByteS.mono_l k
  ·intro y0 y1 y2
   unfold laws_markByteS.l0
   repeat' first
   | (with_reducible exact ih0 _ _ _)
   | (with_reducible exact LeO.refl _)
   | (with_reducible exact LeO.none _)
   | (with_reducible refine LeO.ite ?_ ?_)
   | (with_reducible refine LeO.bind ?_ (fun _ => ?_))
   | exact ih0 _ _ _
   | exact LeO.none _
   | refine LeO.ite ?_ ?_
   | refine LeO.bind ?_ (fun _ => ?_)
theorem laws_markByteS.mono : ∀ a0 a1 k, LeO (laws_markByteS.f k a0 a1) (laws_markByteS.f (k + 1) a0 a1) := by
 intro a0 a1 k
 have ih0 := laws_markByteS.mono_l k
 unfold laws_markByteS.f
 repeat' first
   | (with_reducible exact ih0 _ _ _)
   | (with_reducible exact LeO.refl _)
   | (with_reducible exact LeO.none _)
   | (with_reducible refine LeO.ite ?_ ?_)
   | (with_reducible refine LeO.bind ?_ (fun _ => ?_))
   | exact ih0 _ _ _
   | exact LeO.none _
   | refine LeO.ite ?_ ?_
   | refine LeO.bind ?_ (fun _ => ?_)
set_option maxHeartbeats 8000000 in
set_option maxRecDepth 100000 in
theorem laws_markByteS.calls (k : Nat) (P0_ : Nat → Prop) (u9000_ : Value) (l0 : List Int) (a1 : Int) (r1 : Int) (r2 : List Int) (w0 w : World) (hB : Below w0.heap.size w0 w) (ho0 : Kd.R (Kd.int .u8) 5 w w0.heap.size P0_ u9000_ l0) (h : laws_markByteS.f k l0 a1 = some (r1, r2)) :
  Calls Try.prog 46 #[u9000_, .int .i64 a1] w fun e w' => e = .returned (.int .i64 r1) ∧ Kd.R (Kd.int .u8) 5 w' w0.heap.size (fun k_ => (P0_ k_ ∨ w.heap.size ≤ k_)) u9000_ r2 ∧ Below w0.heap.size w0 w' ∧ Kept w w' (fun k_ => P0_ k_) := by
 have HO0 := Aside0.mk (show Kd.R (Kd.int .u8) 5 w w0.heap.size (fun k_ => (P0_ k_ ∨ w.heap.size ≤ k_)) u9000_ l0 from Kd.R_mono ho0 (fun k_ hk => (.inl hk)))
 have HK := Aside0.mk (Kept.refl w (fun k_ => P0_ k_))
 have HW0 := Aside0.mk hB.size
 have HB := Aside0.mk hB
 clear hB
 have H : (laws_markByteS.l0 k l0 a1 0) = some (r1, r2) := h
 clear h
 have H' := Aside0.mk H
 clear H
 go_enter Try.func46, Try.ntmps46
 go_wp2
 go_loopg [1, 5] k (fun kq v1 v5 w' => ∃ (x0_1 : List Int) (x1_1 : Int) (x5_1 : Int), v1 = .int .i64 x1_1 ∧ v5 = .int .i64 x5_1 ∧ Aside0 (laws_markByteS.l0 kq x0_1 x1_1 x5_1 = some (r1, r2)) ∧ Aside0 (kq ≤ k) ∧ Aside0 (Kd.R (Kd.int .u8) 5 w' w0.heap.size (fun k_ => (P0_ k_ ∨ w.heap.size ≤ k_)) u9000_ x0_1) ∧ Aside0 (Kept w w' (fun k_ => P0_ k_)) ∧ Aside0 (Below w0.heap.size w0 w'))
 case atStart => exact ⟨(l0), (a1), (0), (by first | rfl | (simp; done) | (simp [*]; done)), (by first | rfl | (simp; done) | (simp [*]; done)), H', ⟨Nat.le_refl _⟩, ⟨zr0 HO0⟩, ⟨by repeat (first | (with_reducible first | exact HK.out | apply Kept.alloc | apply Kept.drewN | apply Kept.drew) | exact HK.out)⟩, ⟨by repeat (first | (with_reducible first | exact HB.out | apply below_alloc | apply pw_below_drewN | apply below_drew1) | exact HB.out)⟩⟩
 case round =>
  clear H'
  try clear p2
  obtain ⟨x0_1, x1_1, x5_1, rfl, rfl, HA, HK1, HO_0, HK, HB⟩ := hrel
  cases gk with
  | zero => exact absurd HA.out (by simp [laws_markByteS.l0])
  | succ k1 =>
   have H := HA.out
   clear HA
   simp only [laws_markByteS.l0] at H
   by_cases c3 : x5_1 < (x0_1.length : Int)
   ·rw [if_pos c3] at H
    have c3b0 : decide (x5_1 < (x0_1.length : Int)) = true := decide_eq_true c3
    clear c3
    by_cases c4 : 0 ≤ x5_1
    ·rw [if_pos c4] at H
     have c4b0 : decide (0 ≤ x5_1) = true := decide_eq_true c4
     clear c4
     obtain ⟨y231, hy231⟩ : ∃ y_ : List Int, y_ = (x0_1.set (x5_1 : Int).toNat ((x1_1) % 256)) := ⟨_, rfl⟩
     replace H : (laws_markByteS.l0 k1 y231 (wrap64 (x1_1 + 1)) (wrap64 (x5_1 + 1))) = some (r1, r2) := by first | (rw [hy231]; with_reducible exact H) | (have H2_ := (Option.bind_some _ _).symm.trans H; rw [hy231]; with_reducible exact H2_) | (have H2_ := (Option.bind_some _ _).symm.trans H; with_reducible exact H2_) | with_reducible exact H | (rw [hy231]; exact H) | exact H
     have Ny231 := Aside0.mk hy231
     clear hy231
     have H' := Aside0.mk H
     clear H
     obtain ⟨Ao6, co6, eo6⟩ := Kd.R_slice HO_0.out
     subst eo6
     have p5 : 0 ≤ (x5_1 : Int) := of_decide_eq_true (by first | (with_reducible assumption) | assumption)
     have q5 : (x5_1 : Int) < ((x0_1.length : Int) : Int) := of_decide_eq_true (by first | (with_reducible assumption) | assumption)
     obtain ⟨go5, co5, eo5, gb5, gl5, cl5, HG5⟩ := Kd.R_form HO_0.out (by omega)
     (first | cases eo5 | (injection eo5 with ea_ en_ ec_; (first | subst ea_ | (injection ea_ with ea_; subst ea_)); subst ec_; clear en_))
     have GB5 := Aside0.mk gb5
     have GG5 := Aside0.mk HG5
     clear gb5 gl5 HG5
     have HMgo5 := Aside0.mk (show (P0_ go5 ∨ w.heap.size ≤ go5) from (HO_0.out.1 _ rfl))
     obtain ⟨hx5_0, hf5_0⟩ := Kd.R_celln 0 HO_0.out (x5_1 : Int) p5 q5
     replace p5 := eq_true p5
     replace q5 := eq_true q5
     have HP7 := Kd.R_putg HO_0.out (x5_1 : Int) ((x1_1) % 256)
     go_wp2_with (first | ((with_reducible refine gate_store (t := 5) (p := 16) rfl ?_); refine store_event (t := 5) (p := 16) (v := ?vo_w8) (w1 := (wr.setCell ⟨go5, (x5_1 : Int).toNat, none⟩ (.int .u8 ((x1_1) % 256)))) ?hg ?ho ?hn ?hr ?_; (case ho => rfl); (case hg => rfl); (case hn => rfl); (case hr => first | (go_simp; done) | (go_simp; rfl)); intro w8 hw; have hg : wr.grownBy w8 (some go5) := (by rw [hw]; exact HP7.2); have hp_ : Kd.R (Kd.int .u8) 5 w8 w0.heap.size (fun k_ => (P0_ k_ ∨ w.heap.size ≤ k_)) (.slice (some ⟨go5, 0, none⟩) x0_1.length co6) y231 := (by rw [hw, Ny231.out]; exact HP7.1); clear HP7; have n0_ := Aside0.mk (hp_); have n1_ := Aside0.mk ((by rw [hw]; exact below_set (HB.out) GB5.out : Below w0.heap.size w0 w8)); have n2_ := Aside0.mk (Kept.of_grown (S := (fun k_ => P0_ k_)) hg (by repeat (first | (with_reducible first | exact HK.out | apply Kept.alloc | apply Kept.drewN | apply Kept.drew) | exact HK.out)) (fun k_ e_ => (HO_0.out.1 k_ e_))); clear HO_0; clear HB; clear HK; have HO_0 := n0_; have HB := n1_; have HK := n2_; clear n0_ n1_ n2_; clear hg hw hp_))
     go_roundg k1
     case measure => have := HK1.out; omega
     case rel => exact ⟨(y231), (wrap64 (x1_1 + 1)), (wrap64 (x5_1 + 1)), (by first | rfl | (simp; done) | (simp [*]; done)), (by first | rfl | (simp; done) | (simp [*]; done)), H', ⟨by have := HK1.out; omega⟩, ⟨zr0 HO_0⟩, ⟨by repeat (first | (with_reducible first | exact HK.out | apply Kept.alloc | apply Kept.drewN | apply Kept.drew) | exact HK.out)⟩, ⟨by repeat (first | (with_reducible first | exact HB.out | apply below_alloc | apply pw_below_drewN | apply below_drew1) | exact HB.out)⟩⟩
    ·rw [if_neg c4] at H
     exact absurd H (by simp)
   ·rw [if_neg c3] at H
    have c3b0 : decide (x5_1 < (x0_1.length : Int)) = false := decide_eq_false c3
    clear c3
    simp only [Option.some.injEq, Prod.mk.injEq] at H
    obtain ⟨rfl, rfl⟩ := H
    obtain ⟨Ao9, co9, eo9⟩ := Kd.R_slice HO_0.out
    subst eo9
    go_wp2
    go_ret
    exact ⟨by first | rfl | (simp [errW_none, errW_some] <;> rfl) | (simp [*, errW_none, errW_some] <;> rfl), zr0 HO_0, by repeat (first | (with_reducible first | exact HB.out | apply below_alloc | apply pw_below_drewN | apply below_drew1) | exact HB.out), by repeat (first | (with_reducible first | exact HK.out | apply Kept.alloc | apply Kept.drewN | apply Kept.drew) | exact HK.out)⟩

/-! ### laws_markByteSS: function 94 (by hand) -/
def laws_markByteSS.l0 : Nat → List (List Int) → Int → Int → Option Int
  | 0, _, _, _ => none
  | k + 1, x0, x1, x2 => if x2 < (x0.length : Int) then (if 0 ≤ x2 then ((laws_markByteS.f k (rd_L1 x0 x2) x1).bind fun t => laws_markByteSS.l0 k x0 t.1 (wrap64 (x2 + 1))) else none) else some x1
def laws_markByteSS.f (k : Nat) (l0 : List (List Int)) (a1 : Int) : Option Int := laws_markByteSS.l0 k l0 a1 0
theorem laws_markByteSS.mono_l : ∀ k, (∀ y0 y1 y2, LeO (laws_markByteSS.l0 k y0 y1 y2) (laws_markByteSS.l0 (k + 1) y0 y1 y2))
  | 0 => fun _ _ _ r h => by simp [laws_markByteSS.l0] at h
  | k + 1 => by
    have ih0 := laws_markByteSS.mono_l k
    intro y0 y1 y2
    unfold laws_markByteSS.l0
    refine LeO.ite (LeO.ite (LeO.bind (laws_markByteS.mono _ _ _) (fun _ => ih0 _ _ _)) (LeO.none _)) (LeO.refl _)
theorem laws_markByteSS.mono : ∀ a0 a1 k, LeO (laws_markByteSS.f k a0 a1) (laws_markByteSS.f (k + 1) a0 a1) := fun a0 a1 k => laws_markByteSS.mono_l k a0 a1 0
set_option maxHeartbeats 8000000 in
set_option maxRecDepth 100000 in
theorem laws_markByteSS.calls (k : Nat) (P0_ : Nat → Prop) (u9000_ : Value) (l0 : List (List Int)) (a1 : Int) (r1 : Int) (w0 w : World) (hB : Below w0.heap.size w0 w) (ho0 : Kd.S (Kd.slice 5 (Kd.int .u8)) 65 w w0.heap.size P0_ u9000_ l0) (h : laws_markByteSS.f k l0 a1 = some r1) :
    Calls Try.prog 94 #[u9000_, .int .i64 a1] w fun e w' => e = .returned (.int .i64 r1) ∧ Below w0.heap.size w0 w' ∧ Kept w w' (fun k_ => P0_ k_) := by
  have hu22 := Try.underlying22
  have HO := Aside0.mk ho0
  have HB := Aside0.mk hB
  obtain ⟨A0, c0, ev⟩ := Kd.S_slice ho0
  subst ev
  have H' := Aside0.mk (show laws_markByteSS.l0 k l0 a1 0 = some r1 from h)
  clear h ho0 hB
  go_enter Try.func94, Try.ntmps94
  go_wp2
  go_loopg [1, 5] k (fun kq v1 v5 w' => ∃ (ys : List (List Int)) (x1 x2 : Int), v1 = .int .i64 x1 ∧ v5 = .int .i64 x2 ∧ Aside0 (laws_markByteSS.l0 kq l0 x1 x2 = some r1) ∧ Aside0 (kq ≤ k) ∧ Aside0 (ys.length = l0.length) ∧ Aside0 (0 ≤ x2 ∧ ∀ j, x2.toNat ≤ j → ys.getD j [] = l0.getD j []) ∧ Aside0 (Kd.S (Kd.slice 5 (Kd.int .u8)) 65 w' w0.heap.size (fun k_ => P0_ k_ ∨ w.heap.size ≤ k_) (.slice A0 l0.length c0) ys) ∧ Aside0 (Below w0.heap.size w0 w') ∧ Aside0 (Kept w w' (fun k_ => P0_ k_)))
  case atStart => exact ⟨l0, a1, 0, rfl, rfl, H', ⟨Nat.le_refl _⟩, ⟨rfl⟩, ⟨⟨Int.le_refl _, fun _ _ => rfl⟩⟩, ⟨Kd.S_mono HO.out (fun k_ hk => .inl hk)⟩, HB, ⟨Kept.refl w _⟩⟩
  case round =>
    clear H' HO HB
    obtain ⟨ys, x1, x2, rfl, rfl, HA, HK1, HL, HX, HO, HB, HK⟩ := hrel
    cases gk with
    | zero => exact absurd HA.out (by simp [laws_markByteSS.l0])
    | succ k1 =>
      have H := HA.out
      clear HA
      simp only [laws_markByteSS.l0] at H
      by_cases c3 : x2 < (l0.length : Int)
      · have p0 : 0 ≤ x2 := HX.out.1
        rw [if_pos c3, if_pos p0] at H
        obtain ⟨⟨t1, t2⟩, ht, H⟩ := Option.bind_eq_some_iff.mp H
        obtain ⟨g, rfl⟩ : ∃ g, A0 = some ⟨g, 0, none⟩ := by
          obtain ⟨g, cap, e, _⟩ := Kd.S_form HO.out (by rw [HL.out]; omega)
          injection e with e1 e2 e3
          exact ⟨g, e1⟩
        obtain ⟨oki, cs, hcl, hM, hcc, hoki, hH⟩ := Kd.S_lend HO.out [] x2 p0 c3
        obtain ⟨v, rfl, hR⟩ := hM
        have hcell : wr.cell? ⟨g, x2.toNat, none⟩ = some v := by
          have := hcc 0 v rfl
          rwa [show (Kd.slice 5 (Kd.int .u8)).sz = 1 from rfl, Nat.mul_one, Nat.add_zero] at this
        have hrow : ys.getD x2.toNat [] = rd_L1 l0 x2 := HX.out.2 _ (Nat.le_refl _)
        rw [hrow] at hR
        obtain ⟨Av, cv, ev⟩ := Kd.R_slice hR
        subst ev
        have HC := Aside0.mk (laws_markByteS.calls k1 oki _ _ x1 t1 t2 w0 wr HB.out hR ht)
        have HH := Aside0.mk hH
        have HI := Aside0.mk hoki
        have HJ := Aside0.mk H
        clear H hR hH hoki hcc hcl hrow ht
        have c3b : decide (x2 < (l0.length : Int)) = true := decide_eq_true c3
        have p1 := eq_true p0
        have q1 := eq_true c3
        have P0 := Aside0.mk p0
        have Q0 := Aside0.mk c3
        clear p0 c3
        go_wp2_with fail
        refine HC.out.mono ?_
        rintro e w' ⟨rfl, hr2, hb', hk'⟩
        have HR2 := Aside0.mk hr2
        have HB2 := Aside0.mk hb'
        have HK2 := Aside0.mk hk'
        clear hr2 hb' hk'
        go_wp2
        have hlt : l0.length ≤ 9223372036854775807 := by have := (Kd.S_reads' HO.out).2.2.2.1; have := HL.out; omega
        have hw : wrap64 (x2 + 1) = x2 + 1 := by have := P0.out; have := Q0.out; unfold wrap64; omega
        go_roundg k1
        case measure => have := HK1.out; omega
        case rel =>
          refine ⟨ys.set x2.toNat t2, t1, wrap64 (x2 + 1), by first | rfl | (simp; done) | (simp [*]; done), by first | rfl | (simp; done) | (simp [*]; done), HJ, ⟨by have := HK1.out; omega⟩, ⟨by rw [List.length_set]; exact HL.out⟩, ⟨by rw [hw]; refine ⟨by have := P0.out; omega, fun j hj => ?_⟩; have := P0.out; rw [List.getD_eq_getElem?_getD, List.getElem?_set_ne (by omega), ← List.getD_eq_getElem?_getD]; exact HX.out.2 j (by omega)⟩, ⟨?_⟩, HB2, ⟨?_⟩⟩
          · refine Kd.H_back (Kd.H_kept (Kd.H_widen HH.out) HK2.out (fun k_ _ hn hs => hn (.inl hs))) (okp := fun k_ => oki k_ ∨ wr.heap.size ≤ k_) ⟨_, rfl, HR2.out⟩ (fun k_ hk => hk.elim .inl (fun h2 => .inr ⟨.inr (Nat.le_trans HK.out.1 h2), h2⟩))
          · exact HK.out.then_ HK2.out (fun k_ hk => (HI.out k_ hk).1)
      · rw [if_neg c3] at H
        obtain rfl := Option.some.inj H
        have c3b : decide (x2 < (l0.length : Int)) = false := decide_eq_false c3
        clear c3 H
        go_wp2
        go_ret
        exact ⟨rfl, HB.out, HK.out⟩

/-! ### laws_markMemory: function 45 (by hand) -/
def laws_markMemory.f (k : Nat) (l0_0 : List (List Int)) (a1 : Int) : Option Int := laws_markByteSS.f k l0_0 a1
theorem laws_markMemory.mono : ∀ a0 a1 k, LeO (laws_markMemory.f k a0 a1) (laws_markMemory.f (k + 1) a0 a1) := laws_markByteSS.mono
set_option maxHeartbeats 8000000 in
set_option maxRecDepth 100000 in
theorem laws_markMemory.calls (k : Nat) (P0_0_ : Nat → Prop) (u9000_ : Value) (l0_0 : List (List Int)) (a1 : Int) (r1 : Int) (w0 w : World) (hB : Below w0.heap.size w0 w) (ho0_0 : Kd.S (Kd.slice 5 (Kd.int .u8)) 65 w w0.heap.size P0_0_ u9000_ l0_0) (h : laws_markMemory.f k l0_0 a1 = some r1) :
    Calls Try.prog 45 #[.agg #[u9000_], .int .i64 a1] w fun e w' => e = .returned (.int .i64 r1) ∧ Below w0.heap.size w0 w' ∧ Kept w w' (fun k_ => P0_0_ k_) := by
  have hu32 := Try.underlying32
  obtain ⟨A0, c0, ev⟩ := Kd.S_slice ho0_0
  subst ev
  have HC := Aside0.mk (fun W1 (hb : Below w.heap.size w W1) => laws_markByteSS.calls k P0_0_ _ l0_0 a1 r1 w0 W1 (hB.trans (hb.mono hB.size)) (Kd.S_below ho0_0 hb) h)
  clear h ho0_0
  have HB := Aside0.mk hB
  clear hB
  go_enter Try.func45, Try.ntmps45
  go_wp2_with (go_at_call 94; refine (HC.out _ ((Below.refl _ w).alloc (Nat.le_refl _) _)).mono ?_; rintro e w' ⟨rfl, hb', hk'⟩)
  go_ret
  exact ⟨rfl, hb', (Kept.alloc (Kept.refl w _) _).then_ hk' (fun k_ hk => .inl hk)⟩

open Go.Proofs.Ytdojnaghcfhadaa.Cp
/-! ### laws_heldByteS: function 47 -/
def laws_heldByteS.l0 : Nat → List Int → Int → Int → Option (Int)
 | 0, _, _, _ => none
 | k + 1, x0, x1, x5 => if x5 < (x0.length : Int) then (if 0 ≤ x5 then (if (rd x0 x5) = ((x1) % 256) then (laws_heldByteS.l0 k x0 (wrap64 (x1 + 1)) (wrap64 (x5 + 1))) else (some (-1))) else (none)) else (some x1)
def laws_heldByteS.f (k : Nat) (l0 : List Int) (a1 : Int) : Option (Int) := laws_heldByteS.l0 k l0 a1 0
theorem laws_heldByteS.mono_l : ∀ k, (∀ y0 y1 y2, LeO (laws_heldByteS.l0 k y0 y1 y2) (laws_heldByteS.l0 (k + 1) y0 y1 y2))
 | 0 => fun _ _ _ r h => by simp [laws_heldByteS.l0] at h
 | k + 1 => by
  have ih0 := laws_heldByteS.mono_l k
  ·intro y0 y1 y2
   unfold laws_heldByteS.l0
   repeat' first
   | (with_reducible exact ih0 _ _ _)
   | (with_reducible exact LeO.refl _)
   | (with_reducible exact LeO.none _)
   | (with_reducible refine LeO.ite ?_ ?_)
   | (with_reducible refine LeO.bind ?_ (fun _ => ?_))
   | exact ih0 _ _ _
   | exact LeO.none _
   | refine LeO.ite ?_ ?_
   | refine LeO.bind ?_ (fun _ => ?_)
theorem laws_heldByteS.mono : ∀ a0 a1 k, LeO (laws_heldByteS.f k a0 a1) (laws_heldByteS.f (k + 1) a0 a1) := by
 intro a0 a1 k
 have ih0 := laws_heldByteS.mono_l k
 unfold laws_heldByteS.f
 repeat' first
   | (with_reducible exact ih0 _ _ _)
   | (with_reducible exact LeO.refl _)
   | (with_reducible exact LeO.none _)
   | (with_reducible refine LeO.ite ?_ ?_)
   | (with_reducible refine LeO.bind ?_ (fun _ => ?_))
   | exact ih0 _ _ _
   | exact LeO.none _
   | refine LeO.ite ?_ ?_
   | refine LeO.bind ?_ (fun _ => ?_)
set_option maxHeartbeats 8000000 in
set_option maxRecDepth 100000 in
theorem laws_heldByteS.calls (k : Nat) (A0 : Option Addr) (c0 : Nat) (l0 : List Int) (a1 : Int) (r : Int) (w : World) (hr0 : Kd.C (Kd.int .u8) w A0 l0.length l0) (hc0 : l0.length ≤ c0) (h : laws_heldByteS.f k l0 a1 = some r) :
  Calls Try.prog 47 #[.slice A0 l0.length c0, .int .i64 a1] w fun e w' => e = .returned (.int .i64 r) ∧ Drawn0 w w' := by
 have HR0 := Aside0.mk hr0
 have HC0 := Aside0.mk hc0
 clear hr0 hc0
 have H : (laws_heldByteS.l0 k l0 a1 0) = some r := h
 clear h
 have H' := Aside0.mk H
 clear H
 go_enter Try.func47, Try.ntmps47
 go_wp2
 go_loopg [1, 5] k (fun kq v1 v5 w' => ∃ (x1_1 : Int) (x5_1 : Int), v1 = .int .i64 x1_1 ∧ v5 = .int .i64 x5_1 ∧ Aside0 (laws_heldByteS.l0 kq l0 x1_1 x5_1 = some r) ∧ Aside0 (kq ≤ k) ∧ Drawn0 w w')
 case atStart => exact ⟨(a1), (0), (by first | rfl | (simp; done) | (simp [*]; done)), (by first | rfl | (simp; done) | (simp [*]; done)), H', ⟨Nat.le_refl _⟩, by repeat (first | exact Drawn0.refl _ | apply Drawn0.step)⟩
 case round =>
  clear H'
  try clear p2
  obtain ⟨x1_1, x5_1, rfl, rfl, HA, HK1, ⟨m1, rfl⟩⟩ := hrel
  cases gk with
  | zero => exact absurd HA.out (by simp [laws_heldByteS.l0])
  | succ k1 =>
   have H := HA.out
   clear HA
   simp only [laws_heldByteS.l0] at H
   by_cases c3 : x5_1 < (l0.length : Int)
   ·rw [if_pos c3] at H
    have c3b0 : decide (x5_1 < (l0.length : Int)) = true := decide_eq_true c3
    clear c3
    by_cases c4 : 0 ≤ x5_1
    ·rw [if_pos c4] at H
     have c4b0 : decide (0 ≤ x5_1) = true := decide_eq_true c4
     clear c4
     by_cases c5 : (rd l0 x5_1) = ((x1_1) % 256)
     ·rw [if_pos c5] at H
      have c5b0 : ((rd l0 x5_1) == ((x1_1) % 256)) = true := beq_iff_eq.mpr c5
      have c5b1 : ((rd l0 x5_1) != ((x1_1) % 256)) = false := bne_eq_false_iff_eq.mpr c5
      clear c5
      have H' := Aside0.mk H
      clear H
      have p232 : 0 ≤ (x5_1 : Int) := of_decide_eq_true (by first | (with_reducible assumption) | assumption)
      have q232 : x5_1 < (l0.length : Int) := of_decide_eq_true (by first | (with_reducible assumption) | assumption)
      obtain ⟨ad232, e232, hx232_0⟩ := Kd.at_int HR0.out x5_1 p232 q232
      cases e232
      replace p232 := eq_true p232
      replace q232 := eq_true q232
      go_wp2
      go_roundg k1
      case measure => have := HK1.out; omega
      case rel => exact ⟨(wrap64 (x1_1 + 1)), (wrap64 (x5_1 + 1)), (by first | rfl | (simp; done) | (simp [*]; done)), (by first | rfl | (simp; done) | (simp [*]; done)), H', ⟨by have := HK1.out; omega⟩, by repeat (first | exact Drawn0.refl _ | apply Drawn0.step)⟩
     ·rw [if_neg c5] at H
      have c5b0 : ((rd l0 x5_1) == ((x1_1) % 256)) = false := beq_eq_false_iff_ne.mpr c5
      have c5b1 : ((rd l0 x5_1) != ((x1_1) % 256)) = true := bne_iff_ne.mpr c5
      obtain rfl := Option.some.inj H
      have p232 : 0 ≤ (x5_1 : Int) := of_decide_eq_true (by first | (with_reducible assumption) | assumption)
      have q232 : x5_1 < (l0.length : Int) := of_decide_eq_true (by first | (with_reducible assumption) | assumption)
      obtain ⟨ad232, e232, hx232_0⟩ := Kd.at_int HR0.out x5_1 p232 q232
      cases e232
      replace p232 := eq_true p232
      replace q232 := eq_true q232
      go_wp2
      go_ret
      exact ⟨by first | rfl | (simp; done) | (simp [*]; done), by repeat (first | exact Drawn0.refl _ | apply Drawn0.step)⟩
    ·rw [if_neg c4] at H
     exact absurd H (by simp)
   ·rw [if_neg c3] at H
    have c3b0 : decide (x5_1 < (l0.length : Int)) = false := decide_eq_false c3
    clear c3
    obtain rfl := Option.some.inj H
    go_wp2
    go_ret
    exact ⟨by first | rfl | (simp; done) | (simp [*]; done), by repeat (first | exact Drawn0.refl _ | apply Drawn0.step)⟩

open Go.Proofs.Ytdojnaghcfhadaa.Cp
/-! ### laws_FnExactRingBytes: function 11 -/
def laws_FnExactRingBytes.f (k : Nat) (l0_0 : List (List Int)) (a1_0 : Int) (a1_1 : Int) (a1_2 : Int) (a1_3 : Int) (a1_4 : Int) (a1_5 : Int) : Option (Bool) := (laws_szMemory.f k l0_0 1048576).bind fun t235 => (if t235 < 0 then (some true) else ((laws_toMemory.f k l0_0).bind fun t236 => ((laws_toRing.f a1_0 a1_1 a1_2 a1_3 a1_4 a1_5).bind fun bt239 => ((spec_RingBytes.f k t236 bt239.1 bt239.2.1 bt239.2.2.1 bt239.2.2.2.1 bt239.2.2.2.2.1 bt239.2.2.2.2.2).bind fun bt245 => ((laws_toMemory.f k l0_0).bind fun t249 => ((laws_toRing.f a1_0 a1_1 a1_2 a1_3 a1_4 a1_5).bind fun bt253 => ((impl_RingBytes.f k t249 bt253.1 bt253.2.1 bt253.2.2.1 bt253.2.2.2.1 bt253.2.2.2.2.1 bt253.2.2.2.2.2).bind fun bt259 => ((laws_eqByteS.f k bt259.1 bt245.1).bind fun t263 => (if t263 = true then (if (bt259.2 != bt245.2) = true then (none) else ((laws_toMemory.f k l0_0).bind fun t264 => ((laws_eqMemory.f k t249 t264).bind fun t267 => (if t267 = true then ((laws_markMemory.f k t249 1).bind fun t268 => (if t268 < 0 then (none) else ((laws_eqByteS.f k bt259.1 bt245.1).bind fun t269 => (if t269 = true then ((laws_markByteS.f k bt259.1 1).bind fun bt270 => ((laws_heldByteS.f k bt270.2 1).bind fun t272 => (if t272 < 0 then (none) else (if t272 = bt270.1 then ((laws_toMemory.f k l0_0).bind fun t273 => ((laws_toRing.f a1_0 a1_1 a1_2 a1_3 a1_4 a1_5).bind fun bt276 => ((impl_RingBytes.f k t273 bt276.1 bt276.2.1 bt276.2.2.1 bt276.2.2.2.1 bt276.2.2.2.2.1 bt276.2.2.2.2.2).bind fun bt282 => ((laws_eqByteS.f k bt282.1 bt245.1).bind fun t286 => (if t286 = true then (if (bt282.2 != bt245.2) = true then (none) else ((laws_heldByteS.f k bt270.2 1).bind fun t287 => (if t287 < 0 then (none) else (if t287 = bt270.1 then (some true) else (none))))) else (none)))))) else (none))))) else (none))))) else (none))))) else (none))))))))))
theorem laws_FnExactRingBytes.mono : ∀ a0 a1 a2 a3 a4 a5 a6 k, LeO (laws_FnExactRingBytes.f k a0 a1 a2 a3 a4 a5 a6) (laws_FnExactRingBytes.f (k + 1) a0 a1 a2 a3 a4 a5 a6) := by
 intro a0 a1 a2 a3 a4 a5 a6 k
 unfold laws_FnExactRingBytes.f
 repeat' first
   | (with_reducible exact impl_RingBytes.mono _ _ _ _ _ _ _ _)
   | (with_reducible exact laws_eqByteS.mono _ _ _)
   | (with_reducible exact laws_eqMemory.mono _ _ _)
   | (with_reducible exact laws_heldByteS.mono _ _ _)
   | (with_reducible exact laws_markByteS.mono _ _ _)
   | (with_reducible exact laws_markMemory.mono _ _ _)
   | (with_reducible exact laws_szMemory.mono _ _ _)
   | (with_reducible exact laws_toMemory.mono _ _)
   | (with_reducible exact spec_RingBytes.mono _ _ _ _ _ _ _ _)
   | (with_reducible exact LeO.refl _)
   | (with_reducible exact LeO.none _)
   | (with_reducible refine LeO.ite ?_ ?_)
   | (with_reducible refine LeO.bind ?_ (fun _ => ?_))
   | exact impl_RingBytes.mono _ _ _ _ _ _ _ _
   | exact laws_eqByteS.mono _ _ _
   | exact laws_eqMemory.mono _ _ _
   | exact laws_heldByteS.mono _ _ _
   | exact laws_markByteS.mono _ _ _
   | exact laws_markMemory.mono _ _ _
   | exact laws_szMemory.mono _ _ _
   | exact laws_toMemory.mono _ _
   | exact spec_RingBytes.mono _ _ _ _ _ _ _ _
   | exact LeO.none _
   | refine LeO.ite ?_ ?_
   | refine LeO.bind ?_ (fun _ => ?_)
def laws_FnExactRingBytes.T5 : Bool × List (List Nat × List Nat) := (true, [([], []), ([0], [0]), ([], []), ([2, 1], [2]), ([1, 3, 3], [1, 3]), ([4], [4]), ([5], [5]), ([5], [5]), ([6, 4, 0, 1, 2, 3, 4, 5, 6], [6]), ([7, 8, 0, 1, 2, 3, 4, 5, 6, 7, 8], [7])])
def laws_FnExactRingBytes.B5 : List Nat := [0, 1, 0, 7, 15, 31, 63, 63, 127, 511]
theorem laws_FnExactRingBytes.tab5 : rtab .any (opsOf Try.f11 5) = laws_FnExactRingBytes.T5 := by kernel_rfl
theorem laws_FnExactRingBytes.bits5 : waitsOk laws_FnExactRingBytes.T5.2 laws_FnExactRingBytes.B5 = true := by kernel_rfl
def laws_FnExactRingBytes.T7 : Bool × List (List Nat × List Nat) := (true, [([], []), ([], []), ([1], [1]), ([0, 2, 2], [0, 2]), ([3], [3]), ([4], [4]), ([4], [4]), ([5, 3, 0, 1, 2, 3, 4, 5], [5]), ([6, 7, 0, 1, 2, 3, 4, 5, 6, 7], [6])])
def laws_FnExactRingBytes.B7 : List Nat := [0, 0, 2, 7, 15, 31, 31, 63, 255]
theorem laws_FnExactRingBytes.tab7 : rtab .any (opsOf Try.f11 7) = laws_FnExactRingBytes.T7 := by kernel_rfl
theorem laws_FnExactRingBytes.bits7 : waitsOk laws_FnExactRingBytes.T7.2 laws_FnExactRingBytes.B7 = true := by kernel_rfl
def laws_FnExactRingBytes.T24 : Bool × List (List Nat × List Nat) := (true, [([], []), ([0], [0]), ([], []), ([2, 1], [2]), ([1, 3, 3], [1, 3]), ([4], [4]), ([5], [5]), ([5], [5]), ([6, 4, 0, 1, 2, 3, 4, 5, 6], [6]), ([7, 8, 0, 1, 2, 3, 4, 5, 6, 7, 8], [7])])
def laws_FnExactRingBytes.B24 : List Nat := [0, 1, 0, 7, 15, 31, 63, 63, 127, 511]
theorem laws_FnExactRingBytes.tab24 : rtab .any (opsOf Try.f11 24) = laws_FnExactRingBytes.T24 := by kernel_rfl
theorem laws_FnExactRingBytes.bits24 : waitsOk laws_FnExactRingBytes.T24.2 laws_FnExactRingBytes.B24 = true := by kernel_rfl
set_option maxHeartbeats 8000000 in
set_option maxRecDepth 100000 in
theorem laws_FnExactRingBytes.calls (k : Nat) (A0_0 : Option Addr) (c0_0 : Nat) (l0_0 : List (List Int)) (a1_0 : Int) (a1_1 : Int) (a1_2 : Int) (a1_3 : Int) (a1_4 : Int) (a1_5 : Int) (r : Bool) (w : World) (hr0_0 : Kd.C (Kd.slice 5 (Kd.int .u8)) w A0_0 l0_0.length l0_0) (hc0_0 : l0_0.length ≤ c0_0) (h : laws_FnExactRingBytes.f k l0_0 a1_0 a1_1 a1_2 a1_3 a1_4 a1_5 = some r) :
  Calls Try.prog 11 #[.agg #[.slice A0_0 l0_0.length c0_0], .agg #[.int .i64 a1_0, .int .i64 a1_1, .int .i64 a1_2, .int .i64 a1_3, .int .i64 a1_4, .int .i64 a1_5]] w fun e w' => e = .returned (.bool r) ∧ Below w.heap.size w w' := by
 have hu24 := Try.underlying24
 have hu28 := Try.underlying28
 have hu32 := Try.underlying32
 have HR0_0 := Aside0.mk hr0_0
 have HC0_0 := Aside0.mk hc0_0
 clear hr0_0 hc0_0
 have HB := Aside0.mk (Below.refl w.heap.size w)
 have H : ((laws_szMemory.f k l0_0 1048576).bind fun t235 => (if t235 < 0 then (some true) else ((laws_toMemory.f k l0_0).bind fun t236 => ((laws_toRing.f a1_0 a1_1 a1_2 a1_3 a1_4 a1_5).bind fun bt239 => ((spec_RingBytes.f k t236 bt239.1 bt239.2.1 bt239.2.2.1 bt239.2.2.2.1 bt239.2.2.2.2.1 bt239.2.2.2.2.2).bind fun bt245 => ((laws_toMemory.f k l0_0).bind fun t249 => ((laws_toRing.f a1_0 a1_1 a1_2 a1_3 a1_4 a1_5).bind fun bt253 => ((impl_RingBytes.f k t249 bt253.1 bt253.2.1 bt253.2.2.1 bt253.2.2.2.1 bt253.2.2.2.2.1 bt253.2.2.2.2.2).bind fun bt259 => ((laws_eqByteS.f k bt259.1 bt245.1).bind fun t263 => (if t263 = true then (if (bt259.2 != bt245.2) = true then (none) else ((laws_toMemory.f k l0_0).bind fun t264 => ((laws_eqMemory.f k t249 t264).bind fun t267 => (if t267 = true then ((laws_markMemory.f k t249 1).bind fun t268 => (if t268 < 0 then (none) else ((laws_eqByteS.f k bt259.1 bt245.1).bind fun t269 => (if t269 = true then ((laws_markByteS.f k bt259.1 1).bind fun bt270 => ((laws_heldByteS.f k bt270.2 1).bind fun t272 => (if t272 < 0 then (none) else (if t272 = bt270.1 then ((laws_toMemory.f k l0_0).bind fun t273 => ((laws_toRing.f a1_0 a1_1 a1_2 a1_3 a1_4 a1_5).bind fun bt276 => ((impl_RingBytes.f k t273 bt276.1 bt276.2.1 bt276.2.2.1 bt276.2.2.2.1 bt276.2.2.2.2.1 bt276.2.2.2.2.2).bind fun bt282 => ((laws_eqByteS.f k bt282.1 bt245.1).bind fun t286 => (if t286 = true then (if (bt282.2 != bt245.2) = true then (none) else ((laws_heldByteS.f k bt270.2 1).bind fun t287 => (if t287 < 0 then (none) else (if t287 = bt270.1 then (some true) else (none))))) else (none)))))) else (none))))) else (none))))) else (none))))) else (none))))))))))) = some r := h
 clear h
 replace H := Option.bind_eq_some_iff.mp H
 obtain ⟨t235, A30, H⟩ := H
 replace H : (if t235 < 0 then (some true) else ((laws_toMemory.f k l0_0).bind fun t236 => ((laws_toRing.f a1_0 a1_1 a1_2 a1_3 a1_4 a1_5).bind fun bt239 => ((spec_RingBytes.f k t236 bt239.1 bt239.2.1 bt239.2.2.1 bt239.2.2.2.1 bt239.2.2.2.2.1 bt239.2.2.2.2.2).bind fun bt245 => ((laws_toMemory.f k l0_0).bind fun t249 => ((laws_toRing.f a1_0 a1_1 a1_2 a1_3 a1_4 a1_5).bind fun bt253 => ((impl_RingBytes.f k t249 bt253.1 bt253.2.1 bt253.2.2.1 bt253.2.2.2.1 bt253.2.2.2.2.1 bt253.2.2.2.2.2).bind fun bt259 => ((laws_eqByteS.f k bt259.1 bt245.1).bind fun t263 => (if t263 = true then (if (bt259.2 != bt245.2) = true then (none) else ((laws_toMemory.f k l0_0).bind fun t264 => ((laws_eqMemory.f k t249 t264).bind fun t267 => (if t267 = true then ((laws_markMemory.f k t249 1).bind fun t268 => (if t268 < 0 then (none) else ((laws_eqByteS.f k bt259.1 bt245.1).bind fun t269 => (if t269 = true then ((laws_markByteS.f k bt259.1 1).bind fun bt270 => ((laws_heldByteS.f k bt270.2 1).bind fun t272 => (if t272 < 0 then (none) else (if t272 = bt270.1 then ((laws_toMemory.f k l0_0).bind fun t273 => ((laws_toRing.f a1_0 a1_1 a1_2 a1_3 a1_4 a1_5).bind fun bt276 => ((impl_RingBytes.f k t273 bt276.1 bt276.2.1 bt276.2.2.1 bt276.2.2.2.1 bt276.2.2.2.2.1 bt276.2.2.2.2.2).bind fun bt282 => ((laws_eqByteS.f k bt282.1 bt245.1).bind fun t286 => (if t286 = true then (if (bt282.2 != bt245.2) = true then (none) else ((laws_heldByteS.f k bt270.2 1).bind fun t287 => (if t287 < 0 then (none) else (if t287 = bt270.1 then (some true) else (none))))) else (none)))))) else (none))))) else (none))))) else (none))))) else (none)))))))))) = some r := H
 have A3 := Aside0.mk A30
 clear A30
 by_cases c4 : t235 < 0
 ·rw [if_pos c4] at H
  have c4b0 : decide (t235 < 0) = true := decide_eq_true c4
  clear c4
  obtain rfl := Option.some.inj H
  go_enter Try.func11, Try.ntmps11
  go_wp2_with (first | ((with_reducible refine gate_dst (N := 2) rfl ?_); refine box_event ?hg (N := 2) ?hd (cs := #[.slice A0_0 l0_0.length c0_0]) (t := 24) ?hr ?_; (case hd => rfl); (case hg => rfl); (case hr => first | (go_simp; done) | (go_simp; rfl)); intro gb233 hg w5 hbox hb; have n0_ := zhs HB hb; have n1_ := Aside0.mk (hbox); have n2_ := zge HB hg; have n3_ := zge HB hg; clear HB; have HB := n0_; have BK233 := n1_; have GW233 := n2_; have GE233 := n3_; clear n0_ n1_ n2_ n3_; clear hb hbox hg) | ((with_reducible refine gate_dst (N := 3) rfl ?_); refine box_event ?hg (N := 3) ?hd (cs := #[.int .i64 a1_0, .int .i64 a1_1, .int .i64 a1_2, .int .i64 a1_3, .int .i64 a1_4, .int .i64 a1_5]) (t := 28) ?hr ?_; (case hd => rfl); (case hg => rfl); (case hr => first | (go_simp; done) | (go_simp; rfl)); intro gb234 hg w6 hbox hb; have n0_ := zb0 BK233 hb; have n1_ := zhs HB hb; have n2_ := Aside0.mk (hbox); have n3_ := zge HB hg; have n4_ := zge HB hg; have n5_ := znl BK233 hg; have n6_ := znr BK233 hg; clear BK233; clear HB; have BK233 := n0_; have HB := n1_; have BK234 := n2_; have GW234 := n3_; have GE234 := n4_; have NB233_234 := n5_; have NB234_233 := n6_; clear n0_ n1_ n2_ n3_ n4_ n5_ n6_; clear hb hbox hg; have hnb7 := NB233_234.out; have hnc7 := NB234_233.out; have hcz8_0 : w6.cell? ⟨gb233, 0, none⟩ = some (.slice A0_0 l0_0.length c0_0) := zc0 BK233 0 rfl; have hfz8_0 := blk_frozen BK233.out 0) | ((with_reducible refine gate_callee (f := 14) rfl ?_); refine goesL_ (some 18) rfl rfl Try.func14 (by kernel_rfl) rfl #[.agg #[.slice A0_0 l0_0.length c0_0], .int .i64 1048576] rfl (by (try simp only [List.map_toArray, List.map_cons, List.map_nil]); first | done | rfl | (simp only [List.length_drop, List.length_take]; rfl)) ?_; (with_reducible refine (laws_szMemory.calls k _ _ l0_0 1048576 t235 _ ?side1 ?side2 A3.out).mono ?_); (case side1 => repeat (first | exact (Kd.C_below HR0_0.out HB.out) | (with_reducible refine Kd.C_alloc ?_ _) | (with_reducible refine Kd.C_drewN ?_ _) | (with_reducible refine Kd.C_drew ?_))); (case side2 => exact HC0_0.out); rintro e w9 ⟨rfl, hb⟩; refine ⟨_, rfl, ?_⟩; have n0_ := zb0 BK233 hb; have n1_ := zb0 BK234 hb; have n2_ := zhs HB hb; clear BK233; clear BK234; clear HB; have BK233 := n0_; have BK234 := n1_; have HB := n2_; clear n0_ n1_ n2_; (try clear hb); (try clear hb2); (try clear hk); (try clear hi)))
  go_ret
  exact ⟨by first | rfl | (simp [errW_none, errW_some] <;> rfl) | (simp [*, errW_none, errW_some] <;> rfl), by repeat (first | (with_reducible first | exact HB.out | apply below_alloc | apply pw_below_drewN | apply below_drew1 | refine below_set ?_ GE233.out | refine below_set ?_ GE234.out) | exact HB.out)⟩
 ·rw [if_neg c4] at H
  have c4b0 : decide (t235 < 0) = false := decide_eq_false c4
  clear c4
  replace H := Option.bind_eq_some_iff.mp H
  obtain ⟨t236, A100, H⟩ := H
  replace H : ((laws_toRing.f a1_0 a1_1 a1_2 a1_3 a1_4 a1_5).bind fun bt239 => ((spec_RingBytes.f k t236 bt239.1 bt239.2.1 bt239.2.2.1 bt239.2.2.2.1 bt239.2.2.2.2.1 bt239.2.2.2.2.2).bind fun bt245 => ((laws_toMemory.f k l0_0).bind fun t249 => ((laws_toRing.f a1_0 a1_1 a1_2 a1_3 a1_4 a1_5).bind fun bt253 => ((impl_RingBytes.f k t249 bt253.1 bt253.2.1 bt253.2.2.1 bt253.2.2.2.1 bt253.2.2.2.2.1 bt253.2.2.2.2.2).bind fun bt259 => ((laws_eqByteS.f k bt259.1 bt245.1).bind fun t263 => (if t263 = true then (if (bt259.2 != bt245.2) = true then (none) else ((laws_toMemory.f k l0_0).bind fun t264 => ((laws_eqMemory.f k t249 t264).bind fun t267 => (if t267 = true then ((laws_markMemory.f k t249 1).bind fun t268 => (if t268 < 0 then (none) else ((laws_eqByteS.f k bt259.1 bt245.1).bind fun t269 => (if t269 = true then ((laws_markByteS.f k bt259.1 1).bind fun bt270 => ((laws_heldByteS.f k bt270.2 1).bind fun t272 => (if t272 < 0 then (none) else (if t272 = bt270.1 then ((laws_toMemory.f k l0_0).bind fun t273 => ((laws_toRing.f a1_0 a1_1 a1_2 a1_3 a1_4 a1_5).bind fun bt276 => ((impl_RingBytes.f k t273 bt276.1 bt276.2.1 bt276.2.2.1 bt276.2.2.2.1 bt276.2.2.2.2.1 bt276.2.2.2.2.2).bind fun bt282 => ((laws_eqByteS.f k bt282.1 bt245.1).bind fun t286 => (if t286 = true then (if (bt282.2 != bt245.2) = true then (none) else ((laws_heldByteS.f k bt270.2 1).bind fun t287 => (if t287 < 0 then (none) else (if t287 = bt270.1 then (some true) else (none))))) else (none)))))) else (none))))) else (none))))) else (none))))) else (none)))))))) = some r := H
  have A10 := Aside0.mk A100
  clear A100
  replace H := Option.bind_eq_some_iff.mp H
  obtain ⟨⟨t239, t240, t241, t242, t243, t244⟩, A110, H⟩ := H
  replace H : ((spec_RingBytes.f k t236 t239 t240 t241 t242 t243 t244).bind fun bt245 => ((laws_toMemory.f k l0_0).bind fun t249 => ((laws_toRing.f a1_0 a1_1 a1_2 a1_3 a1_4 a1_5).bind fun bt253 => ((impl_RingBytes.f k t249 bt253.1 bt253.2.1 bt253.2.2.1 bt253.2.2.2.1 bt253.2.2.2.2.1 bt253.2.2.2.2.2).bind fun bt259 => ((laws_eqByteS.f k bt259.1 bt245.1).bind fun t263 => (if t263 = true then (if (bt259.2 != bt245.2) = true then (none) else ((laws_toMemory.f k l0_0).bind fun t264 => ((laws_eqMemory.f k t249 t264).bind fun t267 => (if t267 = true then ((laws_markMemory.f k t249 1).bind fun t268 => (if t268 < 0 then (none) else ((laws_eqByteS.f k bt259.1 bt245.1).bind fun t269 => (if t269 = true then ((laws_markByteS.f k bt259.1 1).bind fun bt270 => ((laws_heldByteS.f k bt270.2 1).bind fun t272 => (if t272 < 0 then (none) else (if t272 = bt270.1 then ((laws_toMemory.f k l0_0).bind fun t273 => ((laws_toRing.f a1_0 a1_1 a1_2 a1_3 a1_4 a1_5).bind fun bt276 => ((impl_RingBytes.f k t273 bt276.1 bt276.2.1 bt276.2.2.1 bt276.2.2.2.1 bt276.2.2.2.2.1 bt276.2.2.2.2.2).bind fun bt282 => ((laws_eqByteS.f k bt282.1 bt245.1).bind fun t286 => (if t286 = true then (if (bt282.2 != bt245.2) = true then (none) else ((laws_heldByteS.f k bt270.2 1).bind fun t287 => (if t287 < 0 then (none) else (if t287 = bt270.1 then (some true) else (none))))) else (none)))))) else (none))))) else (none))))) else (none))))) else (none))))))) = some r := H
  have A11 := Aside0.mk A110
  clear A110
  replace H := Option.bind_eq_some_iff.mp H
  obtain ⟨⟨t245, t248⟩, A120, H⟩ := H
  replace H : ((laws_toMemory.f k l0_0).bind fun t249 => ((laws_toRing.f a1_0 a1_1 a1_2 a1_3 a1_4 a1_5).bind fun bt253 => ((impl_RingBytes.f k t249 bt253.1 bt253.2.1 bt253.2.2.1 bt253.2.2.2.1 bt253.2.2.2.2.1 bt253.2.2.2.2.2).bind fun bt259 => ((laws_eqByteS.f k bt259.1 t245).bind fun t263 => (if t263 = true then (if (bt259.2 != t248) = true then (none) else ((laws_toMemory.f k l0_0).bind fun t264 => ((laws_eqMemory.f k t249 t264).bind fun t267 => (if t267 = true then ((laws_markMemory.f k t249 1).bind fun t268 => (if t268 < 0 then (none) else ((laws_eqByteS.f k bt259.1 t245).bind fun t269 => (if t269 = true then ((laws_markByteS.f k bt259.1 1).bind fun bt270 => ((laws_heldByteS.f k bt270.2 1).bind fun t272 => (if t272 < 0 then (none) else (if t272 = bt270.1 then ((laws_toMemory.f k l0_0).bind fun t273 => ((laws_toRing.f a1_0 a1_1 a1_2 a1_3 a1_4 a1_5).bind fun bt276 => ((impl_RingBytes.f k t273 bt276.1 bt276.2.1 bt276.2.2.1 bt276.2.2.2.1 bt276.2.2.2.2.1 bt276.2.2.2.2.2).bind fun bt282 => ((laws_eqByteS.f k bt282.1 t245).bind fun t286 => (if t286 = true then (if (bt282.2 != t248) = true then (none) else ((laws_heldByteS.f k bt270.2 1).bind fun t287 => (if t287 < 0 then (none) else (if t287 = bt270.1 then (some true) else (none))))) else (none)))))) else (none))))) else (none))))) else (none))))) else (none)))))) = some r := H
  have A12 := Aside0.mk A120
  clear A120
  replace H := Option.bind_eq_some_iff.mp H
  obtain ⟨t249, A130, H⟩ := H
  replace H : ((laws_toRing.f a1_0 a1_1 a1_2 a1_3 a1_4 a1_5).bind fun bt253 => ((impl_RingBytes.f k t249 bt253.1 bt253.2.1 bt253.2.2.1 bt253.2.2.2.1 bt253.2.2.2.2.1 bt253.2.2.2.2.2).bind fun bt259 => ((laws_eqByteS.f k bt259.1 t245).bind fun t263 => (if t263 = true then (if (bt259.2 != t248) = true then (none) else ((laws_toMemory.f k l0_0).bind fun t264 => ((laws_eqMemory.f k t249 t264).bind fun t267 => (if t267 = true then ((laws_markMemory.f k t249 1).bind fun t268 => (if t268 < 0 then (none) else ((laws_eqByteS.f k bt259.1 t245).bind fun t269 => (if t269 = true then ((laws_markByteS.f k bt259.1 1).bind fun bt270 => ((laws_heldByteS.f k bt270.2 1).bind fun t272 => (if t272 < 0 then (none) else (if t272 = bt270.1 then ((laws_toMemory.f k l0_0).bind fun t273 => ((laws_toRing.f a1_0 a1_1 a1_2 a1_3 a1_4 a1_5).bind fun bt276 => ((impl_RingBytes.f k t273 bt276.1 bt276.2.1 bt276.2.2.1 bt276.2.2.2.1 bt276.2.2.2.2.1 bt276.2.2.2.2.2).bind fun bt282 => ((laws_eqByteS.f k bt282.1 t245).bind fun t286 => (if t286 = true then (if (bt282.2 != t248) = true then (none) else ((laws_heldByteS.f k bt270.2 1).bind fun t287 => (if t287 < 0 then (none) else (if t287 = bt270.1 then (some true) else (none))))) else (none)))))) else (none))))) else (none))))) else (none))))) else (none))))) = some r := H
  have A13 := Aside0.mk A130
  clear A130
  replace H := Option.bind_eq_some_iff.mp H
  obtain ⟨⟨t253, t254, t255, t256, t257, t258⟩, A140, H⟩ := H
  replace H : ((impl_RingBytes.f k t249 t253 t254 t255 t256 t257 t258).bind fun bt259 => ((laws_eqByteS.f k bt259.1 t245).bind fun t263 => (if t263 = true then (if (bt259.2 != t248) = true then (none) else ((laws_toMemory.f k l0_0).bind fun t264 => ((laws_eqMemory.f k t249 t264).bind fun t267 => (if t267 = true then ((laws_markMemory.f k t249 1).bind fun t268 => (if t268 < 0 then (none) else ((laws_eqByteS.f k bt259.1 t245).bind fun t269 => (if t269 = true then ((laws_markByteS.f k bt259.1 1).bind fun bt270 => ((laws_heldByteS.f k bt270.2 1).bind fun t272 => (if t272 < 0 then (none) else (if t272 = bt270.1 then ((laws_toMemory.f k l0_0).bind fun t273 => ((laws_toRing.f a1_0 a1_1 a1_2 a1_3 a1_4 a1_5).bind fun bt276 => ((impl_RingBytes.f k t273 bt276.1 bt276.2.1 bt276.2.2.1 bt276.2.2.2.1 bt276.2.2.2.2.1 bt276.2.2.2.2.2).bind fun bt282 => ((laws_eqByteS.f k bt282.1 t245).bind fun t286 => (if t286 = true then (if (bt282.2 != t248) = true then (none) else ((laws_heldByteS.f k bt270.2 1).bind fun t287 => (if t287 < 0 then (none) else (if t287 = bt270.1 then (some true) else (none))))) else (none)))))) else (none))))) else (none))))) else (none))))) else (none)))) = some r := H
  have A14 := Aside0.mk A140
  clear A140
  replace H := Option.bind_eq_some_iff.mp H
  obtain ⟨⟨t259, t262⟩, A150, H⟩ := H
  replace H : ((laws_eqByteS.f k t259 t245).bind fun t263 => (if t263 = true then (if (t262 != t248) = true then (none) else ((laws_toMemory.f k l0_0).bind fun t264 => ((laws_eqMemory.f k t249 t264).bind fun t267 => (if t267 = true then ((laws_markMemory.f k t249 1).bind fun t268 => (if t268 < 0 then (none) else ((laws_eqByteS.f k t259 t245).bind fun t269 => (if t269 = true then ((laws_markByteS.f k t259 1).bind fun bt270 => ((laws_heldByteS.f k bt270.2 1).bind fun t272 => (if t272 < 0 then (none) else (if t272 = bt270.1 then ((laws_toMemory.f k l0_0).bind fun t273 => ((laws_toRing.f a1_0 a1_1 a1_2 a1_3 a1_4 a1_5).bind fun bt276 => ((impl_RingBytes.f k t273 bt276.1 bt276.2.1 bt276.2.2.1 bt276.2.2.2.1 bt276.2.2.2.2.1 bt276.2.2.2.2.2).bind fun bt282 => ((laws_eqByteS.f k bt282.1 t245).bind fun t286 => (if t286 = true then (if (bt282.2 != t248) = true then (none) else ((laws_heldByteS.f k bt270.2 1).bind fun t287 => (if t287 < 0 then (none) else (if t287 = bt270.1 then (some true) else (none))))) else (none)))))) else (none))))) else (none))))) else (none))))) else (none))) = some r := H
  have A15 := Aside0.mk A150
  clear A150
  replace H := Option.bind_eq_some_iff.mp H
  obtain ⟨t263, A160, H⟩ := H
  replace H : (if t263 = true then (if (t262 != t248) = true then (none) else ((laws_toMemory.f k l0_0).bind fun t264 => ((laws_eqMemory.f k t249 t264).bind fun t267 => (if t267 = true then ((laws_markMemory.f k t249 1).bind fun t268 => (if t268 < 0 then (none) else ((laws_eqByteS.f k t259 t245).bind fun t269 => (if t269 = true then ((laws_markByteS.f k t259 1).bind fun bt270 => ((laws_heldByteS.f k bt270.2 1).bind fun t272 => (if t272 < 0 then (none) else (if t272 = bt270.1 then ((laws_toMemory.f k l0_0).bind fun t273 => ((laws_toRing.f a1_0 a1_1 a1_2 a1_3 a1_4 a1_5).bind fun bt276 => ((impl_RingBytes.f k t273 bt276.1 bt276.2.1 bt276.2.2.1 bt276.2.2.2.1 bt276.2.2.2.2.1 bt276.2.2.2.2.2).bind fun bt282 => ((laws_eqByteS.f k bt282.1 t245).bind fun t286 => (if t286 = true then (if (bt282.2 != t248) = true then (none) else ((laws_heldByteS.f k bt270.2 1).bind fun t287 => (if t287 < 0 then (none) else (if t287 = bt270.1 then (some true) else (none))))) else (none)))))) else (none))))) else (none))))) else (none))))) else (none)) = some r := H
  have A16 := Aside0.mk A160
  clear A160
  by_cases c17 : t263 = true
  ·subst c17
   have H1 : (if (t262 != t248) = true then (none) else ((laws_toMemory.f k l0_0).bind fun t264 => ((laws_eqMemory.f k t249 t264).bind fun t267 => (if t267 = true then ((laws_markMemory.f k t249 1).bind fun t268 => (if t268 < 0 then (none) else ((laws_eqByteS.f k t259 t245).bind fun t269 => (if t269 = true then ((laws_markByteS.f k t259 1).bind fun bt270 => ((laws_heldByteS.f k bt270.2 1).bind fun t272 => (if t272 < 0 then (none) else (if t272 = bt270.1 then ((laws_toMemory.f k l0_0).bind fun t273 => ((laws_toRing.f a1_0 a1_1 a1_2 a1_3 a1_4 a1_5).bind fun bt276 => ((impl_RingBytes.f k t273 bt276.1 bt276.2.1 bt276.2.2.1 bt276.2.2.2.1 bt276.2.2.2.2.1 bt276.2.2.2.2.2).bind fun bt282 => ((laws_eqByteS.f k bt282.1 t245).bind fun t286 => (if t286 = true then (if (bt282.2 != t248) = true then (none) else ((laws_heldByteS.f k bt270.2 1).bind fun t287 => (if t287 < 0 then (none) else (if t287 = bt270.1 then (some true) else (none))))) else (none)))))) else (none))))) else (none))))) else (none))))) = some r := by rw [if_pos rfl] at H; exact H
   clear H
   have H := H1
   clear H1
   by_cases c18 : (t262 != t248) = true
   ·rw [if_pos c18] at H
    exact absurd H (by simp)
   ·rw [if_neg c18] at H
    have c18b0 : (t262 != t248) = false := by simpa using c18
    (try (have c18b1 : decide (t262 = t248) = true := by simpa using c18))
    (try (have c18b2 : (t262 == t248) = true := by simpa using c18))
    clear c18
    replace H := Option.bind_eq_some_iff.mp H
    obtain ⟨t264, A190, H⟩ := H
    replace H : ((laws_eqMemory.f k t249 t264).bind fun t267 => (if t267 = true then ((laws_markMemory.f k t249 1).bind fun t268 => (if t268 < 0 then (none) else ((laws_eqByteS.f k t259 t245).bind fun t269 => (if t269 = true then ((laws_markByteS.f k t259 1).bind fun bt270 => ((laws_heldByteS.f k bt270.2 1).bind fun t272 => (if t272 < 0 then (none) else (if t272 = bt270.1 then ((laws_toMemory.f k l0_0).bind fun t273 => ((laws_toRing.f a1_0 a1_1 a1_2 a1_3 a1_4 a1_5).bind fun bt276 => ((impl_RingBytes.f k t273 bt276.1 bt276.2.1 bt276.2.2.1 bt276.2.2.2.1 bt276.2.2.2.2.1 bt276.2.2.2.2.2).bind fun bt282 => ((laws_eqByteS.f k bt282.1 t245).bind fun t286 => (if t286 = true then (if (bt282.2 != t248) = true then (none) else ((laws_heldByteS.f k bt270.2 1).bind fun t287 => (if t287 < 0 then (none) else (if t287 = bt270.1 then (some true) else (none))))) else (none)))))) else (none))))) else (none))))) else (none))) = some r := H
    have A19 := Aside0.mk A190
    clear A190
    replace H := Option.bind_eq_some_iff.mp H
    obtain ⟨t267, A200, H⟩ := H
    replace H : (if t267 = true then ((laws_markMemory.f k t249 1).bind fun t268 => (if t268 < 0 then (none) else ((laws_eqByteS.f k t259 t245).bind fun t269 => (if t269 = true then ((laws_markByteS.f k t259 1).bind fun bt270 => ((laws_heldByteS.f k bt270.2 1).bind fun t272 => (if t272 < 0 then (none) else (if t272 = bt270.1 then ((laws_toMemory.f k l0_0).bind fun t273 => ((laws_toRing.f a1_0 a1_1 a1_2 a1_3 a1_4 a1_5).bind fun bt276 => ((impl_RingBytes.f k t273 bt276.1 bt276.2.1 bt276.2.2.1 bt276.2.2.2.1 bt276.2.2.2.2.1 bt276.2.2.2.2.2).bind fun bt282 => ((laws_eqByteS.f k bt282.1 t245).bind fun t286 => (if t286 = true then (if (bt282.2 != t248) = true then (none) else ((laws_heldByteS.f k bt270.2 1).bind fun t287 => (if t287 < 0 then (none) else (if t287 = bt270.1 then (some true) else (none))))) else (none)))))) else (none))))) else (none))))) else (none)) = some r := H
    have A20 := Aside0.mk A200
    clear A200
    by_cases c21 : t267 = true
    ·subst c21
     have H1 : ((laws_markMemory.f k t249 1).bind fun t268 => (if t268 < 0 then (none) else ((laws_eqByteS.f k t259 t245).bind fun t269 => (if t269 = true then ((laws_markByteS.f k t259 1).bind fun bt270 => ((laws_heldByteS.f k bt270.2 1).bind fun t272 => (if t272 < 0 then (none) else (if t272 = bt270.1 then ((laws_toMemory.f k l0_0).bind fun t273 => ((laws_toRing.f a1_0 a1_1 a1_2 a1_3 a1_4 a1_5).bind fun bt276 => ((impl_RingBytes.f k t273 bt276.1 bt276.2.1 bt276.2.2.1 bt276.2.2.2.1 bt276.2.2.2.2.1 bt276.2.2.2.2.2).bind fun bt282 => ((laws_eqByteS.f k bt282.1 t245).bind fun t286 => (if t286 = true then (if (bt282.2 != t248) = true then (none) else ((laws_heldByteS.f k bt270.2 1).bind fun t287 => (if t287 < 0 then (none) else (if t287 = bt270.1 then (some true) else (none))))) else (none)))))) else (none))))) else (none))))) = some r := by rw [if_pos rfl] at H; exact H
     clear H
     have H := H1
     clear H1
     replace H := Option.bind_eq_some_iff.mp H
     obtain ⟨t268, A220, H⟩ := H
     replace H : (if t268 < 0 then (none) else ((laws_eqByteS.f k t259 t245).bind fun t269 => (if t269 = true then ((laws_markByteS.f k t259 1).bind fun bt270 => ((laws_heldByteS.f k bt270.2 1).bind fun t272 => (if t272 < 0 then (none) else (if t272 = bt270.1 then ((laws_toMemory.f k l0_0).bind fun t273 => ((laws_toRing.f a1_0 a1_1 a1_2 a1_3 a1_4 a1_5).bind fun bt276 => ((impl_RingBytes.f k t273 bt276.1 bt276.2.1 bt276.2.2.1 bt276.2.2.2.1 bt276.2.2.2.2.1 bt276.2.2.2.2.2).bind fun bt282 => ((laws_eqByteS.f k bt282.1 t245).bind fun t286 => (if t286 = true then (if (bt282.2 != t248) = true then (none) else ((laws_heldByteS.f k bt270.2 1).bind fun t287 => (if t287 < 0 then (none) else (if t287 = bt270.1 then (some true) else (none))))) else (none)))))) else (none))))) else (none)))) = some r := H
     have A22 := Aside0.mk A220
     clear A220
     by_cases c23 : t268 < 0
     ·rw [if_pos c23] at H
      exact absurd H (by simp)
     ·rw [if_neg c23] at H
      have c23b0 : decide (t268 < 0) = false := decide_eq_false c23
      clear c23
      replace H := Option.bind_eq_some_iff.mp H
      obtain ⟨t269, A240, H⟩ := H
      replace H : (if t269 = true then ((laws_markByteS.f k t259 1).bind fun bt270 => ((laws_heldByteS.f k bt270.2 1).bind fun t272 => (if t272 < 0 then (none) else (if t272 = bt270.1 then ((laws_toMemory.f k l0_0).bind fun t273 => ((laws_toRing.f a1_0 a1_1 a1_2 a1_3 a1_4 a1_5).bind fun bt276 => ((impl_RingBytes.f k t273 bt276.1 bt276.2.1 bt276.2.2.1 bt276.2.2.2.1 bt276.2.2.2.2.1 bt276.2.2.2.2.2).bind fun bt282 => ((laws_eqByteS.f k bt282.1 t245).bind fun t286 => (if t286 = true then (if (bt282.2 != t248) = true then (none) else ((laws_heldByteS.f k bt270.2 1).bind fun t287 => (if t287 < 0 then (none) else (if t287 = bt270.1 then (some true) else (none))))) else (none)))))) else (none))))) else (none)) = some r := H
      have A24 := Aside0.mk A240
      clear A240
      by_cases c25 : t269 = true
      ·subst c25
       have H1 : ((laws_markByteS.f k t259 1).bind fun bt270 => ((laws_heldByteS.f k bt270.2 1).bind fun t272 => (if t272 < 0 then (none) else (if t272 = bt270.1 then ((laws_toMemory.f k l0_0).bind fun t273 => ((laws_toRing.f a1_0 a1_1 a1_2 a1_3 a1_4 a1_5).bind fun bt276 => ((impl_RingBytes.f k t273 bt276.1 bt276.2.1 bt276.2.2.1 bt276.2.2.2.1 bt276.2.2.2.2.1 bt276.2.2.2.2.2).bind fun bt282 => ((laws_eqByteS.f k bt282.1 t245).bind fun t286 => (if t286 = true then (if (bt282.2 != t248) = true then (none) else ((laws_heldByteS.f k bt270.2 1).bind fun t287 => (if t287 < 0 then (none) else (if t287 = bt270.1 then (some true) else (none))))) else (none)))))) else (none))))) = some r := by rw [if_pos rfl] at H; exact H
       clear H
       have H := H1
       clear H1
       replace H := Option.bind_eq_some_iff.mp H
       obtain ⟨⟨t270, t271⟩, A260, H⟩ := H
       replace H : ((laws_heldByteS.f k t271 1).bind fun t272 => (if t272 < 0 then (none) else (if t272 = t270 then ((laws_toMemory.f k l0_0).bind fun t273 => ((laws_toRing.f a1_0 a1_1 a1_2 a1_3 a1_4 a1_5).bind fun bt276 => ((impl_RingBytes.f k t273 bt276.1 bt276.2.1 bt276.2.2.1 bt276.2.2.2.1 bt276.2.2.2.2.1 bt276.2.2.2.2.2).bind fun bt282 => ((laws_eqByteS.f k bt282.1 t245).bind fun t286 => (if t286 = true then (if (bt282.2 != t248) = true then (none) else ((laws_heldByteS.f k t271 1).bind fun t287 => (if t287 < 0 then (none) else (if t287 = t270 then (some true) else (none))))) else (none)))))) else (none)))) = some r := H
       have A26 := Aside0.mk A260
       clear A260
       replace H := Option.bind_eq_some_iff.mp H
       obtain ⟨t272, A270, H⟩ := H
       replace H : (if t272 < 0 then (none) else (if t272 = t270 then ((laws_toMemory.f k l0_0).bind fun t273 => ((laws_toRing.f a1_0 a1_1 a1_2 a1_3 a1_4 a1_5).bind fun bt276 => ((impl_RingBytes.f k t273 bt276.1 bt276.2.1 bt276.2.2.1 bt276.2.2.2.1 bt276.2.2.2.2.1 bt276.2.2.2.2.2).bind fun bt282 => ((laws_eqByteS.f k bt282.1 t245).bind fun t286 => (if t286 = true then (if (bt282.2 != t248) = true then (none) else ((laws_heldByteS.f k t271 1).bind fun t287 => (if t287 < 0 then (none) else (if t287 = t270 then (some true) else (none))))) else (none)))))) else (none))) = some r := H
       have A27 := Aside0.mk A270
       clear A270
       by_cases c28 : t272 < 0
       ·rw [if_pos c28] at H
        exact absurd H (by simp)
       ·rw [if_neg c28] at H
        have c28b0 : decide (t272 < 0) = false := decide_eq_false c28
        clear c28
        by_cases c29 : t272 = t270
        ·rw [if_pos c29] at H
         have c29b0 : (t272 == t270) = true := beq_iff_eq.mpr c29
         have c29b1 : (t272 != t270) = false := bne_eq_false_iff_eq.mpr c29
         clear c29
         replace H := Option.bind_eq_some_iff.mp H
         obtain ⟨t273, A300, H⟩ := H
         replace H : ((laws_toRing.f a1_0 a1_1 a1_2 a1_3 a1_4 a1_5).bind fun bt276 => ((impl_RingBytes.f k t273 bt276.1 bt276.2.1 bt276.2.2.1 bt276.2.2.2.1 bt276.2.2.2.2.1 bt276.2.2.2.2.2).bind fun bt282 => ((laws_eqByteS.f k bt282.1 t245).bind fun t286 => (if t286 = true then (if (bt282.2 != t248) = true then (none) else ((laws_heldByteS.f k t271 1).bind fun t287 => (if t287 < 0 then (none) else (if t287 = t270 then (some true) else (none))))) else (none))))) = some r := H
         have A30 := Aside0.mk A300
         clear A300
         replace H := Option.bind_eq_some_iff.mp H
         obtain ⟨⟨t276, t277, t278, t279, t280, t281⟩, A310, H⟩ := H
         replace H : ((impl_RingBytes.f k t273 t276 t277 t278 t279 t280 t281).bind fun bt282 => ((laws_eqByteS.f k bt282.1 t245).bind fun t286 => (if t286 = true then (if (bt282.2 != t248) = true then (none) else ((laws_heldByteS.f k t271 1).bind fun t287 => (if t287 < 0 then (none) else (if t287 = t270 then (some true) else (none))))) else (none)))) = some r := H
         have A31 := Aside0.mk A310
         clear A310
         replace H := Option.bind_eq_some_iff.mp H
         obtain ⟨⟨t282, t285⟩, A320, H⟩ := H
         replace H : ((laws_eqByteS.f k t282 t245).bind fun t286 => (if t286 = true then (if (t285 != t248) = true then (none) else ((laws_heldByteS.f k t271 1).bind fun t287 => (if t287 < 0 then (none) else (if t287 = t270 then (some true) else (none))))) else (none))) = some r := H
         have A32 := Aside0.mk A320
         clear A320
         replace H := Option.bind_eq_some_iff.mp H
         obtain ⟨t286, A330, H⟩ := H
         replace H : (if t286 = true then (if (t285 != t248) = true then (none) else ((laws_heldByteS.f k t271 1).bind fun t287 => (if t287 < 0 then (none) else (if t287 = t270 then (some true) else (none))))) else (none)) = some r := H
         have A33 := Aside0.mk A330
         clear A330
         by_cases c34 : t286 = true
         ·subst c34
          have H1 : (if (t285 != t248) = true then (none) else ((laws_heldByteS.f k t271 1).bind fun t287 => (if t287 < 0 then (none) else (if t287 = t270 then (some true) else (none))))) = some r := by rw [if_pos rfl] at H; exact H
          clear H
          have H := H1
          clear H1
          by_cases c35 : (t285 != t248) = true
          ·rw [if_pos c35] at H
           exact absurd H (by simp)
          ·rw [if_neg c35] at H
           have c35b0 : (t285 != t248) = false := by simpa using c35
           (try (have c35b1 : decide (t285 = t248) = true := by simpa using c35))
           (try (have c35b2 : (t285 == t248) = true := by simpa using c35))
           clear c35
           replace H := Option.bind_eq_some_iff.mp H
           obtain ⟨t287, A360, H⟩ := H
           replace H : (if t287 < 0 then (none) else (if t287 = t270 then (some true) else (none))) = some r := H
           have A36 := Aside0.mk A360
           clear A360
           by_cases c37 : t287 < 0
           ·rw [if_pos c37] at H
            exact absurd H (by simp)
           ·rw [if_neg c37] at H
            have c37b0 : decide (t287 < 0) = false := decide_eq_false c37
            clear c37
            by_cases c38 : t287 = t270
            ·rw [if_pos c38] at H
             have c38b0 : (t287 == t270) = true := beq_iff_eq.mpr c38
             have c38b1 : (t287 != t270) = false := bne_eq_false_iff_eq.mpr c38
             clear c38
             obtain rfl := Option.some.inj H
             go_enter Try.func11, Try.ntmps11
             try go_wp2_with (first | ((with_reducible refine gate_dst (N := 2) rfl ?_); refine box_event ?hg (N := 2) ?hd (cs := #[.slice A0_0 l0_0.length c0_0]) (t := 24) ?hr ?_; (case hd => rfl); (case hg => rfl); (case hr => first | (go_simp; done) | (go_simp; rfl)); intro gb233 hg w39 hbox hb; have n0_ := zhs HB hb; have n1_ := Aside0.mk (hbox); have n2_ := zge HB hg; have n3_ := zge HB hg; clear HB; have HB := n0_; have BK233 := n1_; have GW233 := n2_; have GE233 := n3_; clear n0_ n1_ n2_ n3_; clear hb hbox hg) | ((with_reducible refine gate_dst (N := 3) rfl ?_); refine box_event ?hg (N := 3) ?hd (cs := #[.int .i64 a1_0, .int .i64 a1_1, .int .i64 a1_2, .int .i64 a1_3, .int .i64 a1_4, .int .i64 a1_5]) (t := 28) ?hr ?_; (case hd => rfl); (case hg => rfl); (case hr => first | (go_simp; done) | (go_simp; rfl)); intro gb234 hg w40 hbox hb; have n0_ := zb0 BK233 hb; have n1_ := zhs HB hb; have n2_ := Aside0.mk (hbox); have n3_ := zge HB hg; have n4_ := zge HB hg; have n5_ := znl BK233 hg; have n6_ := znr BK233 hg; clear BK233; clear HB; have BK233 := n0_; have HB := n1_; have BK234 := n2_; have GW234 := n3_; have GE234 := n4_; have NB233_234 := n5_; have NB234_233 := n6_; clear n0_ n1_ n2_ n3_ n4_ n5_ n6_; clear hb hbox hg; have hnb41 := NB233_234.out; have hnc41 := NB234_233.out; have hcz42_0 : w40.cell? ⟨gb233, 0, none⟩ = some (.slice A0_0 l0_0.length c0_0) := zc0 BK233 0 rfl; have hfz42_0 := blk_frozen BK233.out 0) | ((with_reducible refine gate_callee (f := 14) rfl ?_); refine goesL_ (some 18) rfl rfl Try.func14 (by kernel_rfl) rfl #[.agg #[.slice A0_0 l0_0.length c0_0], .int .i64 1048576] rfl (by (try simp only [List.map_toArray, List.map_cons, List.map_nil]); first | done | rfl | (simp only [List.length_drop, List.length_take]; rfl)) ?_; (with_reducible refine (laws_szMemory.calls k _ _ l0_0 1048576 t235 _ ?side1 ?side2 A3.out).mono ?_); (case side1 => repeat (first | exact (Kd.C_below HR0_0.out HB.out) | (with_reducible refine Kd.C_alloc ?_ _) | (with_reducible refine Kd.C_drewN ?_ _) | (with_reducible refine Kd.C_drew ?_))); (case side2 => exact HC0_0.out); rintro e w43 ⟨rfl, hb⟩; refine ⟨_, rfl, ?_⟩; have n0_ := zb0 BK233 hb; have n1_ := zb0 BK234 hb; have n2_ := zhs HB hb; clear BK233; clear BK234; clear HB; have BK233 := n0_; have BK234 := n1_; have HB := n2_; clear n0_ n1_ n2_; (try clear hb); (try clear hb2); (try clear hk); (try clear hi)))
             replace BK233 := Aside0.mk (blk_drew BK233.out)
             replace BK234 := Aside0.mk (blk_drew BK234.out)
             replace HB := Aside0.mk (below_drew1 HB.out)
             refine start_ (n := 10) (S := fun w' => w'.cell? ⟨gb233, 0, none⟩ = some (.slice A0_0 l0_0.length c0_0) ∧ w'.cell? ⟨gb234, 0, none⟩ = some (.int .i64 a1_0) ∧ w'.cell? ⟨gb234, 1, none⟩ = some (.int .i64 a1_1) ∧ w'.cell? ⟨gb234, 2, none⟩ = some (.int .i64 a1_2) ∧ w'.cell? ⟨gb234, 3, none⟩ = some (.int .i64 a1_3) ∧ w'.cell? ⟨gb234, 4, none⟩ = some (.int .i64 a1_4) ∧ w'.cell? ⟨gb234, 5, none⟩ = some (.int .i64 a1_5)) (ds := []) #[false, false, false, false, false, false, false, false, false, false] (by kernel_rfl) rfl rfl ⟨zc0 BK233 0 rfl, zc0 BK234 0 rfl, zc0 BK234 1 rfl, zc0 BK234 2 rfl, zc0 BK234 3 rfl, zc0 BK234 4 rfl, zc0 BK234 5 rfl⟩ (fun hHeld => ?_); refine with_tabW laws_FnExactRingBytes.tab5 laws_FnExactRingBytes.bits5 (fun HT_ HW_ => ?_)
             generalize w43.drew = w44 at BK233 BK234 HB hHeld ⊢
             refine take_ (i := 0) (N := some 22) (v := ?_) (a' := ?_) #[true, false, false, false, false, false, false, false, false, false] rfl rfl (take_ofW HT_.out HW_.out (by kernel_rfl)) (fun _ _ _ h => h) (Or.inl ⟨by rfl, ?_⟩) hHeld ?_ ?_
             rotate_left
             ·rintro w' ⟨s0, s1, s2, s3, s4, s5, s6⟩
              go_simp
              with_reducible rfl
             rotate_left
             ·simp only [Act.put, zp1, zp2, zp3, i64_w, i32_w]
              rfl
             refine take_ (i := 2) (N := some 24) (v := ?_) (a' := ?_) #[true, false, true, false, false, false, false, false, false, false] rfl rfl (take_ofW HT_.out HW_.out (by kernel_rfl)) (fun _ _ _ h => h) (Or.inl ⟨by rfl, ?_⟩) hHeld ?_ ?_
             rotate_left
             ·rintro w' ⟨s0, s1, s2, s3, s4, s5, s6⟩
              go_simp
              with_reducible rfl
             rotate_left
             ·simp only [Act.put, zp1, zp2, zp3, i64_w, i32_w]
              rfl
             refine one_ (i := 1) (N := some 23) #[true, true, true, false, false, false, false, false, false, false] rfl rfl (one_of HT_.out (by kernel_rfl)) (by decide) (fun K hK => ?_)
             refine goes_ Try.func16 (by kernel_rfl) rfl #[.agg #[.slice A0_0 l0_0.length c0_0]] (by rfl) rfl rfl (by (try simp only [List.map_toArray, List.map_cons, List.map_nil]); first | done | rfl | (simp only [List.length_drop, List.length_take]; rfl)) ?_
             with_reducible refine (laws_toMemory.calls k _ _ l0_0 t236 _ ?side1 ?side2 A10.out).mono ?_
             (case side1 => repeat (first | exact (Kd.C_below HR0_0.out HB.out) | (with_reducible refine Kd.C_alloc ?_ _) | (with_reducible refine Kd.C_drewN ?_ _) | (with_reducible refine Kd.C_drew ?_)))
             (case side2 => exact HC0_0.out)
             rintro e w45 ⟨v237, rfl, ho0, hb⟩
             refine ⟨_, rfl, ?_⟩
             have HO238 := Aside0.mk (Kd.S_lower ho0 (below_size (zh0 HB)))
             replace BK233 := zb0 BK233 hb
             replace BK234 := zb0 BK234 hb
             replace HB := zhs HB hb
             (try clear hb)
             (try clear hb2)
             (try clear hk)
             (try clear hi)
             (try clear ho0)
             refine hK.out _ _ ⟨zc0 BK233 0 rfl, zc0 BK234 0 rfl, zc0 BK234 1 rfl, zc0 BK234 2 rfl, zc0 BK234 3 rfl, zc0 BK234 4 rfl, zc0 BK234 5 rfl⟩ (fun hHeld => ?_)
             clear hK K
             refine norm_ (a' := ?_) ?_ ?_
             rotate_left
             ·show Act.put _ (some 23) _ = _
              simp only [Act.put, zp1, zp2, zp3, i64_w, i32_w]
              rfl
             refine one_ (i := 3) (N := some 25) #[true, true, true, true, false, false, false, false, false, false] rfl rfl (one_of HT_.out (by kernel_rfl)) (by decide) (fun K hK => ?_)
             refine goes_ Try.func17 (by kernel_rfl) rfl #[.agg #[.int .i64 a1_0, .int .i64 a1_1, .int .i64 a1_2, .int .i64 a1_3, .int .i64 a1_4, .int .i64 a1_5]] (by rfl) rfl rfl (by (try simp only [List.map_toArray, List.map_cons, List.map_nil]); first | done | rfl | (simp only [List.length_drop, List.length_take]; rfl)) ?_
             with_reducible refine (laws_toRing.calls a1_0 a1_1 a1_2 a1_3 a1_4 a1_5 t239 t240 t241 t242 t243 t244 _ A11.out).mono ?_
             rintro e w46 ⟨rfl, hb⟩
             refine ⟨_, rfl, ?_⟩
             replace HO238 := zsb HO238 hb
             replace BK233 := zb0 BK233 hb
             replace BK234 := zb0 BK234 hb
             replace HB := zhs HB hb
             (try clear hb)
             (try clear hb2)
             (try clear hk)
             (try clear hi)
             obtain ⟨Ao47, co47, eo47⟩ := Kd.S_slice HO238.out
             (first | subst eo47 | (injection eo47 with f1_ f2_ f3_; have f4_ := f1_.symm; have f5_ := f3_.symm; clear f1_ f2_ f3_; subst f4_; subst f5_))
             refine hK.out _ _ ⟨zc0 BK233 0 rfl, zc0 BK234 0 rfl, zc0 BK234 1 rfl, zc0 BK234 2 rfl, zc0 BK234 3 rfl, zc0 BK234 4 rfl, zc0 BK234 5 rfl⟩ (fun hHeld => ?_)
             clear hK K
             refine norm_ (a' := ?_) ?_ ?_
             rotate_left
             ·show Act.put _ (some 25) _ = _
              simp only [Act.put, zp1, zp2, zp3, i64_w, i32_w]
              rfl
             refine one_ (i := 4) (N := some 26) #[true, true, true, true, true, false, false, false, false, false] rfl rfl (one_of HT_.out (by kernel_rfl)) (by decide) (fun K hK => ?_)
             refine goes_ Try.func42 (by kernel_rfl) rfl #[.agg #[.slice Ao47 t236.length co47], .agg #[.int .i64 t239, .int .i64 t240, .int .i64 t241, .int .i64 t242, .int .i64 t243, .int .i64 t244]] (by rfl) rfl rfl (by (try simp only [List.map_toArray, List.map_cons, List.map_nil]); first | done | rfl | (simp only [List.length_drop, List.length_take]; rfl)) ?_
             with_reducible refine (spec_RingBytes.calls k _ _ t236 t239 t240 t241 t242 t243 t244 t245 t248 _ ?side1 ?side2 A12.out).mono ?_
             (case side1 => repeat (first | exact (Kd.S_reads' HO238.out).2.2 | (with_reducible refine Kd.C_alloc ?_ _) | (with_reducible refine Kd.C_drewN ?_ _) | (with_reducible refine Kd.C_drew ?_)))
             (case side2 => exact (Kd.S_reads' HO238.out).2.1)
             rintro e w48 ⟨v246, rfl, ho0, hb⟩
             refine ⟨_, rfl, ?_⟩
             have HO247 := Aside0.mk (Kd.R_lower ho0 (below_size (zh0 HB)))
             replace HO238 := Aside0.mk (Kd.S_elder' (zs0 HO238) (Kd.R_base ho0) hb)
             replace BK233 := zb0 BK233 hb
             replace BK234 := zb0 BK234 hb
             replace HB := zhs HB hb
             (try clear hb)
             (try clear hb2)
             (try clear hk)
             (try clear hi)
             (try clear ho0)
             refine hK.out _ _ ⟨zc0 BK233 0 rfl, zc0 BK234 0 rfl, zc0 BK234 1 rfl, zc0 BK234 2 rfl, zc0 BK234 3 rfl, zc0 BK234 4 rfl, zc0 BK234 5 rfl⟩ (fun hHeld => ?_)
             clear hK K
             refine norm_ (a' := ?_) ?_ ?_
             rotate_left
             ·show Act.put _ (some 26) _ = _
              simp only [Act.put, zp1, zp2, zp3, i64_w, i32_w]
              rfl
             refine pure_ (i := 5) (N := some 21) (v := ?_) (a' := ?_) #[true, true, true, true, true, true, false, false, false, false] rfl rfl (any_of HT_.out (by kernel_rfl)) (fun _ _ _ h => h) (Or.inl ⟨by rfl, ?_⟩) ?_ ?_
             rotate_left
             ·intro w'
              go_simp
              with_reducible rfl
             rotate_left
             ·simp only [Act.put, zp1, zp2, zp3, i64_w, i32_w]
              rfl
             refine pure_ (i := 6) (N := some 27) (v := ?_) (a' := ?_) #[true, true, true, true, true, true, true, false, false, false] rfl rfl (any_of HT_.out (by kernel_rfl)) (fun _ _ _ h => h) (Or.inl ⟨by rfl, ?_⟩) ?_ ?_
             rotate_left
             ·intro w'
              go_simp
              with_reducible rfl
             rotate_left
             ·simp only [Act.put, zp1, zp2, zp3, i64_w, i32_w]
              rfl
             refine pure_ (i := 7) (N := some 28) (v := ?_) (a' := ?_) #[true, true, true, true, true, true, true, true, false, false] rfl rfl (any_of HT_.out (by kernel_rfl)) (fun _ _ _ h => h) (Or.inl ⟨by rfl, ?_⟩) ?_ ?_
             rotate_left
             ·intro w'
              go_simp
              with_reducible rfl
             rotate_left
             ·simp only [Act.put, zp1, zp2, zp3, i64_w, i32_w]
              rfl
             refine pure_ (i := 8) (N := some 6) (v := ?_) (a' := ?_) #[true, true, true, true, true, true, true, true, true, false] rfl rfl (any_of HT_.out (by kernel_rfl)) (fun _ _ _ h => h) (Or.inl ⟨by rfl, ?_⟩) ?_ ?_
             rotate_left
             ·intro w'
              go_simp
              with_reducible rfl
             rotate_left
             ·simp only [Act.put, zp1, zp2, zp3, i64_w, i32_w]
              rfl
             refine pure_ (i := 9) (N := some 7) (v := ?_) (a' := ?_) #[true, true, true, true, true, true, true, true, true, true] rfl rfl (any_of HT_.out (by kernel_rfl)) (fun _ _ _ h => h) (Or.inl ⟨by rfl, ?_⟩) ?_ ?_
             rotate_left
             ·intro w'
              go_simp
              with_reducible rfl
             rotate_left
             ·simp only [Act.put, zp1, zp2, zp3, i64_w, i32_w]
              rfl
             refine done_ (done_of HT_.out (by kernel_rfl)) ?_
             have hcz49_0 : w48.cell? ⟨gb233, 0, none⟩ = some (.slice A0_0 l0_0.length c0_0) := zc0 BK233 0 rfl
             have hfz49_0 := blk_frozen BK233.out 0
             try go_wp2_with (first | ((with_reducible refine gate_callee (f := 16) rfl ?_); refine goesL_ (some 30) rfl rfl Try.func16 (by kernel_rfl) rfl #[.agg #[.slice A0_0 l0_0.length c0_0]] rfl (by (try simp only [List.map_toArray, List.map_cons, List.map_nil]); first | done | rfl | (simp only [List.length_drop, List.length_take]; rfl)) ?_; (with_reducible refine (laws_toMemory.calls k _ _ l0_0 t249 _ ?side1 ?side2 A13.out).mono ?_); (case side1 => repeat (first | exact (Kd.C_below HR0_0.out HB.out) | (with_reducible refine Kd.C_alloc ?_ _) | (with_reducible refine Kd.C_drewN ?_ _) | (with_reducible refine Kd.C_drew ?_))); (case side2 => exact HC0_0.out); rintro e w50 ⟨v250, rfl, ho0, hb⟩; refine ⟨_, rfl, ?_⟩; have n0_ := Aside0.mk (Kd.S_elder' (zs0 HO238) (Kd.S_base ho0) hb); have n1_ := zrb HO247 hb; have n2_ := Aside0.mk (Kd.S_lower (Kd.S_new' (Kd.S_new' ho0 (Kd.S_lt (zs0 HO238))) (Kd.R_lt (zr0 HO247))) (below_size (zh0 HB))); have n3_ := zb0 BK233 hb; have n4_ := zb0 BK234 hb; have n5_ := zhs HB hb; clear HO238; clear HO247; clear BK233; clear BK234; clear HB; have HO238 := n0_; have HO247 := n1_; have HO251 := n2_; have BK233 := n3_; have BK234 := n4_; have HB := n5_; clear n0_ n1_ n2_ n3_ n4_ n5_; (try clear hb); (try clear hb2); (try clear hk); (try clear hi); (try clear ho0)) | ((with_reducible refine gate_dst (N := 8) rfl ?_); refine box_event ?hg (N := 8) ?hd (cs := #[.slice none 0 0]) (t := 32) ?hr ?_; (case hd => rfl); (case hg => rfl); (case hr => first | (go_simp; done) | (go_simp; rfl)); intro gb252 hg w51 hbox hb; have n0_ := zsb HO238 hb; have n1_ := zrb HO247 hb; have n2_ := zsb HO251 hb; have n3_ := zb0 BK233 hb; have n4_ := zb0 BK234 hb; have n5_ := Aside0.mk (below_step (by repeat (first | (with_reducible first | exact HB.out | apply below_alloc | apply pw_below_drewN | apply below_drew1 | refine below_set ?_ GE233.out | refine below_set ?_ GE234.out) | exact HB.out)) hb); have n6_ := Aside0.mk (hbox); have n7_ := Aside0.mk ((by rw [hg]; exact (below_size (by repeat (first | (with_reducible first | exact HB.out | apply below_alloc | apply pw_below_drewN | apply below_drew1 | refine below_set ?_ GE233.out | refine below_set ?_ GE234.out) | exact HB.out))) : w.heap.size ≤ gb252)); have n8_ := Aside0.mk ((by rw [hg]; exact (below_size (by repeat (first | (with_reducible first | exact HB.out | apply below_alloc | apply pw_below_drewN | apply below_drew1 | refine below_set ?_ GE233.out | refine below_set ?_ GE234.out) | exact HB.out))) : w.heap.size ≤ gb252)); have n9_ := znl BK233 hg; have n10_ := znr BK233 hg; have n11_ := znl BK234 hg; have n12_ := znr BK234 hg; clear HO238; clear HO247; clear HO251; clear BK233; clear BK234; clear HB; have HO238 := n0_; have HO247 := n1_; have HO251 := n2_; have BK233 := n3_; have BK234 := n4_; have HB := n5_; have BK252 := n6_; have GW252 := n7_; have GE252 := n8_; have NB233_252 := n9_; have NB252_233 := n10_; have NB234_252 := n11_; have NB252_234 := n12_; clear n0_ n1_ n2_ n3_ n4_ n5_ n6_ n7_ n8_ n9_ n10_ n11_ n12_; clear hb hbox hg; obtain ⟨Ao52, co52, eo52⟩ := Kd.S_slice HO251.out; subst eo52; have hnb53 := NB252_233.out; have hnc53 := NB233_252.out; have hnb54 := NB252_234.out; have hnc54 := NB234_252.out; have hcz55_0 : w51.cell? ⟨gb252, 0, none⟩ = some (.slice none 0 0) := zc0 BK252 0 rfl; have hfz55_0 := blk_frozen BK252.out 0))
             have n0_ : Aside0 (Kd.S (Kd.slice 5 (Kd.int .u8)) 65 (w51.setCell ⟨gb252, 0, none⟩ (.slice Ao52 t249.length co52)) w.heap.size (fun k_ => some k_ ≠ (v246 : Value).ownBlock ∧ some k_ ≠ (.slice Ao52 t249.length co52 : Value).ownBlock) (.slice Ao47 t236.length co47) t236) := ⟨by (with_reducible repeat (first | apply Kd.S_alloc | apply Kd.S_drewN | apply Kd.S_drew)); exact Kd.S_mono (Kd.S_far (p := ⟨gb252, 0, none⟩) (Kd.S_types HO238.out BK252.out (by decide)) (fun _ hk => hk.2) (.slice Ao52 t249.length co52)) (fun _ hk => ⟨hk.1.1.2, hk.1.2⟩)⟩
             have n1_ : Aside0 (Kd.R (Kd.int .u8) 5 (w51.setCell ⟨gb252, 0, none⟩ (.slice Ao52 t249.length co52)) w.heap.size (fun _ => True) v246 t245) := ⟨by (with_reducible repeat (first | apply Kd.R_alloc | apply Kd.R_drewN | apply Kd.R_drew)); exact Kd.R_mono (Kd.R_far (p := ⟨gb252, 0, none⟩) (Kd.R_types HO247.out BK252.out (by decide)) (fun _ hk => hk.2) (.slice Ao52 t249.length co52)) (fun _ hk => trivial)⟩
             have n2_ : Aside0 (Kd.S (Kd.slice 5 (Kd.int .u8)) 65 (w51.setCell ⟨gb252, 0, none⟩ (.slice Ao52 t249.length co52)) w.heap.size (fun k_ => some k_ ≠ (.slice Ao47 t236.length co47 : Value).ownBlock ∧ some k_ ≠ (v246 : Value).ownBlock) (.slice Ao52 t249.length co52) t249) := ⟨by (with_reducible repeat (first | apply Kd.S_alloc | apply Kd.S_drewN | apply Kd.S_drew)); exact Kd.S_mono (Kd.S_far (p := ⟨gb252, 0, none⟩) (Kd.S_types HO251.out BK252.out (by decide)) (fun _ hk => hk.2) (.slice Ao52 t249.length co52)) (fun _ hk => ⟨hk.1.1.2, hk.1.2⟩)⟩
             have n3_ : Aside0 ((w51.setCell ⟨gb252, 0, none⟩ (.slice Ao52 t249.length co52)).heap[gb233]? = some (.cells #[.slice A0_0 l0_0.length c0_0] 24 (0, 0))) := ⟨by (with_reducible repeat (first | refine blk_drewN ?_ _ | refine blk_drew ?_ | refine blk_alloc ?_ _)); refine blk_far ?_ NB233_252.out _; (with_reducible repeat (first | refine blk_drewN ?_ _ | refine blk_drew ?_ | refine blk_alloc ?_ _)); exact BK233.out⟩
             have n4_ : Aside0 ((w51.setCell ⟨gb252, 0, none⟩ (.slice Ao52 t249.length co52)).heap[gb234]? = some (.cells #[.int .i64 a1_0, .int .i64 a1_1, .int .i64 a1_2, .int .i64 a1_3, .int .i64 a1_4, .int .i64 a1_5] 28 (0, 0))) := ⟨by (with_reducible repeat (first | refine blk_drewN ?_ _ | refine blk_drew ?_ | refine blk_alloc ?_ _)); refine blk_far ?_ NB234_252.out _; (with_reducible repeat (first | refine blk_drewN ?_ _ | refine blk_drew ?_ | refine blk_alloc ?_ _)); exact BK234.out⟩
             have n5_ : Aside0 ((w51.setCell ⟨gb252, 0, none⟩ (.slice Ao52 t249.length co52)).heap[gb252]? = some (.cells #[.slice Ao52 t249.length co52] 32 (0, 0))) := ⟨by (with_reducible repeat (first | refine blk_drewN ?_ _ | refine blk_drew ?_ | refine blk_alloc ?_ _)); refine blk_put (cs := #[.slice none 0 0]) ?_ 0 _ rfl; (with_reducible repeat (first | refine blk_drewN ?_ _ | refine blk_drew ?_ | refine blk_alloc ?_ _)); exact BK252.out⟩
             have n6_ : Aside0 (Below w.heap.size w (w51.setCell ⟨gb252, 0, none⟩ (.slice Ao52 t249.length co52))) := ⟨by repeat (first | (with_reducible first | exact HB.out | apply below_alloc | apply pw_below_drewN | apply below_drew1 | refine below_set ?_ GE233.out | refine below_set ?_ GE234.out | refine below_set ?_ GE252.out) | exact HB.out)⟩
             (try clear HO238)
             (try clear HO247)
             (try clear HO251)
             (try clear BK233)
             (try clear BK234)
             (try clear BK252)
             (try clear HB)
             generalize (w51.setCell ⟨gb252, 0, none⟩ (.slice Ao52 t249.length co52)) = w56 at n0_ n1_ n2_ n3_ n4_ n5_ n6_ ⊢
             have HO238 := n0_
             have HO247 := n1_
             have HO251 := n2_
             have BK233 := n3_
             have BK234 := n4_
             have BK252 := n5_
             have HB := n6_
             clear n0_ n1_ n2_ n3_ n4_ n5_ n6_
             replace HO238 := Aside0.mk (Kd.S_drew HO238.out)
             replace HO247 := Aside0.mk (Kd.R_drew HO247.out)
             replace HO251 := Aside0.mk (Kd.S_drew HO251.out)
             replace BK233 := Aside0.mk (blk_drew BK233.out)
             replace BK234 := Aside0.mk (blk_drew BK234.out)
             replace BK252 := Aside0.mk (blk_drew BK252.out)
             replace HB := Aside0.mk (below_drew1 HB.out)
             refine start_ (n := 9) (S := fun w' => w'.cell? ⟨gb252, 0, none⟩ = some (.slice Ao52 t249.length co52) ∧ w'.cell? ⟨gb234, 0, none⟩ = some (.int .i64 a1_0) ∧ w'.cell? ⟨gb234, 1, none⟩ = some (.int .i64 a1_1) ∧ w'.cell? ⟨gb234, 2, none⟩ = some (.int .i64 a1_2) ∧ w'.cell? ⟨gb234, 3, none⟩ = some (.int .i64 a1_3) ∧ w'.cell? ⟨gb234, 4, none⟩ = some (.int .i64 a1_4) ∧ w'.cell? ⟨gb234, 5, none⟩ = some (.int .i64 a1_5)) (ds := []) #[false, false, false, false, false, false, false, false, false] (by kernel_rfl) rfl rfl ⟨zc0 BK252 0 rfl, zc0 BK234 0 rfl, zc0 BK234 1 rfl, zc0 BK234 2 rfl, zc0 BK234 3 rfl, zc0 BK234 4 rfl, zc0 BK234 5 rfl⟩ (fun hHeld => ?_); refine with_tabW laws_FnExactRingBytes.tab7 laws_FnExactRingBytes.bits7 (fun HT_ HW_ => ?_)
             generalize w56.drew = w57 at HO238 HO247 HO251 BK233 BK234 BK252 HB hHeld ⊢
             refine take_ (i := 0) (N := some 32) (v := ?_) (a' := ?_) #[true, false, false, false, false, false, false, false, false] rfl rfl (take_ofW HT_.out HW_.out (by kernel_rfl)) (fun _ _ _ h => h) (Or.inl ⟨by rfl, ?_⟩) hHeld ?_ ?_
             rotate_left
             ·rintro w' ⟨s0, s1, s2, s3, s4, s5, s6⟩
              go_simp
              with_reducible rfl
             rotate_left
             ·simp only [Act.put, zp1, zp2, zp3, i64_w, i32_w]
              rfl
             refine take_ (i := 1) (N := some 33) (v := ?_) (a' := ?_) #[true, true, false, false, false, false, false, false, false] rfl rfl (take_ofW HT_.out HW_.out (by kernel_rfl)) (fun _ _ _ h => h) (Or.inl ⟨by rfl, ?_⟩) hHeld ?_ ?_
             rotate_left
             ·rintro w' ⟨s0, s1, s2, s3, s4, s5, s6⟩
              go_simp
              with_reducible rfl
             rotate_left
             ·simp only [Act.put, zp1, zp2, zp3, i64_w, i32_w]
              rfl
             refine one_ (i := 2) (N := some 34) #[true, true, true, false, false, false, false, false, false] rfl rfl (one_of HT_.out (by kernel_rfl)) (by decide) (fun K hK => ?_)
             refine goes_ Try.func17 (by kernel_rfl) rfl #[.agg #[.int .i64 a1_0, .int .i64 a1_1, .int .i64 a1_2, .int .i64 a1_3, .int .i64 a1_4, .int .i64 a1_5]] (by rfl) rfl rfl (by (try simp only [List.map_toArray, List.map_cons, List.map_nil]); first | done | rfl | (simp only [List.length_drop, List.length_take]; rfl)) ?_
             with_reducible refine (laws_toRing.calls a1_0 a1_1 a1_2 a1_3 a1_4 a1_5 t253 t254 t255 t256 t257 t258 _ A14.out).mono ?_
             rintro e w58 ⟨rfl, hb⟩
             refine ⟨_, rfl, ?_⟩
             replace HO238 := zsb HO238 hb
             replace HO247 := zrb HO247 hb
             replace HO251 := zsb HO251 hb
             replace BK233 := zb0 BK233 hb
             replace BK234 := zb0 BK234 hb
             replace BK252 := zb0 BK252 hb
             replace HB := zhs HB hb
             (try clear hb)
             (try clear hb2)
             (try clear hk)
             (try clear hi)
             refine hK.out _ _ ⟨zc0 BK252 0 rfl, zc0 BK234 0 rfl, zc0 BK234 1 rfl, zc0 BK234 2 rfl, zc0 BK234 3 rfl, zc0 BK234 4 rfl, zc0 BK234 5 rfl⟩ (fun hHeld => ?_)
             clear hK K
             refine norm_ (a' := ?_) ?_ ?_
             rotate_left
             ·show Act.put _ (some 34) _ = _
              simp only [Act.put, zp1, zp2, zp3, i64_w, i32_w]
              rfl
             refine one_ (i := 3) (N := some 35) #[true, true, true, true, false, false, false, false, false] rfl rfl (one_of HT_.out (by kernel_rfl)) (by decide) (fun K hK => ?_)
             refine goes_ Try.func43 (by kernel_rfl) rfl #[.agg #[.slice Ao52 t249.length co52], .agg #[.int .i64 t253, .int .i64 t254, .int .i64 t255, .int .i64 t256, .int .i64 t257, .int .i64 t258]] (by rfl) rfl rfl (by (try simp only [List.map_toArray, List.map_cons, List.map_nil]); first | done | rfl | (simp only [List.length_drop, List.length_take]; rfl)) ?_
             with_reducible refine (impl_RingBytes.calls k _ _ t249 t253 t254 t255 t256 t257 t258 t259 t262 _ ?side1 ?side2 A15.out).mono ?_
             (case side1 => repeat (first | exact (Kd.S_reads' HO251.out).2.2 | (with_reducible refine Kd.C_alloc ?_ _) | (with_reducible refine Kd.C_drewN ?_ _) | (with_reducible refine Kd.C_drew ?_)))
             (case side2 => exact (Kd.S_reads' HO251.out).2.1)
             rintro e w59 ⟨v260, rfl, ho0, hb⟩
             refine ⟨_, rfl, ?_⟩
             have HO261 := Aside0.mk (Kd.R_lower (Kd.R_new' ho0 (Kd.R_lt (zr0 HO247))) (below_size (zh0 HB)))
             replace HO238 := Aside0.mk (Kd.S_elder' (zs0 HO238) (Kd.R_base ho0) hb)
             replace HO247 := Aside0.mk (Kd.R_elder' (zr0 HO247) (Kd.R_base ho0) hb)
             replace HO251 := Aside0.mk (Kd.S_elder' (zs0 HO251) (Kd.R_base ho0) hb)
             replace BK233 := zb0 BK233 hb
             replace BK234 := zb0 BK234 hb
             replace BK252 := zb0 BK252 hb
             replace HB := zhs HB hb
             (try clear hb)
             (try clear hb2)
             (try clear hk)
             (try clear hi)
             (try clear ho0)
             refine hK.out _ _ ⟨zc0 BK252 0 rfl, zc0 BK234 0 rfl, zc0 BK234 1 rfl, zc0 BK234 2 rfl, zc0 BK234 3 rfl, zc0 BK234 4 rfl, zc0 BK234 5 rfl⟩ (fun hHeld => ?_)
             clear hK K
             refine norm_ (a' := ?_) ?_ ?_
             rotate_left
             ·show Act.put _ (some 35) _ = _
              simp only [Act.put, zp1, zp2, zp3, i64_w, i32_w]
              rfl
             refine pure_ (i := 4) (N := some 31) (v := ?_) (a' := ?_) #[true, true, true, true, true, false, false, false, false] rfl rfl (any_of HT_.out (by kernel_rfl)) (fun _ _ _ h => h) (Or.inl ⟨by rfl, ?_⟩) ?_ ?_
             rotate_left
             ·intro w'
              go_simp
              with_reducible rfl
             rotate_left
             ·simp only [Act.put, zp1, zp2, zp3, i64_w, i32_w]
              rfl
             refine pure_ (i := 5) (N := some 36) (v := ?_) (a' := ?_) #[true, true, true, true, true, true, false, false, false] rfl rfl (any_of HT_.out (by kernel_rfl)) (fun _ _ _ h => h) (Or.inl ⟨by rfl, ?_⟩) ?_ ?_
             rotate_left
             ·intro w'
              go_simp
              with_reducible rfl
             rotate_left
             ·simp only [Act.put, zp1, zp2, zp3, i64_w, i32_w]
              rfl
             refine pure_ (i := 6) (N := some 37) (v := ?_) (a' := ?_) #[true, true, true, true, true, true, true, false, false] rfl rfl (any_of HT_.out (by kernel_rfl)) (fun _ _ _ h => h) (Or.inl ⟨by rfl, ?_⟩) ?_ ?_
             rotate_left
             ·intro w'
              go_simp
              with_reducible rfl
             rotate_left
             ·simp only [Act.put, zp1, zp2, zp3, i64_w, i32_w]
              rfl
             refine pure_ (i := 7) (N := some 9) (v := ?_) (a' := ?_) #[true, true, true, true, true, true, true, true, false] rfl rfl (any_of HT_.out (by kernel_rfl)) (fun _ _ _ h => h) (Or.inl ⟨by rfl, ?_⟩) ?_ ?_
             rotate_left
             ·intro w'
              go_simp
              with_reducible rfl
             rotate_left
             ·simp only [Act.put, zp1, zp2, zp3, i64_w, i32_w]
              rfl
             refine pure_ (i := 8) (N := some 10) (v := ?_) (a' := ?_) #[true, true, true, true, true, true, true, true, true] rfl rfl (any_of HT_.out (by kernel_rfl)) (fun _ _ _ h => h) (Or.inl ⟨by rfl, ?_⟩) ?_ ?_
             rotate_left
             ·intro w'
              go_simp
              with_reducible rfl
             rotate_left
             ·simp only [Act.put, zp1, zp2, zp3, i64_w, i32_w]
              rfl
             refine done_ (done_of HT_.out (by kernel_rfl)) ?_
             obtain ⟨Ao60, co60, eo60⟩ := Kd.R_slice HO261.out
             subst eo60
             obtain ⟨Ao61, co61, eo61⟩ := Kd.R_slice HO247.out
             subst eo61
             try go_wp2_with (first | ((with_reducible refine gate_callee (f := 44) rfl ?_); refine goesL_ (some 40) rfl rfl Try.func44 (by kernel_rfl) rfl #[.slice Ao60 t259.length co60, .slice Ao61 t245.length co61] rfl (by (try simp only [List.map_toArray, List.map_cons, List.map_nil]); first | done | rfl | (simp only [List.length_drop, List.length_take]; rfl)) ?_; (with_reducible refine (laws_eqByteS.calls k _ _ t259 _ _ t245 true _ ?side1 ?side2 ?side3 ?side4 A16.out).mono ?_); (case side1 => repeat (first | exact (Kd.R_reads' HO261.out).2.2 | (with_reducible refine Kd.C_alloc ?_ _) | (with_reducible refine Kd.C_drewN ?_ _) | (with_reducible refine Kd.C_drew ?_))); (case side2 => exact (Kd.R_reads' HO261.out).2.1); (case side3 => repeat (first | exact (Kd.R_reads' HO247.out).2.2 | (with_reducible refine Kd.C_alloc ?_ _) | (with_reducible refine Kd.C_drewN ?_ _) | (with_reducible refine Kd.C_drew ?_))); (case side4 => exact (Kd.R_reads' HO247.out).2.1); rintro e w' ⟨rfl, ⟨nd, rfl⟩⟩; refine ⟨_, rfl, ?_⟩))
             (try simp only [World.drewN_drewN]); (try (rw [drewN_self w59]; generalize hq_ : World.drewN w59 _ = w59; have n0_ : Aside0 (Kd.S (Kd.slice 5 (Kd.int .u8)) 65 w59 w.heap.size (fun k_ => some k_ ≠ (.slice Ao61 t245.length co61 : Value).ownBlock ∧ some k_ ≠ (.slice Ao52 t249.length co52 : Value).ownBlock ∧ some k_ ≠ (.slice Ao60 t259.length co60 : Value).ownBlock) (.slice Ao47 t236.length co47) t236) := ⟨by rw [← hq_]; exact (by (with_reducible repeat (first | apply Kd.S_alloc | apply Kd.S_drewN | apply Kd.S_drew)); exact Kd.S_mono HO238.out (fun _ hk => ⟨hk.1.1, ⟨hk.1.2, hk.2⟩⟩))⟩; have n1_ : Aside0 (Kd.R (Kd.int .u8) 5 w59 w.heap.size (fun k_ => some k_ ≠ (.slice Ao60 t259.length co60 : Value).ownBlock) (.slice Ao61 t245.length co61) t245) := ⟨by rw [← hq_]; exact (by (with_reducible repeat (first | apply Kd.R_alloc | apply Kd.R_drewN | apply Kd.R_drew)); exact Kd.R_mono HO247.out (fun _ hk => hk.2))⟩; have n2_ : Aside0 (Kd.S (Kd.slice 5 (Kd.int .u8)) 65 w59 w.heap.size (fun k_ => some k_ ≠ (.slice Ao47 t236.length co47 : Value).ownBlock ∧ some k_ ≠ (.slice Ao61 t245.length co61 : Value).ownBlock ∧ some k_ ≠ (.slice Ao60 t259.length co60 : Value).ownBlock) (.slice Ao52 t249.length co52) t249) := ⟨by rw [← hq_]; exact (by (with_reducible repeat (first | apply Kd.S_alloc | apply Kd.S_drewN | apply Kd.S_drew)); exact Kd.S_mono HO251.out (fun _ hk => ⟨hk.1.1, ⟨hk.1.2, hk.2⟩⟩))⟩; have n3_ : Aside0 (Kd.R (Kd.int .u8) 5 w59 w.heap.size (fun k_ => some k_ ≠ (.slice Ao61 t245.length co61 : Value).ownBlock) (.slice Ao60 t259.length co60) t259) := ⟨by rw [← hq_]; exact (by (with_reducible repeat (first | apply Kd.R_alloc | apply Kd.R_drewN | apply Kd.R_drew)); exact Kd.R_mono HO261.out (fun _ hk => hk.2))⟩; have n4_ : Aside0 (w59.heap[gb233]? = some (.cells #[.slice A0_0 l0_0.length c0_0] 24 (0, 0))) := ⟨by rw [← hq_]; exact (by (with_reducible repeat (first | refine blk_drewN ?_ _ | refine blk_drew ?_ | refine blk_alloc ?_ _)); exact BK233.out)⟩; have n5_ : Aside0 (w59.heap[gb234]? = some (.cells #[.int .i64 a1_0, .int .i64 a1_1, .int .i64 a1_2, .int .i64 a1_3, .int .i64 a1_4, .int .i64 a1_5] 28 (0, 0))) := ⟨by rw [← hq_]; exact (by (with_reducible repeat (first | refine blk_drewN ?_ _ | refine blk_drew ?_ | refine blk_alloc ?_ _)); exact BK234.out)⟩; have n6_ : Aside0 (w59.heap[gb252]? = some (.cells #[.slice Ao52 t249.length co52] 32 (0, 0))) := ⟨by rw [← hq_]; exact (by (with_reducible repeat (first | refine blk_drewN ?_ _ | refine blk_drew ?_ | refine blk_alloc ?_ _)); exact BK252.out)⟩; have n7_ : Aside0 (Below w.heap.size w w59) := ⟨by rw [← hq_]; exact (by repeat (first | (with_reducible first | exact HB.out | apply below_alloc | apply pw_below_drewN | apply below_drew1 | refine below_set ?_ GE233.out | refine below_set ?_ GE234.out | refine below_set ?_ GE252.out) | exact HB.out))⟩; clear HO238 HO247 HO251 HO261 BK233 BK234 BK252 HB hq_; have HO238 := n0_; have HO247 := n1_; have HO251 := n2_; have HO261 := n3_; have BK233 := n4_; have BK234 := n5_; have BK252 := n6_; have HB := n7_; clear n0_ n1_ n2_ n3_ n4_ n5_ n6_ n7_))
             replace HO238 := Aside0.mk (Kd.S_drew HO238.out)
             replace HO247 := Aside0.mk (Kd.R_drew HO247.out)
             replace HO251 := Aside0.mk (Kd.S_drew HO251.out)
             replace HO261 := Aside0.mk (Kd.R_drew HO261.out)
             replace BK233 := Aside0.mk (blk_drew BK233.out)
             replace BK234 := Aside0.mk (blk_drew BK234.out)
             replace BK252 := Aside0.mk (blk_drew BK252.out)
             replace HB := Aside0.mk (below_drew1 HB.out)
             refine start_ (n := 5) (S := fun w' => w'.cell? ⟨gb252, 0, none⟩ = some (.slice Ao52 t249.length co52) ∧ w'.cell? ⟨gb233, 0, none⟩ = some (.slice A0_0 l0_0.length c0_0)) (ds := []) #[false, false, false, false, false] (by kernel_rfl) rfl rfl ⟨zc0 BK252 0 rfl, zc0 BK233 0 rfl⟩ (fun hHeld => ?_)
             generalize w59.drew = w62 at HO238 HO247 HO251 HO261 BK233 BK234 BK252 HB hHeld ⊢
             refine take_ (i := 0) (N := some 47) (v := ?_) (a' := ?_) #[true, false, false, false, false] rfl rfl (by kernel_rfl) (fun _ _ _ h => h) (Or.inl ⟨by rfl, ?_⟩) hHeld ?_ ?_
             rotate_left
             ·rintro w' ⟨s0, s1⟩
              go_simp
              with_reducible rfl
             rotate_left
             ·simp only [Act.put, zp1, zp2, zp3, i64_w, i32_w]
              rfl
             refine take_ (i := 1) (N := some 48) (v := ?_) (a' := ?_) #[true, true, false, false, false] rfl rfl (by kernel_rfl) (fun _ _ _ h => h) (Or.inl ⟨by rfl, ?_⟩) hHeld ?_ ?_
             rotate_left
             ·rintro w' ⟨s0, s1⟩
              go_simp
              with_reducible rfl
             rotate_left
             ·simp only [Act.put, zp1, zp2, zp3, i64_w, i32_w]
              rfl
             refine one_ (i := 2) (N := some 49) #[true, true, true, false, false] rfl rfl (by kernel_rfl) (by decide) (fun K hK => ?_)
             refine goes_ Try.func16 (by kernel_rfl) rfl #[.agg #[.slice A0_0 l0_0.length c0_0]] (by rfl) rfl rfl (by (try simp only [List.map_toArray, List.map_cons, List.map_nil]); first | done | rfl | (simp only [List.length_drop, List.length_take]; rfl)) ?_
             with_reducible refine (laws_toMemory.calls k _ _ l0_0 t264 _ ?side1 ?side2 A19.out).mono ?_
             (case side1 => repeat (first | exact (Kd.C_below HR0_0.out HB.out) | (with_reducible refine Kd.C_alloc ?_ _) | (with_reducible refine Kd.C_drewN ?_ _) | (with_reducible refine Kd.C_drew ?_)))
             (case side2 => exact HC0_0.out)
             rintro e w63 ⟨v265, rfl, ho0, hb⟩
             refine ⟨_, rfl, ?_⟩
             have HO266 := Aside0.mk (Kd.S_lower (Kd.S_new' (Kd.S_new' (Kd.S_new' (Kd.S_new' ho0 (Kd.S_lt (zs0 HO238))) (Kd.R_lt (zr0 HO247))) (Kd.S_lt (zs0 HO251))) (Kd.R_lt (zr0 HO261))) (below_size (zh0 HB)))
             replace HO238 := Aside0.mk (Kd.S_elder' (zs0 HO238) (Kd.S_base ho0) hb)
             replace HO247 := zrb HO247 hb
             replace HO251 := Aside0.mk (Kd.S_elder' (zs0 HO251) (Kd.S_base ho0) hb)
             replace HO261 := zrb HO261 hb
             replace BK233 := zb0 BK233 hb
             replace BK234 := zb0 BK234 hb
             replace BK252 := zb0 BK252 hb
             replace HB := zhs HB hb
             (try clear hb)
             (try clear hb2)
             (try clear hk)
             (try clear hi)
             (try clear ho0)
             obtain ⟨Ao64, co64, eo64⟩ := Kd.S_slice HO266.out
             (first | subst eo64 | (injection eo64 with f1_ f2_ f3_; have f4_ := f1_.symm; have f5_ := f3_.symm; clear f1_ f2_ f3_; subst f4_; subst f5_))
             refine hK.out _ _ ⟨zc0 BK252 0 rfl, zc0 BK233 0 rfl⟩ (fun hHeld => ?_)
             clear hK K
             refine norm_ (a' := ?_) ?_ ?_
             rotate_left
             ·show Act.put _ (some 49) _ = _
              simp only [Act.put, zp1, zp2, zp3, i64_w, i32_w]
              rfl
             refine one_ (i := 3) (N := some 50) #[true, true, true, true, false] rfl rfl (by kernel_rfl) (by decide) (fun K hK => ?_)
             refine goes_ Try.func19 (by kernel_rfl) rfl #[.agg #[.slice Ao52 t249.length co52], .agg #[.slice Ao64 t264.length co64]] (by rfl) rfl rfl (by (try simp only [List.map_toArray, List.map_cons, List.map_nil]); first | done | rfl | (simp only [List.length_drop, List.length_take]; rfl)) ?_
             with_reducible refine (laws_eqMemory.calls k _ _ t249 _ _ t264 true _ ?side1 ?side2 ?side3 ?side4 A20.out).mono ?_
             (case side1 => repeat (first | exact (Kd.S_reads' HO251.out).2.2 | (with_reducible refine Kd.C_alloc ?_ _) | (with_reducible refine Kd.C_drewN ?_ _) | (with_reducible refine Kd.C_drew ?_)))
             (case side2 => exact (Kd.S_reads' HO251.out).2.1)
             (case side3 => repeat (first | exact (Kd.S_reads' HO266.out).2.2 | (with_reducible refine Kd.C_alloc ?_ _) | (with_reducible refine Kd.C_drewN ?_ _) | (with_reducible refine Kd.C_drew ?_)))
             (case side4 => exact (Kd.S_reads' HO266.out).2.1)
             rintro e w65 ⟨rfl, hb⟩
             refine ⟨_, rfl, ?_⟩
             replace HO238 := zsb HO238 hb
             replace HO247 := zrb HO247 hb
             replace HO251 := zsb HO251 hb
             replace HO261 := zrb HO261 hb
             replace HO266 := zsb HO266 hb
             replace BK233 := zb0 BK233 hb
             replace BK234 := zb0 BK234 hb
             replace BK252 := zb0 BK252 hb
             replace HB := zhs HB hb
             (try clear hb)
             (try clear hb2)
             (try clear hk)
             (try clear hi)
             refine hK.out _ _ ⟨zc0 BK252 0 rfl, zc0 BK233 0 rfl⟩ (fun hHeld => ?_)
             clear hK K
             refine norm_ (a' := ?_) ?_ ?_
             rotate_left
             ·show Act.put _ (some 50) _ = _
              simp only [Act.put, zp1, zp2, zp3, i64_w, i32_w]
              rfl
             refine pure_ (i := 4) (N := some 51) (v := ?_) (a' := ?_) #[true, true, true, true, true] rfl rfl (by kernel_rfl) (fun _ _ _ h => h) (Or.inl ⟨by rfl, ?_⟩) ?_ ?_
             rotate_left
             ·intro w'
              go_simp
              with_reducible rfl
             rotate_left
             ·simp only [Act.put, zp1, zp2, zp3, i64_w, i32_w]
              rfl
             refine done_ (by kernel_rfl) ?_
             have hcz66_0 : w65.cell? ⟨gb252, 0, none⟩ = some (.slice Ao52 t249.length co52) := zc0 BK252 0 rfl
             have hfz66_0 := blk_frozen BK252.out 0
             try go_wp2_with (first | ((with_reducible refine gate_callee (f := 45) rfl ?_); refine goesL_ (some 54) rfl rfl Try.func45 (by kernel_rfl) rfl #[.agg #[.slice Ao52 t249.length co52], .int .i64 1] rfl (by (try simp only [List.map_toArray, List.map_cons, List.map_nil]); first | done | rfl | (simp only [List.length_drop, List.length_take]; rfl)) ?_; (with_reducible refine (laws_markMemory.calls k (fun k_ => some k_ ≠ (.slice Ao47 t236.length co47 : Value).ownBlock ∧ some k_ ≠ (.slice Ao61 t245.length co61 : Value).ownBlock ∧ some k_ ≠ (.slice Ao60 t259.length co60 : Value).ownBlock ∧ some k_ ≠ (.slice Ao64 t264.length co64 : Value).ownBlock ∧ k_ ≠ gb233 ∧ k_ ≠ gb234 ∧ k_ ≠ gb252) (.slice Ao52 t249.length co52) t249 1 t268 w _ ?side1 ?side2 A22.out).mono ?_); (case side1 => repeat (first | (with_reducible first | exact HB.out | apply below_alloc | apply pw_below_drewN | apply below_drew1 | refine below_set ?_ GE233.out | refine below_set ?_ GE234.out | refine below_set ?_ GE252.out) | exact HB.out)); (case side2 => exact (Kd.S_mono (ok' := fun k_ => some k_ ≠ (.slice Ao47 t236.length co47 : Value).ownBlock ∧ some k_ ≠ (.slice Ao61 t245.length co61 : Value).ownBlock ∧ some k_ ≠ (.slice Ao60 t259.length co60 : Value).ownBlock ∧ some k_ ≠ (.slice Ao64 t264.length co64 : Value).ownBlock ∧ k_ ≠ gb233 ∧ k_ ≠ gb234 ∧ k_ ≠ gb252) (Kd.S_types (Kd.S_types (Kd.S_types (HO251.out) BK233.out (by decide)) BK234.out (by decide)) BK252.out (by decide)) (fun k_ hk_ => by first | exact ⟨hk_.1.1.1.1.1.1, ⟨hk_.1.1.1.1.1.2, ⟨hk_.1.1.1.1.2, ⟨hk_.1.1.1.2, ⟨hk_.1.1.2, ⟨hk_.1.2, hk_.2⟩⟩⟩⟩⟩⟩ | exact ⟨hk_.1.1.1.1, ⟨hk_.1.1.1.2.1, ⟨hk_.1.1.1.2.2.1, ⟨hk_.1.1.1.2.2.2, ⟨hk_.1.1.2, ⟨hk_.1.2, hk_.2⟩⟩⟩⟩⟩⟩ | (simp only [and_assoc, true_and] at hk_ ⊢; exact hk_) | simp_all))); rintro e w67 ⟨rfl, hb, hkp⟩; refine ⟨_, rfl, ?_⟩; have n0_ := Aside0.mk (blk_kept (zk0 BK233) hkp (fun hs_ => (fun e_ => (e_.2.2.2.2.1) rfl) hs_)); have n1_ := Aside0.mk (blk_kept (zk0 BK234) hkp (fun hs_ => (fun e_ => (e_.2.2.2.2.2.1) rfl) hs_)); have n2_ := Aside0.mk (Kd.R_mono (ok' := fun k_ => some k_ ≠ (.slice Ao60 t259.length co60 : Value).ownBlock) (Kd.R_keptB ((znest (P := fun k_ => some k_ ≠ (.slice Ao47 t236.length co47 : Value).ownBlock ∧ some k_ ≠ (.slice Ao61 t245.length co61 : Value).ownBlock ∧ some k_ ≠ (.slice Ao60 t259.length co60 : Value).ownBlock ∧ some k_ ≠ (.slice Ao64 t264.length co64 : Value).ownBlock ∧ k_ ≠ gb233 ∧ k_ ≠ gb234 ∧ k_ ≠ gb252) rfl HO247.out (fun k_ hs2_ => hs2_.2.1))) hkp (fun k_ hk_ hs_ => (hk_.2) hs_)) (fun k_ hk_ => (by first | exact hk_.1.1.2 | exact hk_.1.1 | simp_all))); have n3_ := Aside0.mk (blk_kept (zk0 BK252) hkp (fun hs_ => (fun e_ => (e_.2.2.2.2.2.2) rfl) hs_)); have n4_ := Aside0.mk (Kd.R_mono (ok' := fun k_ => some k_ ≠ (.slice Ao61 t245.length co61 : Value).ownBlock) (Kd.R_keptB ((znest (P := fun k_ => some k_ ≠ (.slice Ao47 t236.length co47 : Value).ownBlock ∧ some k_ ≠ (.slice Ao61 t245.length co61 : Value).ownBlock ∧ some k_ ≠ (.slice Ao60 t259.length co60 : Value).ownBlock ∧ some k_ ≠ (.slice Ao64 t264.length co64 : Value).ownBlock ∧ k_ ≠ gb233 ∧ k_ ≠ gb234 ∧ k_ ≠ gb252) rfl HO261.out (fun k_ hs2_ => hs2_.2.2.1))) hkp (fun k_ hk_ hs_ => (hk_.2) hs_)) (fun k_ hk_ => (by first | exact hk_.1.1.2 | exact hk_.1.1 | simp_all))); have n5_ := Aside0.mk (hb); clear BK233; clear BK234; clear HO247; clear BK252; clear HO261; clear HB; clear HO238; clear HO251; clear HO266; have BK233 := n0_; have BK234 := n1_; have HO247 := n2_; have BK252 := n3_; have HO261 := n4_; have HB := n5_; clear n0_ n1_ n2_ n3_ n4_ n5_; (try clear hb); (try clear hkp)) | (go_at_call 44; (with_reducible refine (laws_eqByteS.calls k _ _ t259 _ _ t245 true _ ?side1 ?side2 ?side3 ?side4 A24.out).mono ?_); (case side1 => repeat (first | exact (Kd.R_reads' HO261.out).2.2 | (with_reducible refine Kd.C_alloc ?_ _) | (with_reducible refine Kd.C_drewN ?_ _) | (with_reducible refine Kd.C_drew ?_))); (case side2 => exact (Kd.R_reads' HO261.out).2.1); (case side3 => repeat (first | exact (Kd.R_reads' HO247.out).2.2 | (with_reducible refine Kd.C_alloc ?_ _) | (with_reducible refine Kd.C_drewN ?_ _) | (with_reducible refine Kd.C_drew ?_))); (case side4 => exact (Kd.R_reads' HO247.out).2.1); rintro e w' ⟨rfl, ⟨nd, rfl⟩⟩) | ((with_reducible refine gate_callee (f := 46) rfl ?_); refine goesL_ (some 70) rfl rfl Try.func46 (by kernel_rfl) rfl #[.slice Ao60 t259.length co60, .int .i64 1] rfl (by (try simp only [List.map_toArray, List.map_cons, List.map_nil]); first | done | rfl | (simp only [List.length_drop, List.length_take]; rfl)) ?_; (with_reducible refine (laws_markByteS.calls k (fun k_ => some k_ = (.slice Ao60 t259.length co60 : Value).ownBlock) (.slice Ao60 t259.length co60) t259 1 t270 t271 w _ ?side1 ?side2 A26.out).mono ?_); (case side1 => repeat (first | (with_reducible first | exact HB.out | apply below_alloc | apply pw_below_drewN | apply below_drew1 | refine below_set ?_ GE233.out | refine below_set ?_ GE234.out | refine below_set ?_ GE252.out) | exact HB.out)); (case side2 => exact Kd.R_tight rfl HO261.out); rintro e w68 ⟨rfl, hy0, hb, hkp⟩; refine ⟨_, rfl, ?_⟩; have n0_ := Aside0.mk (blk_kept (zk0 BK233) hkp (fun hs_ => (fun e_ => (Kd.R_ne HO261.out BK233.out (by decide)) e_) hs_)); have n1_ := Aside0.mk (blk_kept (zk0 BK234) hkp (fun hs_ => (fun e_ => (Kd.R_ne HO261.out BK234.out (by decide)) e_) hs_)); have n2_ := Aside0.mk (Kd.R_mono (ok' := fun k_ => some k_ ≠ (.slice Ao60 t259.length co60 : Value).ownBlock) (Kd.R_keptB (HO247.out) hkp (fun k_ hk_ hs_ => (hk_) hs_)) (fun k_ hk_ => hk_.1)); have n3_ := Aside0.mk (blk_kept (zk0 BK252) hkp (fun hs_ => (fun e_ => (Kd.R_ne HO261.out BK252.out (by decide)) e_) hs_)); have n4_ := Aside0.mk (Kd.R_reok rfl hy0 (fun k_ e_ => HO261.out.1 k_ e_)); have n5_ := Aside0.mk (hb); clear BK233; clear BK234; clear HO247; clear BK252; clear HO261; clear HB; have BK233 := n0_; have BK234 := n1_; have HO247 := n2_; have BK252 := n3_; have HO261 := n4_; have HB := n5_; clear n0_ n1_ n2_ n3_ n4_ n5_; (try clear hb); (try clear hkp); (try clear hy0)) | ((with_reducible refine gate_callee (f := 47) rfl ?_); refine goesL_ (some 73) rfl rfl Try.func47 (by kernel_rfl) rfl #[.slice Ao60 t271.length co60, .int .i64 1] rfl (by (try simp only [List.map_toArray, List.map_cons, List.map_nil]); first | done | (rw [show t271.length = t259.length from (Kd.R_reads' HO261.out).1.symm] <;> rfl) | rfl | (simp only [List.length_drop, List.length_take]; rfl)) ?_; (with_reducible refine (laws_heldByteS.calls k _ _ t271 1 t272 _ ?side1 ?side2 A27.out).mono ?_); (case side1 => repeat (first | exact (Kd.R_reads' HO261.out).2.2 | (with_reducible refine Kd.C_alloc ?_ _) | (with_reducible refine Kd.C_drewN ?_ _) | (with_reducible refine Kd.C_drew ?_))); (case side2 => rw [show t271.length = t259.length from (Kd.R_reads' HO261.out).1.symm]; exact (Kd.R_reads' HO261.out).2.1); rintro e w' ⟨rfl, ⟨nd, rfl⟩⟩; refine ⟨_, rfl, ?_⟩))
             (try simp only [World.drewN_drewN]); (try (rw [drewN_self w68]; generalize hq_ : World.drewN w68 _ = w68; have n0_ : Aside0 (Kd.R (Kd.int .u8) 5 w68 w.heap.size (fun k_ => some k_ ≠ (.slice Ao60 t259.length co60 : Value).ownBlock) (.slice Ao61 t245.length co61) t245) := ⟨by rw [← hq_]; exact (by (with_reducible repeat (first | apply Kd.R_alloc | apply Kd.R_drewN | apply Kd.R_drew)); exact HO247.out)⟩; have n1_ : Aside0 (Kd.R (Kd.int .u8) 5 w68 w.heap.size (fun k_ => some k_ ≠ (.slice Ao61 t245.length co61 : Value).ownBlock) (.slice Ao60 t259.length co60) t271) := ⟨by rw [← hq_]; exact (by (with_reducible repeat (first | apply Kd.R_alloc | apply Kd.R_drewN | apply Kd.R_drew)); exact HO261.out)⟩; have n2_ : Aside0 (w68.heap[gb233]? = some (.cells #[.slice A0_0 l0_0.length c0_0] 24 (0, 0))) := ⟨by rw [← hq_]; exact (by (with_reducible repeat (first | refine blk_drewN ?_ _ | refine blk_drew ?_ | refine blk_alloc ?_ _)); exact BK233.out)⟩; have n3_ : Aside0 (w68.heap[gb234]? = some (.cells #[.int .i64 a1_0, .int .i64 a1_1, .int .i64 a1_2, .int .i64 a1_3, .int .i64 a1_4, .int .i64 a1_5] 28 (0, 0))) := ⟨by rw [← hq_]; exact (by (with_reducible repeat (first | refine blk_drewN ?_ _ | refine blk_drew ?_ | refine blk_alloc ?_ _)); exact BK234.out)⟩; have n4_ : Aside0 (w68.heap[gb252]? = some (.cells #[.slice Ao52 t249.length co52] 32 (0, 0))) := ⟨by rw [← hq_]; exact (by (with_reducible repeat (first | refine blk_drewN ?_ _ | refine blk_drew ?_ | refine blk_alloc ?_ _)); exact BK252.out)⟩; have n5_ : Aside0 (Below w.heap.size w w68) := ⟨by rw [← hq_]; exact (by repeat (first | (with_reducible first | exact HB.out | apply below_alloc | apply pw_below_drewN | apply below_drew1 | refine below_set ?_ GE233.out | refine below_set ?_ GE234.out | refine below_set ?_ GE252.out) | exact HB.out))⟩; clear HO247 HO261 BK233 BK234 BK252 HB hq_; have HO247 := n0_; have HO261 := n1_; have BK233 := n2_; have BK234 := n3_; have BK252 := n4_; have HB := n5_; clear n0_ n1_ n2_ n3_ n4_ n5_))
             replace HO247 := Aside0.mk (Kd.R_drew HO247.out)
             replace HO261 := Aside0.mk (Kd.R_drew HO261.out)
             replace BK233 := Aside0.mk (blk_drew BK233.out)
             replace BK234 := Aside0.mk (blk_drew BK234.out)
             replace BK252 := Aside0.mk (blk_drew BK252.out)
             replace HB := Aside0.mk (below_drew1 HB.out)
             refine start_ (n := 10) (S := fun w' => w'.cell? ⟨gb233, 0, none⟩ = some (.slice A0_0 l0_0.length c0_0) ∧ w'.cell? ⟨gb234, 0, none⟩ = some (.int .i64 a1_0) ∧ w'.cell? ⟨gb234, 1, none⟩ = some (.int .i64 a1_1) ∧ w'.cell? ⟨gb234, 2, none⟩ = some (.int .i64 a1_2) ∧ w'.cell? ⟨gb234, 3, none⟩ = some (.int .i64 a1_3) ∧ w'.cell? ⟨gb234, 4, none⟩ = some (.int .i64 a1_4) ∧ w'.cell? ⟨gb234, 5, none⟩ = some (.int .i64 a1_5)) (ds := []) #[false, false, false, false, false, false, false, false, false, false] (by kernel_rfl) rfl rfl ⟨zc0 BK233 0 rfl, zc0 BK234 0 rfl, zc0 BK234 1 rfl, zc0 BK234 2 rfl, zc0 BK234 3 rfl, zc0 BK234 4 rfl, zc0 BK234 5 rfl⟩ (fun hHeld => ?_); refine with_tabW laws_FnExactRingBytes.tab24 laws_FnExactRingBytes.bits24 (fun HT_ HW_ => ?_)
             generalize w68.drew = w69 at HO247 HO261 BK233 BK234 BK252 HB hHeld ⊢
             refine take_ (i := 0) (N := some 80) (v := ?_) (a' := ?_) #[true, false, false, false, false, false, false, false, false, false] rfl rfl (take_ofW HT_.out HW_.out (by kernel_rfl)) (fun _ _ _ h => h) (Or.inl ⟨by rfl, ?_⟩) hHeld ?_ ?_
             rotate_left
             ·rintro w' ⟨s0, s1, s2, s3, s4, s5, s6⟩
              go_simp
              with_reducible rfl
             rotate_left
             ·simp only [Act.put, zp1, zp2, zp3, i64_w, i32_w]
              rfl
             refine take_ (i := 2) (N := some 82) (v := ?_) (a' := ?_) #[true, false, true, false, false, false, false, false, false, false] rfl rfl (take_ofW HT_.out HW_.out (by kernel_rfl)) (fun _ _ _ h => h) (Or.inl ⟨by rfl, ?_⟩) hHeld ?_ ?_
             rotate_left
             ·rintro w' ⟨s0, s1, s2, s3, s4, s5, s6⟩
              go_simp
              with_reducible rfl
             rotate_left
             ·simp only [Act.put, zp1, zp2, zp3, i64_w, i32_w]
              rfl
             refine one_ (i := 1) (N := some 81) #[true, true, true, false, false, false, false, false, false, false] rfl rfl (one_of HT_.out (by kernel_rfl)) (by decide) (fun K hK => ?_)
             refine goes_ Try.func16 (by kernel_rfl) rfl #[.agg #[.slice A0_0 l0_0.length c0_0]] (by rfl) rfl rfl (by (try simp only [List.map_toArray, List.map_cons, List.map_nil]); first | done | rfl | (simp only [List.length_drop, List.length_take]; rfl)) ?_
             with_reducible refine (laws_toMemory.calls k _ _ l0_0 t273 _ ?side1 ?side2 A30.out).mono ?_
             (case side1 => repeat (first | exact (Kd.C_below HR0_0.out HB.out) | (with_reducible refine Kd.C_alloc ?_ _) | (with_reducible refine Kd.C_drewN ?_ _) | (with_reducible refine Kd.C_drew ?_)))
             (case side2 => exact HC0_0.out)
             rintro e w70 ⟨v274, rfl, ho0, hb⟩
             refine ⟨_, rfl, ?_⟩
             have HO275 := Aside0.mk (Kd.S_lower (Kd.S_new' (Kd.S_new' ho0 (Kd.R_lt (zr0 HO247))) (Kd.R_lt (zr0 HO261))) (below_size (zh0 HB)))
             replace HO247 := zrb HO247 hb
             replace HO261 := zrb HO261 hb
             replace BK233 := zb0 BK233 hb
             replace BK234 := zb0 BK234 hb
             replace BK252 := zb0 BK252 hb
             replace HB := zhs HB hb
             (try clear hb)
             (try clear hb2)
             (try clear hk)
             (try clear hi)
             (try clear ho0)
             refine hK.out _ _ ⟨zc0 BK233 0 rfl, zc0 BK234 0 rfl, zc0 BK234 1 rfl, zc0 BK234 2 rfl, zc0 BK234 3 rfl, zc0 BK234 4 rfl, zc0 BK234 5 rfl⟩ (fun hHeld => ?_)
             clear hK K
             refine norm_ (a' := ?_) ?_ ?_
             rotate_left
             ·show Act.put _ (some 81) _ = _
              simp only [Act.put, zp1, zp2, zp3, i64_w, i32_w]
              rfl
             refine one_ (i := 3) (N := some 83) #[true, true, true, true, false, false, false, false, false, false] rfl rfl (one_of HT_.out (by kernel_rfl)) (by decide) (fun K hK => ?_)
             refine goes_ Try.func17 (by kernel_rfl) rfl #[.agg #[.int .i64 a1_0, .int .i64 a1_1, .int .i64 a1_2, .int .i64 a1_3, .int .i64 a1_4, .int .i64 a1_5]] (by rfl) rfl rfl (by (try simp only [List.map_toArray, List.map_cons, List.map_nil]); first | done | rfl | (simp only [List.length_drop, List.length_take]; rfl)) ?_
             with_reducible refine (laws_toRing.calls a1_0 a1_1 a1_2 a1_3 a1_4 a1_5 t276 t277 t278 t279 t280 t281 _ A31.out).mono ?_
             rintro e w71 ⟨rfl, hb⟩
             refine ⟨_, rfl, ?_⟩
             replace HO247 := zrb HO247 hb
             replace HO261 := zrb HO261 hb
             replace HO275 := zsb HO275 hb
             replace BK233 := zb0 BK233 hb
             replace BK234 := zb0 BK234 hb
             replace BK252 := zb0 BK252 hb
             replace HB := zhs HB hb
             (try clear hb)
             (try clear hb2)
             (try clear hk)
             (try clear hi)
             obtain ⟨Ao72, co72, eo72⟩ := Kd.S_slice HO275.out
             (first | subst eo72 | (injection eo72 with f1_ f2_ f3_; have f4_ := f1_.symm; have f5_ := f3_.symm; clear f1_ f2_ f3_; subst f4_; subst f5_))
             refine hK.out _ _ ⟨zc0 BK233 0 rfl, zc0 BK234 0 rfl, zc0 BK234 1 rfl, zc0 BK234 2 rfl, zc0 BK234 3 rfl, zc0 BK234 4 rfl, zc0 BK234 5 rfl⟩ (fun hHeld => ?_)
             clear hK K
             refine norm_ (a' := ?_) ?_ ?_
             rotate_left
             ·show Act.put _ (some 83) _ = _
              simp only [Act.put, zp1, zp2, zp3, i64_w, i32_w]
              rfl
             refine one_ (i := 4) (N := some 84) #[true, true, true, true, true, false, false, false, false, false] rfl rfl (one_of HT_.out (by kernel_rfl)) (by decide) (fun K hK => ?_)
             refine goes_ Try.func43 (by kernel_rfl) rfl #[.agg #[.slice Ao72 t273.length co72], .agg #[.int .i64 t276, .int .i64 t277, .int .i64 t278, .int .i64 t279, .int .i64 t280, .int .i64 t281]] (by rfl) rfl rfl (by (try simp only [List.map_toArray, List.map_cons, List.map_nil]); first | done | rfl | (simp only [List.length_drop, List.length_take]; rfl)) ?_
             with_reducible refine (impl_RingBytes.calls k _ _ t273 t276 t277 t278 t279 t280 t281 t282 t285 _ ?side1 ?side2 A32.out).mono ?_
             (case side1 => repeat (first | exact (Kd.S_reads' HO275.out).2.2 | (with_reducible refine Kd.C_alloc ?_ _) | (with_reducible refine Kd.C_drewN ?_ _) | (with_reducible refine Kd.C_drew ?_)))
             (case side2 => exact (Kd.S_reads' HO275.out).2.1)
             rintro e w73 ⟨v283, rfl, ho0, hb⟩
             refine ⟨_, rfl, ?_⟩
             have HO284 := Aside0.mk (Kd.R_lower (Kd.R_new' (Kd.R_new' ho0 (Kd.R_lt (zr0 HO247))) (Kd.R_lt (zr0 HO261))) (below_size (zh0 HB)))
             replace HO247 := Aside0.mk (Kd.R_elder' (zr0 HO247) (Kd.R_base ho0) hb)
             replace HO261 := Aside0.mk (Kd.R_elder' (zr0 HO261) (Kd.R_base ho0) hb)
             replace HO275 := Aside0.mk (Kd.S_elder' (zs0 HO275) (Kd.R_base ho0) hb)
             replace BK233 := zb0 BK233 hb
             replace BK234 := zb0 BK234 hb
             replace BK252 := zb0 BK252 hb
             replace HB := zhs HB hb
             (try clear hb)
             (try clear hb2)
             (try clear hk)
             (try clear hi)
             (try clear ho0)
             refine hK.out _ _ ⟨zc0 BK233 0 rfl, zc0 BK234 0 rfl, zc0 BK234 1 rfl, zc0 BK234 2 rfl, zc0 BK234 3 rfl, zc0 BK234 4 rfl, zc0 BK234 5 rfl⟩ (fun hHeld => ?_)
             clear hK K
             refine norm_ (a' := ?_) ?_ ?_
             rotate_left
             ·show Act.put _ (some 84) _ = _
              simp only [Act.put, zp1, zp2, zp3, i64_w, i32_w]
              rfl
             refine pure_ (i := 5) (N := some 79) (v := ?_) (a' := ?_) #[true, true, true, true, true, true, false, false, false, false] rfl rfl (any_of HT_.out (by kernel_rfl)) (fun _ _ _ h => h) (Or.inl ⟨by rfl, ?_⟩) ?_ ?_
             rotate_left
             ·intro w'
              go_simp
              with_reducible rfl
             rotate_left
             ·simp only [Act.put, zp1, zp2, zp3, i64_w, i32_w]
              rfl
             refine pure_ (i := 6) (N := some 85) (v := ?_) (a' := ?_) #[true, true, true, true, true, true, true, false, false, false] rfl rfl (any_of HT_.out (by kernel_rfl)) (fun _ _ _ h => h) (Or.inl ⟨by rfl, ?_⟩) ?_ ?_
             rotate_left
             ·intro w'
              go_simp
              with_reducible rfl
             rotate_left
             ·simp only [Act.put, zp1, zp2, zp3, i64_w, i32_w]
              rfl
             refine pure_ (i := 7) (N := some 86) (v := ?_) (a' := ?_) #[true, true, true, true, true, true, true, true, false, false] rfl rfl (any_of HT_.out (by kernel_rfl)) (fun _ _ _ h => h) (Or.inl ⟨by rfl, ?_⟩) ?_ ?_
             rotate_left
             ·intro w'
              go_simp
              with_reducible rfl
             rotate_left
             ·simp only [Act.put, zp1, zp2, zp3, i64_w, i32_w]
              rfl
             refine pure_ (i := 8) (N := some 14) (v := ?_) (a' := ?_) #[true, true, true, true, true, true, true, true, true, false] rfl rfl (any_of HT_.out (by kernel_rfl)) (fun _ _ _ h => h) (Or.inl ⟨by rfl, ?_⟩) ?_ ?_
             rotate_left
             ·intro w'
              go_simp
              with_reducible rfl
             rotate_left
             ·simp only [Act.put, zp1, zp2, zp3, i64_w, i32_w]
              rfl
             refine pure_ (i := 9) (N := some 15) (v := ?_) (a' := ?_) #[true, true, true, true, true, true, true, true, true, true] rfl rfl (any_of HT_.out (by kernel_rfl)) (fun _ _ _ h => h) (Or.inl ⟨by rfl, ?_⟩) ?_ ?_
             rotate_left
             ·intro w'
              go_simp
              with_reducible rfl
             rotate_left
             ·simp only [Act.put, zp1, zp2, zp3, i64_w, i32_w]
              rfl
             refine done_ (done_of HT_.out (by kernel_rfl)) ?_
             obtain ⟨Ao74, co74, eo74⟩ := Kd.R_slice HO284.out
             subst eo74
             try go_wp2_with (first | ((with_reducible refine gate_callee (f := 44) rfl ?_); refine goesL_ (some 89) rfl rfl Try.func44 (by kernel_rfl) rfl #[.slice Ao74 t282.length co74, .slice Ao61 t245.length co61] rfl (by (try simp only [List.map_toArray, List.map_cons, List.map_nil]); first | done | rfl | (simp only [List.length_drop, List.length_take]; rfl)) ?_; (with_reducible refine (laws_eqByteS.calls k _ _ t282 _ _ t245 true _ ?side1 ?side2 ?side3 ?side4 A33.out).mono ?_); (case side1 => repeat (first | exact (Kd.R_reads' HO284.out).2.2 | (with_reducible refine Kd.C_alloc ?_ _) | (with_reducible refine Kd.C_drewN ?_ _) | (with_reducible refine Kd.C_drew ?_))); (case side2 => exact (Kd.R_reads' HO284.out).2.1); (case side3 => repeat (first | exact (Kd.R_reads' HO247.out).2.2 | (with_reducible refine Kd.C_alloc ?_ _) | (with_reducible refine Kd.C_drewN ?_ _) | (with_reducible refine Kd.C_drew ?_))); (case side4 => exact (Kd.R_reads' HO247.out).2.1); rintro e w' ⟨rfl, ⟨nd, rfl⟩⟩; refine ⟨_, rfl, ?_⟩) | ((with_reducible refine gate_callee (f := 47) rfl ?_); refine goesL_ (some 98) rfl rfl Try.func47 (by kernel_rfl) rfl #[.slice Ao60 t271.length co60, .int .i64 1] rfl (by (try simp only [List.map_toArray, List.map_cons, List.map_nil]); first | done | (rw [show t271.length = t259.length from (Kd.R_reads' HO261.out).1.symm] <;> rfl) | rfl | (simp only [List.length_drop, List.length_take]; rfl)) ?_; (with_reducible refine (laws_heldByteS.calls k _ _ t271 1 t287 _ ?side1 ?side2 A36.out).mono ?_); (case side1 => repeat (first | exact (Kd.R_reads' HO261.out).2.2 | (with_reducible refine Kd.C_alloc ?_ _) | (with_reducible refine Kd.C_drewN ?_ _) | (with_reducible refine Kd.C_drew ?_))); (case side2 => rw [show t271.length = t259.length from (Kd.R_reads' HO261.out).1.symm]; exact (Kd.R_reads' HO261.out).2.1); rintro e w' ⟨rfl, ⟨nd, rfl⟩⟩; refine ⟨_, rfl, ?_⟩))
             go_ret
             exact ⟨by first | rfl | (simp [errW_none, errW_some] <;> rfl) | (simp [*, errW_none, errW_some] <;> rfl), by repeat (first | (with_reducible first | exact HB.out | apply below_alloc | apply pw_below_drewN | apply below_drew1 | refine below_set ?_ GE233.out | refine below_set ?_ GE234.out | refine below_set ?_ GE252.out) | exact HB.out)⟩
            ·rw [if_neg c38] at H
             exact absurd H (by simp)
         ·replace c34 := Bool.eq_false_iff.mpr c34
          subst c34
          have H1 : (none) = some r := by rw [if_neg (show ¬ (false = true) by decide)] at H; exact H
          clear H
          have H := H1
          clear H1
          exact absurd H (by simp)
        ·rw [if_neg c29] at H
         exact absurd H (by simp)
      ·replace c25 := Bool.eq_false_iff.mpr c25
       subst c25
       have H1 : (none) = some r := by rw [if_neg (show ¬ (false = true) by decide)] at H; exact H
       clear H
       have H := H1
       clear H1
       exact absurd H (by simp)
    ·replace c21 := Bool.eq_false_iff.mpr c21
     subst c21
     have H1 : (none) = some r := by rw [if_neg (show ¬ (false = true) by decide)] at H; exact H
     clear H
     have H := H1
     clear H1
     exact absurd H (by simp)
  ·replace c17 := Bool.eq_false_iff.mpr c17
   subst c17
   have H1 : (none) = some r := by rw [if_neg (show ¬ (false = true) by decide)] at H; exact H
   clear H
   have H := H1
   clear H1
   exact absurd H (by simp)

end Go.Proofs.Ytdojnaghcfhadaa.PFnExactRingBytes
