/- What is proved here: each Go function that is named below answers, and leaves memory, as the theorem of its name says; no condition beyond those that each theorem states. Laid by this session's own program (wip/driver.py) over the kit's print. -/
import Derived.Test.YtkifenbcepicjaaPFnExactDropEntryx0
namespace Go.Proofs.Ytkifenbcepicjaa.PFnExactDropEntry
open Go.RowKit Go.Proofs.YtkifenbcepicjaaW.PrintWords Go.Proofs.YtkifenbcepicjaaW.PrintLast Go.Proofs.YtkifenbcepicjaaW.PrintMore
attribute [local go_sem] max2_int min2_int max_two min_two max_three min_three max_four min_four   -- for this text's walks alone
set_option linter.unusedVariables false
set_option linter.unusedSimpArgs false

open Go.Proofs.Ytkifenbcepicjaa.Cp
/-! ### laws_markByteS: function 73 -/
def laws_markByteS.l0 : Nat → List Int → Int → Int → Option (Int × List Int)
 | 0, _, _, _ => none
 | k + 1, x0, x1, x5 => if x5 < (x0.length : Int) then (if 0 ≤ x5 then (laws_markByteS.l0 k (x0.set (x5 : Int).toNat ((x1) % 256)) (wrap64 (x1 + 1)) (wrap64 (x5 + 1))) else (none)) else (some (x1, x0))
def laws_markByteS.f (k : Nat) (l0 : List Int) (a1 : Int) : Option (Int × List Int) := laws_markByteS.l0 k l0 a1 0
theorem laws_markByteS.mono_l : ∀ k, (∀ y0 y1 y2, LeO (laws_markByteS.l0 k y0 y1 y2) (laws_markByteS.l0 (k + 1) y0 y1 y2))
 | 0 => fun _ _ _ r h => by simp [laws_markByteS.l0] at h
 | k + 1 => by
  have ih0 := laws_markByteS.mono_l k
  ·intro y0 y1 y2
   unfold laws_markByteS.l0
   repeat' first
   | (with_reducible exact ih0 _ _ _)
   | (with_reducible exact LeO.refl _)
   | (with_reducible exact LeO.none _)
   | (with_reducible refine LeO.ite ?_ ?_)
   | (with_reducible refine LeO.bind ?_ (fun _ => ?_))
   | exact ih0 _ _ _
   | exact LeO.none _
   | refine LeO.ite ?_ ?_
   | refine LeO.bind ?_ (fun _ => ?_)
theorem laws_markByteS.mono : ∀ a0 a1 k, LeO (laws_markByteS.f k a0 a1) (laws_markByteS.f (k + 1) a0 a1) := by
 intro a0 a1 k
 have ih0 := laws_markByteS.mono_l k
 unfold laws_markByteS.f
 repeat' first
   | (with_reducible exact ih0 _ _ _)
   | (with_reducible exact LeO.refl _)
   | (with_reducible exact LeO.none _)
   | (with_reducible refine LeO.ite ?_ ?_)
   | (with_reducible refine LeO.bind ?_ (fun _ => ?_))
   | exact ih0 _ _ _
   | exact LeO.none _
   | refine LeO.ite ?_ ?_
   | refine LeO.bind ?_ (fun _ => ?_)
set_option maxHeartbeats 8000000 in
set_option maxRecDepth 100000 in
theorem laws_markByteS.calls (k : Nat) (P0_ : Nat → Prop) (u9000_ : Value) (l0 : List Int) (a1 : Int) (r1 : Int) (r2 : List Int) (w0 w : World) (hB : Below w0.heap.size w0 w) (ho0 : Kd.R (Kd.int .u8) 5 w w0.heap.size P0_ u9000_ l0) (h : laws_markByteS.f k l0 a1 = some (r1, r2)) :
  Calls Try.prog 73 #[u9000_, .int .i64 a1] w fun e w' => e = .returned (.int .i64 r1) ∧ Kd.R (Kd.int .u8) 5 w' w0.heap.size (fun k_ => (P0_ k_ ∨ w.heap.size ≤ k_)) u9000_ r2 ∧ Below w0.heap.size w0 w' ∧ Kept w w' (fun k_ => P0_ k_) := by
 have HO0 := Aside0.mk (show Kd.R (Kd.int .u8) 5 w w0.heap.size (fun k_ => (P0_ k_ ∨ w.heap.size ≤ k_)) u9000_ l0 from Kd.R_mono ho0 (fun k_ hk => (.inl hk)))
 have HK := Aside0.mk (Kept.refl w (fun k_ => P0_ k_))
 have HW0 := Aside0.mk hB.size
 have HB := Aside0.mk hB
 clear hB
 have H : (laws_markByteS.l0 k l0 a1 0) = some (r1, r2) := h
 clear h
 have H' := Aside0.mk H
 clear H
 go_enter Try.func73, Try.ntmps73
 go_wp2
 go_loopg [1, 5] k (fun kq v1 v5 w' => ∃ (x0_1 : List Int) (x1_1 : Int) (x5_1 : Int), v1 = .int .i64 x1_1 ∧ v5 = .int .i64 x5_1 ∧ Aside0 (laws_markByteS.l0 kq x0_1 x1_1 x5_1 = some (r1, r2)) ∧ Aside0 (kq ≤ k) ∧ Aside0 (Kd.R (Kd.int .u8) 5 w' w0.heap.size (fun k_ => (P0_ k_ ∨ w.heap.size ≤ k_)) u9000_ x0_1) ∧ Aside0 (Kept w w' (fun k_ => P0_ k_)) ∧ Aside0 (Below w0.heap.size w0 w'))
 case atStart => exact ⟨(l0), (a1), (0), (by first | rfl | (simp; done) | (simp [*]; done)), (by first | rfl | (simp; done) | (simp [*]; done)), H', ⟨Nat.le_refl _⟩, ⟨zr0 HO0⟩, ⟨by repeat (first | (with_reducible first | exact HK.out | apply Kept.alloc | apply Kept.drewN | apply Kept.drew) | exact HK.out)⟩, ⟨by repeat (first | exact zh0 HB)⟩⟩
 case round =>
  clear H'
  try clear p2
  obtain ⟨x0_1, x1_1, x5_1, rfl, rfl, HA, HK1, HO_0, HK, HB⟩ := hrel
  cases gk with
  | zero => exact absurd HA.out (by simp [laws_markByteS.l0])
  | succ k1 =>
   have H := HA.out
   clear HA
   simp only [laws_markByteS.l0] at H
   by_cases c3 : x5_1 < (x0_1.length : Int)
   ·rw [if_pos c3] at H
    have c3b0 : decide (x5_1 < (x0_1.length : Int)) = true := decide_eq_true c3
    clear c3
    by_cases c4 : 0 ≤ x5_1
    ·rw [if_pos c4] at H
     have c4b0 : decide (0 ≤ x5_1) = true := decide_eq_true c4
     clear c4
     obtain ⟨y137, hy137⟩ : ∃ y_ : List Int, y_ = (x0_1.set (x5_1 : Int).toNat ((x1_1) % 256)) := ⟨_, rfl⟩
     replace H : (laws_markByteS.l0 k1 y137 (wrap64 (x1_1 + 1)) (wrap64 (x5_1 + 1))) = some (r1, r2) := by first | (rw [hy137]; with_reducible exact H) | (have H2_ := (Option.bind_some _ _).symm.trans H; rw [hy137]; with_reducible exact H2_) | (have H2_ := (Option.bind_some _ _).symm.trans H; with_reducible exact H2_) | with_reducible exact H | (rw [hy137]; exact H) | exact H
     have Ny137 := Aside0.mk hy137
     clear hy137
     have H' := Aside0.mk H
     clear H
     obtain ⟨Ao6, co6, eo6⟩ := Kd.R_slice HO_0.out
     subst eo6
     have p5 : 0 ≤ (x5_1 : Int) := of_decide_eq_true (by first | (with_reducible assumption) | assumption)
     have q5 : (x5_1 : Int) < ((x0_1.length : Int) : Int) := of_decide_eq_true (by first | (with_reducible assumption) | assumption)
     obtain ⟨go5, co5, eo5, gb5, gl5, cl5, HG5⟩ := Kd.R_form HO_0.out (by omega)
     (first | cases eo5 | (injection eo5 with ea_ en_ ec_; (first | subst ea_ | (injection ea_ with ea_; subst ea_)); subst ec_; clear en_))
     have GB5 := Aside0.mk gb5
     have GG5 := Aside0.mk HG5
     clear gb5 gl5 HG5
     have HMgo5 := Aside0.mk (show (P0_ go5 ∨ w.heap.size ≤ go5) from (HO_0.out.1 _ rfl))
     obtain ⟨hx5_0, hf5_0⟩ := Kd.R_celln 0 HO_0.out (x5_1 : Int) p5 q5
     replace p5 := eq_true p5
     replace q5 := eq_true q5
     have HP7 := Kd.R_putg HO_0.out (x5_1 : Int) ((x1_1) % 256)
     go_wp2_with (first | ((with_reducible refine gate_store (t := 5) (p := 16) rfl ?_); refine store_event (t := 5) (p := 16) (v := ?vo_w8) (w1 := (wr.setCell ⟨go5, (x5_1 : Int).toNat, none⟩ (.int .u8 ((x1_1) % 256)))) ?hg ?ho ?hn ?hr ?_; (case ho => rfl); (case hg => rfl); (case hn => rfl); (case hr => first | (go_simp; done) | (go_simp; rfl)); intro w8 hw; have hg : wr.grownBy w8 (some go5) := (by rw [hw]; exact HP7.2); have hp_ : Kd.R (Kd.int .u8) 5 w8 w0.heap.size (fun k_ => (P0_ k_ ∨ w.heap.size ≤ k_)) (.slice (some ⟨go5, 0, none⟩) x0_1.length co6) y137 := (by rw [hw, Ny137.out]; exact HP7.1); clear HP7; have n0_ := Aside0.mk (hp_); have n1_ := Aside0.mk ((by rw [hw]; exact below_set (HB.out) GB5.out : Below w0.heap.size w0 w8)); have n2_ := Aside0.mk (Kept.of_grown (S := (fun k_ => P0_ k_)) hg (by repeat (first | (with_reducible first | exact HK.out | apply Kept.alloc | apply Kept.drewN | apply Kept.drew) | exact HK.out)) (fun k_ e_ => (HO_0.out.1 k_ e_))); clear HO_0; clear HB; clear HK; have HO_0 := n0_; have HB := n1_; have HK := n2_; clear n0_ n1_ n2_; clear hg hw hp_))
     go_roundg k1
     case measure => have := HK1.out; omega
     case rel => exact ⟨(y137), (wrap64 (x1_1 + 1)), (wrap64 (x5_1 + 1)), (by first | rfl | (simp; done) | (simp [*]; done)), (by first | rfl | (simp; done) | (simp [*]; done)), H', ⟨by have := HK1.out; omega⟩, ⟨zr0 HO_0⟩, ⟨by repeat (first | (with_reducible first | exact HK.out | apply Kept.alloc | apply Kept.drewN | apply Kept.drew) | exact HK.out)⟩, ⟨by repeat (first | exact zh0 HB)⟩⟩
    ·rw [if_neg c4] at H
     exact absurd H (by simp)
   ·rw [if_neg c3] at H
    have c3b0 : decide (x5_1 < (x0_1.length : Int)) = false := decide_eq_false c3
    clear c3
    simp only [Option.some.injEq, Prod.mk.injEq] at H
    obtain ⟨rfl, rfl⟩ := H
    obtain ⟨Ao9, co9, eo9⟩ := Kd.R_slice HO_0.out
    subst eo9
    go_wp2
    go_ret
    exact ⟨by first | rfl | (simp <;> rfl) | (simp [*] <;> rfl), zr0 HO_0, by repeat (first | exact zh0 HB), by repeat (first | (with_reducible first | exact HK.out | apply Kept.alloc | apply Kept.drewN | apply Kept.drew) | exact HK.out)⟩

/-! ### laws_markByteSS: function 44 (by hand) -/
def laws_markByteSS.l0 : Nat → List (List Int) → Int → Int → Option Int
  | 0, _, _, _ => none
  | k + 1, x0, x1, x2 => if x2 < (x0.length : Int) then (if 0 ≤ x2 then ((laws_markByteS.f k (rd_L1 x0 x2) x1).bind fun t => laws_markByteSS.l0 k x0 t.1 (wrap64 (x2 + 1))) else none) else some x1
def laws_markByteSS.f (k : Nat) (l0 : List (List Int)) (a1 : Int) : Option Int := laws_markByteSS.l0 k l0 a1 0
theorem laws_markByteSS.mono_l : ∀ k, (∀ y0 y1 y2, LeO (laws_markByteSS.l0 k y0 y1 y2) (laws_markByteSS.l0 (k + 1) y0 y1 y2))
  | 0 => fun _ _ _ r h => by simp [laws_markByteSS.l0] at h
  | k + 1 => by
    have ih0 := laws_markByteSS.mono_l k
    intro y0 y1 y2
    unfold laws_markByteSS.l0
    refine LeO.ite (LeO.ite (LeO.bind (laws_markByteS.mono _ _ _) (fun _ => ih0 _ _ _)) (LeO.none _)) (LeO.refl _)
theorem laws_markByteSS.mono : ∀ a0 a1 k, LeO (laws_markByteSS.f k a0 a1) (laws_markByteSS.f (k + 1) a0 a1) := fun a0 a1 k => laws_markByteSS.mono_l k a0 a1 0
set_option maxHeartbeats 8000000 in
set_option maxRecDepth 100000 in
theorem laws_markByteSS.calls (k : Nat) (P0_ : Nat → Prop) (u9000_ : Value) (l0 : List (List Int)) (a1 : Int) (r1 : Int) (w0 w : World) (hB : Below w0.heap.size w0 w) (ho0 : Kd.S (Kd.slice 5 (Kd.int .u8)) 43 w w0.heap.size P0_ u9000_ l0) (h : laws_markByteSS.f k l0 a1 = some r1) :
    Calls Try.prog 44 #[u9000_, .int .i64 a1] w fun e w' => e = .returned (.int .i64 r1) ∧ Below w0.heap.size w0 w' ∧ Kept w w' (fun k_ => P0_ k_) := by
  have hu22 := Try.underlying22
  have HO := Aside0.mk ho0
  have HB := Aside0.mk hB
  obtain ⟨A0, c0, ev⟩ := Kd.S_slice ho0
  subst ev
  have H' := Aside0.mk (show laws_markByteSS.l0 k l0 a1 0 = some r1 from h)
  clear h ho0 hB
  go_enter Try.func44, Try.ntmps44
  go_wp2
  go_loopg [1, 5] k (fun kq v1 v5 w' => ∃ (ys : List (List Int)) (x1 x2 : Int), v1 = .int .i64 x1 ∧ v5 = .int .i64 x2 ∧ Aside0 (laws_markByteSS.l0 kq l0 x1 x2 = some r1) ∧ Aside0 (kq ≤ k) ∧ Aside0 (ys.length = l0.length) ∧ Aside0 (0 ≤ x2 ∧ ∀ j, x2.toNat ≤ j → ys.getD j [] = l0.getD j []) ∧ Aside0 (Kd.S (Kd.slice 5 (Kd.int .u8)) 43 w' w0.heap.size (fun k_ => P0_ k_ ∨ w.heap.size ≤ k_) (.slice A0 l0.length c0) ys) ∧ Aside0 (Below w0.heap.size w0 w') ∧ Aside0 (Kept w w' (fun k_ => P0_ k_)))
  case atStart => exact ⟨l0, a1, 0, rfl, rfl, H', ⟨Nat.le_refl _⟩, ⟨rfl⟩, ⟨⟨Int.le_refl _, fun _ _ => rfl⟩⟩, ⟨Kd.S_mono HO.out (fun k_ hk => .inl hk)⟩, HB, ⟨Kept.refl w _⟩⟩
  case round =>
    clear H' HO HB
    obtain ⟨ys, x1, x2, rfl, rfl, HA, HK1, HL, HX, HO, HB, HK⟩ := hrel
    cases gk with
    | zero => exact absurd HA.out (by simp [laws_markByteSS.l0])
    | succ k1 =>
      have H := HA.out
      clear HA
      simp only [laws_markByteSS.l0] at H
      by_cases c3 : x2 < (l0.length : Int)
      · have p0 : 0 ≤ x2 := HX.out.1
        rw [if_pos c3, if_pos p0] at H
        obtain ⟨⟨t1, t2⟩, ht, H⟩ := Option.bind_eq_some_iff.mp H
        obtain ⟨g, rfl⟩ : ∃ g, A0 = some ⟨g, 0, none⟩ := by
          obtain ⟨g, cap, e, _⟩ := Kd.S_form HO.out (by rw [HL.out]; omega)
          injection e with e1 e2 e3
          exact ⟨g, e1⟩
        obtain ⟨oki, cs, hcl, hM, hcc, hoki, hH⟩ := Kd.S_lend HO.out [] x2 p0 c3
        obtain ⟨v, rfl, hR⟩ := hM
        have hcell : wr.cell? ⟨g, x2.toNat, none⟩ = some v := by
          have := hcc 0 v rfl
          rwa [show (Kd.slice 5 (Kd.int .u8)).sz = 1 from rfl, Nat.mul_one, Nat.add_zero] at this
        have hrow : ys.getD x2.toNat [] = rd_L1 l0 x2 := HX.out.2 _ (Nat.le_refl _)
        rw [hrow] at hR
        obtain ⟨Av, cv, ev⟩ := Kd.R_slice hR
        subst ev
        have HC := Aside0.mk (laws_markByteS.calls k1 oki _ _ x1 t1 t2 w0 wr HB.out hR ht)
        have HH := Aside0.mk hH
        have HI := Aside0.mk hoki
        have HJ := Aside0.mk H
        clear H hR hH hoki hcc hcl hrow ht
        have c3b : decide (x2 < (l0.length : Int)) = true := decide_eq_true c3
        have p1 := eq_true p0
        have q1 := eq_true c3
        have P0 := Aside0.mk p0
        have Q0 := Aside0.mk c3
        clear p0 c3
        go_wp2_with fail
        refine HC.out.mono ?_
        rintro e w' ⟨rfl, hr2, hb', hk'⟩
        have HR2 := Aside0.mk hr2
        have HB2 := Aside0.mk hb'
        have HK2 := Aside0.mk hk'
        clear hr2 hb' hk'
        go_wp2
        have hlt : l0.length ≤ 9223372036854775807 := by have := (Kd.S_reads' HO.out).2.2.2.1; have := HL.out; omega
        have hw : wrap64 (x2 + 1) = x2 + 1 := by have := P0.out; have := Q0.out; unfold wrap64; omega
        go_roundg k1
        case measure => have := HK1.out; omega
        case rel =>
          refine ⟨ys.set x2.toNat t2, t1, wrap64 (x2 + 1), by first | rfl | (simp; done) | (simp [*]; done), by first | rfl | (simp; done) | (simp [*]; done), HJ, ⟨by have := HK1.out; omega⟩, ⟨by rw [List.length_set]; exact HL.out⟩, ⟨by rw [hw]; refine ⟨by have := P0.out; omega, fun j hj => ?_⟩; have := P0.out; rw [List.getD_eq_getElem?_getD, List.getElem?_set_ne (by omega), ← List.getD_eq_getElem?_getD]; exact HX.out.2 j (by omega)⟩, ⟨?_⟩, HB2, ⟨?_⟩⟩
          · refine Kd.H_back (Kd.H_kept (Kd.H_widen HH.out) HK2.out (fun k_ _ hn hs => hn (.inl hs))) (okp := fun k_ => oki k_ ∨ wr.heap.size ≤ k_) ⟨_, rfl, HR2.out⟩ (fun k_ hk => hk.elim .inl (fun h2 => .inr ⟨.inr (Nat.le_trans HK.out.1 h2), h2⟩))
          · exact HK.out.then_ HK2.out (fun k_ hk => (HI.out k_ hk).1)
      · rw [if_neg c3] at H
        obtain rfl := Option.some.inj H
        have c3b : decide (x2 < (l0.length : Int)) = false := decide_eq_false c3
        clear c3 H
        go_wp2
        go_ret
        exact ⟨rfl, HB.out, HK.out⟩

/-! ### laws_markMemory: function 15 (by hand) -/
def laws_markMemory.f (k : Nat) (l0_0 : List (List Int)) (a1 : Int) : Option Int := laws_markByteSS.f k l0_0 a1
theorem laws_markMemory.mono : ∀ a0 a1 k, LeO (laws_markMemory.f k a0 a1) (laws_markMemory.f (k + 1) a0 a1) := laws_markByteSS.mono
set_option maxHeartbeats 8000000 in
set_option maxRecDepth 100000 in
theorem laws_markMemory.calls (k : Nat) (P0_0_ : Nat → Prop) (u9000_ : Value) (l0_0 : List (List Int)) (a1 : Int) (r1 : Int) (w0 w : World) (hB : Below w0.heap.size w0 w) (ho0_0 : Kd.S (Kd.slice 5 (Kd.int .u8)) 43 w w0.heap.size P0_0_ u9000_ l0_0) (h : laws_markMemory.f k l0_0 a1 = some r1) :
    Calls Try.prog 15 #[.agg #[u9000_], .int .i64 a1] w fun e w' => e = .returned (.int .i64 r1) ∧ Below w0.heap.size w0 w' ∧ Kept w w' (fun k_ => P0_0_ k_) := by
  have hu32 := Try.underlying32
  obtain ⟨A0, c0, ev⟩ := Kd.S_slice ho0_0
  subst ev
  have HC := Aside0.mk (fun W1 (hb : Below w.heap.size w W1) => laws_markByteSS.calls k P0_0_ _ l0_0 a1 r1 w0 W1 (hB.trans (hb.mono hB.size)) (Kd.S_below ho0_0 hb) h)
  clear h ho0_0
  have HB := Aside0.mk hB
  clear hB
  go_enter Try.func15, Try.ntmps15
  go_wp2_with (go_at_call 44; refine (HC.out _ ((Below.refl _ w).alloc (Nat.le_refl _) _)).mono ?_; rintro e w' ⟨rfl, hb', hk'⟩)
  go_ret
  exact ⟨rfl, hb', (Kept.alloc (Kept.refl w _) _).then_ hk' (fun k_ hk => .inl hk)⟩

/-! ### laws_markEntryS: function 16 (by hand) -/
/-- The marks of one entry. -/
def laws_markEntryS.key (k : Int) : List Int := (List.range 16).map fun t : Nat => IntKind.u8.wrap (k + (t : Int))
def laws_markEntryS.en (k : Int) : Ky.En := ⟨laws_markEntryS.key k, k + 16, k + 17, k + 18, k + 19⟩
def laws_markEntryS.l : List Ky.En → Int → List Ky.En
  | [], _ => []
  | _ :: xs, k => laws_markEntryS.en k :: laws_markEntryS.l xs (k + 20)
def laws_markEntryS.f (l0 : List Ky.En) (a1 : Int) : Option (Int × List Ky.En) := if l0.length ≤ 1048576 ∧ 0 ≤ a1 ∧ a1 ≤ 1099511627776000 then some (a1 + 20 * (l0.length : Int), laws_markEntryS.l l0 a1) else none
theorem laws_markEntryS.l_length : ∀ (xs : List Ky.En) (k : Int), (laws_markEntryS.l xs k).length = xs.length
  | [], _ => rfl
  | _ :: xs, k => by unfold laws_markEntryS.l; simp [laws_markEntryS.l_length xs]
theorem laws_markEntryS.l_snoc : ∀ (xs : List Ky.En) (y : Ky.En) (k : Int), laws_markEntryS.l (xs ++ [y]) k = laws_markEntryS.l xs k ++ [laws_markEntryS.en (k + 20 * (xs.length : Int))]
  | [], _, k => by simp [laws_markEntryS.l]
  | x :: xs, y, k => by
    rw [List.cons_append, laws_markEntryS.l, laws_markEntryS.l, laws_markEntryS.l_snoc xs y (k + 20), List.cons_append, List.length_cons]
    congr 4
    omega
theorem laws_markEntryS.key_of {l : List Int} {k : Int} (h : l.length = 16) (h2 : ∀ t : Nat, t < 16 → l[t]? = some (IntKind.u8.wrap (k + (t : Int)))) : l = laws_markEntryS.key k := by
  apply List.ext_getElem?
  intro t
  by_cases ht : t < 16
  · rw [h2 t ht, laws_markEntryS.key, List.getElem?_map, List.getElem?_range ht]
    rfl
  · rw [List.getElem?_eq_none (by omega), List.getElem?_eq_none (by simp [laws_markEntryS.key]; omega)]
set_option maxHeartbeats 4000000 in
set_option maxRecDepth 100000 in
theorem laws_markEntryS.calls (P0_ : Nat → Prop) (u9000_ : Value) (l0 : List Ky.En) (a1 : Int) (r1 : Int) (r2 : List Ky.En) (w0 w : World) (hB : Below w0.heap.size w0 w) (ho0 : Kd.R Ky.ke 66 w w0.heap.size P0_ u9000_ l0) (h : laws_markEntryS.f l0 a1 = some (r1, r2)) :
    Calls Try.prog 16 #[u9000_, .int .i64 a1] w fun e w' => e = .returned (.int .i64 r1) ∧ Kd.R Ky.ke 66 w' w0.heap.size (fun k_ => (P0_ k_ ∨ w.heap.size ≤ k_)) u9000_ r2 ∧ Below w0.heap.size w0 w' ∧ Kept w w' (fun k_ => P0_ k_) := by
  obtain ⟨⟨hle, ha0, ha1⟩, h⟩ := Ky.of_cond h
  obtain ⟨rfl, rfl⟩ := Prod.mk.inj h
  clear h
  obtain ⟨A, c, hv⟩ := Kd.R_slice ho0
  subst hv
  obtain ⟨n, hn⟩ : ∃ n, n = l0.length := ⟨_, rfl⟩
  have HO := Lib.hid ho0
  rw [← hn] at hle ⊢
  rw [← hn] at HO
  have HN := Lib.hid hn
  have HM := Lib.hid hle
  have HAA := Lib.hid (And.intro ha0 ha1)
  have HB := Lib.hid hB
  have HK0 := Lib.hid (Kept.refl w P0_)
  clear hn ho0 hle hB ha0 ha1
  go_enter Try.func16, Try.ntmps16
  go_wp2
  go_loopg [1, 5, 6] n (fun gg s1 s5 _ wr => ∃ (i : Nat), s5 = .int .i64 i ∧ s1 = .int .i64 (a1 + 20 * (i : Int)) ∧ Hid (i ≤ n ∧ n - i ≤ gg) ∧ Hid (Kd.R Ky.ke 66 wr w0.heap.size P0_ (.slice A n c) (laws_markEntryS.l (l0.take i) a1 ++ l0.drop i)) ∧ Hid (Below w0.heap.size w0 wr) ∧ Hid (Kept w wr P0_))
  case atStart => exact ⟨0, rfl, by simp, Lib.hid (by omega), HO, HB, HK0⟩
  case round =>
    clear HO HB HK0
    obtain ⟨i, rfl, rfl, HK, HO, HB, HKP⟩ := hrel
    by_cases hlt : i < n
    · obtain ⟨x, hx⟩ : ∃ x, l0[i]? = some x := ⟨_, List.getElem?_eq_getElem (by have := HN.out; omega)⟩
      obtain ⟨hxl, hxe⟩ := List.getElem?_eq_some_iff.1 hx
      have hll : (laws_markEntryS.l (l0.take i) a1).length = i := by rw [laws_markEntryS.l_length, List.length_take]; omega
      obtain ⟨M, hM⟩ : ∃ M, M = laws_markEntryS.l (l0.take i) a1 := ⟨_, rfl⟩
      rw [← hM] at hll
      have ho := HO.out
      rw [← hM, List.drop_eq_getElem_cons hxl, hxe] at ho
      obtain ⟨g, cap, hv, hbg, _⟩ := Kd.R_form ho (by rw [List.length_append, List.length_cons]; omega)
      obtain ⟨T, hT⟩ : ∃ T, T = l0.drop (i + 1) := ⟨_, rfl⟩
      rw [← hT] at ho
      have hlen : (M ++ x :: T).length = n := by rw [List.length_append, List.length_cons, hll, hT, List.length_drop]; have := HN.out; omega
      have hgx : (M ++ x :: T)[i]? = some x := by rw [List.getElem?_append_right (by omega), hll, Nat.sub_self]; rfl
      injection hv with hv1 hv2 hv3
      subst hv1
      have hPg : P0_ g := ho.1 g rfl
      have HPG := Lib.hid hPg
      have HBG := Lib.hid hbg
      have HLL := Lib.hid hll
      have HMM := Lib.hid hM
      have HTT := Lib.hid hT
      have HXX := Lib.hid hx
      have HO2 := Lib.hid ho
      have HXK := Lib.hid (Ky.R_key ho (by omega) hgx)
      obtain ⟨k, hk⟩ : ∃ k, k = a1 + 20 * (i : Int) := ⟨_, rfl⟩
      have HKK := Lib.hid (show 0 ≤ k ∧ k ≤ 1099511700000000 by have := HAA.out; have := HM.out; omega)
      rw [← hk]
      have HKE := Lib.hid hk
      clear ho hbg hll hM hT hx hPg hlen hgx hv2 hv3 hxl hxe HO hk
      have k0 : (0 : Int) ≤ (i : Int) := by omega
      have k1 : (i : Int) < (n : Int) := by omega
      have k3 : ((n : Int)).toNat ≤ 1048576 := by have := HM.out; omega
      have m0 : ∀ (y y' : Ky.En) (q : Nat) (v : Value) (Wq : World), Kd.R Ky.ke 66 Wq w0.heap.size P0_ (.slice (some ⟨g, 0, none⟩) n c) (M ++ y :: T) → q < 20 → (Ky.ec y).toList.set q v = (Ky.ec y').toList → Ky.Key y'.key → (∃ u, Wq.cell? ⟨g, i * 20 + q, none⟩ = some u) ∧ Wq.frozen? ⟨g, i * 20 + q, none⟩ = false ∧ Kd.R Ky.ke 66 (Wq.setCell ⟨g, i * 20 + q, none⟩ v) w0.heap.size P0_ (.slice (some ⟨g, 0, none⟩) n c) (M ++ y' :: T) := fun y y' q v Wq hR hq hc hk => by
        have := Ky.mark1 hR hlt (Ky.mid_get HLL.out) hq hc hk
        rw [Ky.mid_set HLL.out] at this
        exact this
      have MM0 := Lib.hid m0
      clear m0
      go_upto_region 4 with (fail)
      go_wp2
      go_loopg [1, 6] 16 (fun gg s1 s6 wr => ∃ (j : Nat) (l : List Int), s6 = .int .i64 j ∧ s1 = .int .i64 (k + (j : Int)) ∧ Hid (j ≤ 16 ∧ 16 - j ≤ gg) ∧ Hid (Kd.R Ky.ke 66 wr w0.heap.size P0_ (.slice (some ⟨g, 0, none⟩) n c) (M ++ ⟨l, x.a, x.s, x.l, x.c⟩ :: T)) ∧ Hid (l.length = 16 ∧ ∀ t : Nat, t < j → l[t]? = some (IntKind.u8.wrap (k + (t : Int)))) ∧ Hid (Below w0.heap.size w0 wr) ∧ Hid (Kept w wr P0_))
      case atStart => exact ⟨0, x.key, rfl, by simp, Lib.hid (by omega), HO2, Lib.hid ⟨HXK.out, fun t ht => absurd ht (by omega)⟩, HB, HKP⟩
      case round =>
        clear HO2 HB HKP
        obtain ⟨j, l, rfl, rfl, HJ, HO2, HL, HB, HKP⟩ := hrel
        by_cases hj : j < 16
        · obtain ⟨⟨u, hcu⟩, hfu, hnew⟩ := MM0.out _ ⟨l.set j (IntKind.u8.wrap (k + (j : Int))), x.a, x.s, x.l, x.c⟩ j (.int .u8 (IntKind.u8.wrap (k + (j : Int)))) _ HO2.out (by omega) (Ky.ec_setKey (x := ⟨l, x.a, x.s, x.l, x.c⟩) HL.out.1 j hj _) (by unfold Ky.Key; rw [List.length_set]; exact HL.out.1)
          have HNW := Lib.hid hnew
          clear hnew
          have j0 : (0 : Int) ≤ (j : Int) := by omega
          have j1 : (j : Int) < 16 := by omega
          have e1 : IntKind.i64.wrap (k + (j : Int) + 1) = k + (j : Int) + 1 := by rw [IntKind.wrap_i64]; have := HKK.out; omega
          go_wp2
          go_roundg (16 - (j + 1))
          case measure => have := HJ.out; omega
          case rel => exact ⟨j + 1, l.set j (IntKind.u8.wrap (k + (j : Int))), by go_num, by rw [show k + ((j + 1 : Nat) : Int) = k + (j : Int) + 1 from by omega], Lib.hid (by have := HJ.out; omega), HNW, Lib.hid (Ky.key_step HL.out hj), Lib.hid (below_set HB.out HBG.out), Lib.hid (Kept.setCell HKP.out (.inl HPG.out) _)⟩
        · obtain rfl : j = 16 := by have := HJ.out; omega
          have hl : l = laws_markEntryS.key k := laws_markEntryS.key_of HL.out.1 (fun t ht => HL.out.2 t ht)
          have HLK := Lib.hid hl
          have hwin : ∀ (q : Nat) (v : Int) (a s l2 c2 a' s' l' c' : Int), ([.int .i64 a, .int .i64 s, .int .i64 l2, .int .i64 c2] : List Value).set q (.int .i64 v) = [.int .i64 a', .int .i64 s', .int .i64 l', .int .i64 c'] → (Ky.ec ⟨l, a, s, l2, c2⟩).toList.set (16 + q) (.int .i64 v) = (Ky.ec ⟨l, a', s', l', c'⟩).toList := fun q v a s l2 c2 a' s' l' c' h => by
            rw [Ky.ec_setWin (x := ⟨l, a, s, l2, c2⟩) HL.out.1 q _ _ h, Ky.ec_list]
          obtain ⟨⟨u1, d1⟩, f1, R1⟩ := MM0.out _ ⟨l, k + 16, x.s, x.l, x.c⟩ 16 (.int .i64 (k + 16)) _ HO2.out (by decide) (hwin 0 _ _ _ _ _ _ _ _ _ rfl) HL.out.1
          obtain ⟨⟨u2, d2⟩, f2, R2⟩ := MM0.out _ ⟨l, k + 16, k + 17, x.l, x.c⟩ 17 (.int .i64 (k + 17)) _ R1 (by decide) (hwin 1 _ _ _ _ _ _ _ _ _ rfl) HL.out.1
          obtain ⟨⟨u3, d3⟩, f3, R3⟩ := MM0.out _ ⟨l, k + 16, k + 17, k + 18, x.c⟩ 18 (.int .i64 (k + 18)) _ R2 (by decide) (hwin 2 _ _ _ _ _ _ _ _ _ rfl) HL.out.1
          obtain ⟨⟨u4, d4⟩, f4, R4⟩ := MM0.out _ ⟨l, k + 16, k + 17, k + 18, k + 19⟩ 19 (.int .i64 (k + 19)) _ R3 (by decide) (hwin 3 _ _ _ _ _ _ _ _ _ rfl) HL.out.1
          have HR4 := Lib.hid R4
          clear R1 R2 R3 R4 hwin hl
          have e16 : k + ((16 : Nat) : Int) = k + 16 := rfl
          have e1 : IntKind.i64.wrap (k + 16 + 1) = k + 17 := by rw [IntKind.wrap_i64]; have := HKK.out; omega
          have e2 : IntKind.i64.wrap (k + 17 + 1) = k + 18 := by rw [IntKind.wrap_i64]; have := HKK.out; omega
          have e3 : IntKind.i64.wrap (k + 18 + 1) = k + 19 := by rw [IntKind.wrap_i64]; have := HKK.out; omega
          have e4 : IntKind.i64.wrap (k + 19 + 1) = k + 20 := by rw [IntKind.wrap_i64]; have := HKK.out; omega
          rw [e16]
          clear HJ
          have HROW : Hid (M ++ ⟨l, k + 16, k + 17, k + 18, k + 19⟩ :: T = laws_markEntryS.l (l0.take (i + 1)) a1 ++ l0.drop (i + 1)) := Lib.hid (by
            have hin := HN.out
            rw [List.take_add_one, HXX.out, Option.toList_some, laws_markEntryS.l_snoc, ← HMM.out, List.length_take, Nat.min_eq_left (by omega), ← HKE.out, ← HTT.out, List.append_assoc, laws_markEntryS.en, ← HLK.out]
            rfl)
          go_wp2
          go_roundg (n - (i + 1))
          case measure => have := HK.out; omega
          case rel => exact ⟨i + 1, by go_num, by rw [show a1 + 20 * ((i + 1 : Nat) : Int) = k + 20 from by have := HKE.out; omega], Lib.hid (by have := HK.out; omega), Lib.hid (by rw [← HROW.out]; exact HR4.out), Lib.hid (below_set (below_set (below_set (below_set HB.out HBG.out) HBG.out) HBG.out) HBG.out), Lib.hid (Kept.setCell (Kept.setCell (Kept.setCell (Kept.setCell HKP.out (.inl HPG.out) _) (.inl HPG.out) _) (.inl HPG.out) _) (.inl HPG.out) _)⟩
    · obtain rfl : i = n := by have := HK.out; omega
      have c9 : decide ((i : Int) < (i : Int)) = false := decide_eq_false (by omega)
      go_wp2
      go_ret
      refine ⟨rfl, ?_, HB.out, HKP.out⟩
      have h := HO.out
      rw [HN.out, List.take_length, List.drop_length, List.append_nil] at h
      rw [HN.out]
      exact Kd.R_mono h (fun _ hk => .inl hk)

/-! ### laws_heldEntryS: function 17 (by hand) -/
def laws_heldEntryS.key (k : Int) : List Int := (List.range 16).map fun t : Nat => IntKind.u8.wrap (k + (t : Int))
def laws_heldEntryS.go : List Ky.En → Int → Int
  | [], k => k
  | x :: xs, k => if x.key = laws_heldEntryS.key k ∧ x.a = k + 16 ∧ x.s = k + 17 ∧ x.l = k + 18 ∧ x.c = k + 19 then laws_heldEntryS.go xs (k + 20) else -1
def laws_heldEntryS.f (l0 : List Ky.En) (a1 : Int) : Option Int := if l0.length ≤ 1048576 ∧ 0 ≤ a1 ∧ a1 ≤ 1073741824 then some (laws_heldEntryS.go l0 a1) else none
theorem laws_heldEntryS.key_get (k : Int) {t : Nat} (ht : t < 16) : (laws_heldEntryS.key k)[t]? = some (IntKind.u8.wrap (k + (t : Int))) := by
  rw [laws_heldEntryS.key, List.getElem?_map, List.getElem?_range ht]
  rfl
theorem laws_heldEntryS.key_of {l : List Int} {k : Int} (h : l.length = 16) (h2 : ∀ t : Nat, t < 16 → l[t]? = some (IntKind.u8.wrap (k + (t : Int)))) : l = laws_heldEntryS.key k := by
  apply List.ext_getElem?
  intro t
  by_cases ht : t < 16
  · rw [h2 t ht, laws_heldEntryS.key_get k ht]
  · rw [List.getElem?_eq_none (by omega), List.getElem?_eq_none (by simp [laws_heldEntryS.key]; omega)]
set_option maxHeartbeats 4000000 in
set_option maxRecDepth 100000 in
theorem laws_heldEntryS.calls (A0 : Option Addr) (c0 : Nat) (l0 : List Ky.En) (a1 : Int) (r : Int) (w : World) (hr0 : Kd.C Ky.ke w A0 l0.length l0) (hc0 : l0.length ≤ c0) (h : laws_heldEntryS.f l0 a1 = some r) :
    Calls Try.prog 17 #[.slice A0 l0.length c0, .int .i64 a1] w fun e w' => e = .returned (.int .i64 r) ∧ Below w.heap.size w w' := by
  have HR0 := Lib.hid hr0
  clear hr0 hc0
  obtain ⟨⟨hle, ha0, ha1⟩, h⟩ := Ky.of_cond h
  obtain ⟨n, hn⟩ : ∃ n, n = l0.length := ⟨_, rfl⟩
  rw [← hn] at hle ⊢
  have HN := Lib.hid hn
  have HM := Lib.hid hle
  have HH := Lib.hid h
  have HAA := Lib.hid (And.intro ha0 ha1)
  have HB := Lib.hid (Below.refl w.heap.size w)
  clear hn h hle ha0 ha1
  go_enter Try.func17, Try.ntmps17
  go_wp2
  go_loopg [1, 5, 6] n (fun gg s1 s5 _ wr => ∃ (i : Nat), s5 = .int .i64 i ∧ s1 = .int .i64 (a1 + 20 * (i : Int)) ∧ Hid (i ≤ n ∧ n - i ≤ gg) ∧ Hid (laws_heldEntryS.go (l0.drop i) (a1 + 20 * (i : Int)) = r) ∧ Hid (Below w.heap.size w wr))
  case atStart => exact ⟨0, rfl, by simp, Lib.hid (by omega), Lib.hid (by have := HH.out; simpa using this), HB⟩
  case round =>
    clear HH HB
    obtain ⟨i, rfl, rfl, HK, HG, HB⟩ := hrel
    by_cases hlt : i < n
    · obtain ⟨b, o, hA, hrow⟩ := Ky.row_entry HR0.out (by have := HN.out; omega)
      obtain ⟨x, hx⟩ : ∃ x, l0[i]? = some x := ⟨_, List.getElem?_eq_getElem (by have := HN.out; omega)⟩
      have HKx := Lib.hid (hrow i x hx).1
      have HCx := Lib.hid (hrow i x hx).2
      have hg := HG.out
      obtain ⟨hxl, hxe⟩ := List.getElem?_eq_some_iff.1 hx
      rw [List.drop_eq_getElem_cons hxl, hxe, laws_heldEntryS.go] at hg
      obtain ⟨k, hk⟩ : ∃ k, k = a1 + 20 * (i : Int) := ⟨_, rfl⟩
      have HKK := Lib.hid (show 0 ≤ k ∧ k ≤ 1100000000 by have := HAA.out; have := HM.out; omega)
      rw [← hk] at hg ⊢
      have HKE := Lib.hid hk
      have HGG := Lib.hid hg
      clear hx hxl hxe HG hrow hg hk
      subst hA
      have k0 : (0 : Int) ≤ (i : Int) := by omega
      have k1 : (i : Int) < (n : Int) := by omega
      have k3 : ((n : Int)).toNat ≤ 1048576 := by have := HM.out; omega
      go_upto_region 4 with (fail)
      go_wp2
      go_loopg [1, 6] 16 (fun gg s1 s6 wr => ∃ (j : Nat), s6 = .int .i64 j ∧ s1 = .int .i64 (k + (j : Int)) ∧ Hid (j ≤ 16 ∧ 16 - j ≤ gg) ∧ Hid (∀ t : Nat, t < j → x.key[t]? = some (IntKind.u8.wrap (k + (t : Int)))) ∧ Hid (Below w.heap.size w wr))
      case atStart => exact ⟨0, rfl, by simp, Lib.hid (by omega), Lib.hid (fun t ht => absurd ht (by omega)), HB⟩
      case round =>
        clear HB
        obtain ⟨j, rfl, rfl, HJ, HL, HB⟩ := hrel
        by_cases hj : j < 16
        · obtain ⟨v, hv⟩ : ∃ v, x.key[j]? = some v := ⟨_, List.getElem?_eq_getElem (by have h_ : x.key.length = 16 := HKx.out; omega)⟩
          have hcv := pw_cell_below HB.out (HCx.out j (.int .u8 v) (by rw [Ky.ec_list, List.getElem?_append_left (by rw [List.length_map]; have h_ : x.key.length = 16 := HKx.out; omega), List.getElem?_map, hv]; rfl))
          have HV := Lib.hid hv
          clear hv
          have j0 : (0 : Int) ≤ (j : Int) := by omega
          have j1 : (j : Int) < 16 := by omega
          have e1 : IntKind.i64.wrap (k + (j : Int) + 1) = k + (j : Int) + 1 := by rw [IntKind.wrap_i64]; have := HKK.out; omega
          by_cases hq : v = IntKind.u8.wrap (k + (j : Int))
          · subst hq
            go_wp2
            go_roundg (16 - (j + 1))
            case measure => have := HJ.out; omega
            case rel => exact ⟨j + 1, by go_num, by rw [show k + ((j + 1 : Nat) : Int) = k + (j : Int) + 1 from by omega], Lib.hid (by have := HJ.out; omega), Lib.hid (fun t ht => by
                by_cases e : t = j
                · subst e; exact HV.out
                · exact HL.out t (by omega)), HB⟩
          · have hne : (v != (k + (j : Int)) % 256) = true := by rw [← IntKind.wrap_u8]; simpa using hq
            have hr := HGG.out
            rw [if_neg (fun hh => hq (by have h2 := HV.out; rw [hh.1, laws_heldEntryS.key_get k hj] at h2; exact (Option.some.inj h2).symm))] at hr
            have HRR := Lib.hid hr
            clear hr
            go_wp2
            go_ret
            exact ⟨by rw [← HRR.out]; rfl, HB.out⟩
        · obtain rfl : j = 16 := by have := HJ.out; omega
          have HKY : Hid (x.key = laws_heldEntryS.key k) := Lib.hid (laws_heldEntryS.key_of HKx.out HL.out)
          have cell : ∀ q v, (Ky.wc x)[q]? = some v → wr.cell? ⟨b, o + i * 20 + 16 + q, none⟩ = some v := fun q v hq => pw_cell_below HB.out (Ky.range_win HKx.out HCx.out q v (by rw [Array.getElem?_toList]; exact hq))
          have d0 := cell 0 (.int .i64 x.a) rfl
          have d1 := cell 1 (.int .i64 x.s) rfl
          have d2 := cell 2 (.int .i64 x.l) rfl
          have d3 := cell 3 (.int .i64 x.c) rfl
          rw [Nat.add_zero] at d0
          clear cell HL HJ
          have hgg := HGG.out
          generalize x.a = xa at d0 hgg
          generalize x.s = xs_ at d1 hgg
          generalize x.l = xl at d2 hgg
          generalize x.c = xc at d3 hgg
          have HG2 := Lib.hid hgg
          clear hgg HGG
          have e16 : k + ((16 : Nat) : Int) = k + 16 := rfl
          have e1 : IntKind.i64.wrap (k + 16 + 1) = k + 17 := by rw [IntKind.wrap_i64]; have := HKK.out; omega
          have e2 : IntKind.i64.wrap (k + 17 + 1) = k + 18 := by rw [IntKind.wrap_i64]; have := HKK.out; omega
          have e3 : IntKind.i64.wrap (k + 18 + 1) = k + 19 := by rw [IntKind.wrap_i64]; have := HKK.out; omega
          have e4 : IntKind.i64.wrap (k + 19 + 1) = k + 20 := by rw [IntKind.wrap_i64]; have := HKK.out; omega
          rw [e16]
          by_cases q0 : xa = k + 16
          case neg =>
            have hne : (xa == k + 16) = false := by simpa using q0
            have hr := HG2.out
            rw [if_neg (fun hh => q0 hh.2.1)] at hr
            have HRR := Lib.hid hr
            clear hr
            go_wp2
            go_ret
            exact ⟨by rw [← HRR.out]; rfl, HB.out⟩
          subst q0
          by_cases q1 : xs_ = k + 17
          case neg =>
            have hne : (xs_ == k + 17) = false := by simpa using q1
            have hr := HG2.out
            rw [if_neg (fun hh => q1 hh.2.2.1)] at hr
            have HRR := Lib.hid hr
            clear hr
            go_wp2
            go_ret
            exact ⟨by rw [← HRR.out]; rfl, HB.out⟩
          subst q1
          by_cases q2 : xl = k + 18
          case neg =>
            have hne : (xl == k + 18) = false := by simpa using q2
            have hr := HG2.out
            rw [if_neg (fun hh => q2 hh.2.2.2.1)] at hr
            have HRR := Lib.hid hr
            clear hr
            go_wp2
            go_ret
            exact ⟨by rw [← HRR.out]; rfl, HB.out⟩
          subst q2
          by_cases q3 : xc = k + 19
          case neg =>
            have hne : (xc == k + 19) = false := by simpa using q3
            have hr := HG2.out
            rw [if_neg (fun hh => q3 hh.2.2.2.2)] at hr
            have HRR := Lib.hid hr
            clear hr
            go_wp2
            go_ret
            exact ⟨by rw [← HRR.out]; rfl, HB.out⟩
          subst q3
          have hr := HG2.out
          rw [if_pos ⟨HKY.out, rfl, rfl, rfl, rfl⟩] at hr
          have HRR := Lib.hid hr
          clear hr HG2
          go_wp2
          go_roundg (n - (i + 1))
          case measure => have := HK.out; omega
          case rel => exact ⟨i + 1, by go_num, by rw [show a1 + 20 * ((i + 1 : Nat) : Int) = k + 20 from by have := HKE.out; omega], Lib.hid (by have := HK.out; omega), Lib.hid (by rw [show a1 + 20 * ((i + 1 : Nat) : Int) = k + 20 from by have := HKE.out; omega]; exact HRR.out), HB⟩
    · obtain rfl : i = n := by have := HK.out; omega
      have hr := HG.out
      rw [List.drop_eq_nil_of_le (by have := HN.out; omega), laws_heldEntryS.go] at hr
      subst hr
      go_wp2
      go_ret
      exact ⟨rfl, HB.out⟩

/-! ### spec_LessKey: function 31 (by hand) -/
def spec_LessKey.f (a0 : List Int) (a1 : List Int) : Option Bool := some (Ky.lessF a0 a1)
theorem spec_LessKey.calls (a0 : List Int) (a1 : List Int) (r : Bool) (w : World) (hk0 : Ky.Key a0) (hk1 : Ky.Key a1) (h : spec_LessKey.f a0 a1 = some r) :
    Calls Try.prog 31 #[.agg (Ky.bs a0), .agg (Ky.bs a1)] w fun e w' => e = .returned (.bool r) ∧ Below w.heap.size w w' := by
  obtain rfl := Option.some.inj h
  exact Ky.specLess a0 a1 hk0 hk1 w

open Go.Proofs.Ytkifenbcepicjaa.Cp
/-! ### spec_l1In: function 77 -/
def spec_l1In.f (a0 : Int) (a1 : Int) (a2 : Int) : Option (Bool) := if a0 ≥ a1 then (some (decide (a0 ≤ a2))) else (some false)
set_option maxHeartbeats 8000000 in
set_option maxRecDepth 100000 in
theorem spec_l1In.calls (a0 : Int) (a1 : Int) (a2 : Int) (r : Bool) (w : World) (h : spec_l1In.f a0 a1 a2 = some r) :
  Calls Try.prog 77 #[.int .i64 a0, .int .i64 a1, .int .i64 a2] w fun e w' => e = .returned (.bool r) ∧ Drawn0 w w' := by
 have H : (if a0 ≥ a1 then (some (decide (a0 ≤ a2))) else (some false)) = some r := h
 clear h
 by_cases c4 : a0 ≥ a1
 ·rw [if_pos c4] at H
  have c4b0 : decide (a1 ≤ a0) = true := decide_eq_true c4
  clear c4
  obtain rfl := Option.some.inj H
  go_enter Try.func77, Try.ntmps77
  go_wp2
  go_ret
  exact ⟨by first | rfl | (simp; done) | (simp [*]; done), by repeat (first | exact Drawn0.refl _ | apply Drawn0.step)⟩
 ·rw [if_neg c4] at H
  have c4b0 : decide (a1 ≤ a0) = false := decide_eq_false c4
  clear c4
  obtain rfl := Option.some.inj H
  go_enter Try.func77, Try.ntmps77
  go_wp2
  go_ret
  exact ⟨by first | rfl | (simp; done) | (simp [*]; done), by repeat (first | exact Drawn0.refl _ | apply Drawn0.step)⟩

open Go.Proofs.Ytkifenbcepicjaa.Cp
/-! ### spec_l2Memory: function 53 -/
mutual
def spec_l2Memory.l0 : Nat → Int → List (List Int) → Option (Bool)
 | 0, _, _ => none
 | k + 1, x3, x139000 => if x3 < (x139000.length : Int) then (spec_l2Memory.j1 k x3 (decide (x3 ≤ 16)) x139000) else (spec_l2Memory.j1 k x3 false x139000)
def spec_l2Memory.j1 : Nat → Int → Bool → List (List Int) → Option (Bool)
 | 0, _, _, _ => none
 | k + 1, x3, x12, x139000 => if x12 = true then (if 0 ≤ x3 then (if x3 < (x139000.length : Int) then ((spec_l1In.f ((rd_L1 x139000 x3).length : Int) 1 64).bind fun t140 => (if t140 = true then (spec_l2Memory.l0 k (wrap64 (x3 + 1)) x139000) else (some false))) else (none)) else (none)) else (some (decide ((x139000.length : Int) ≤ 16)))
end
def spec_l2Memory.f (k : Nat) (l0_0 : List (List Int)) : Option (Bool) := spec_l2Memory.l0 k 0 l0_0
theorem spec_l2Memory.mono_l : ∀ k, (∀ y0 y1, LeO (spec_l2Memory.l0 k y0 y1) (spec_l2Memory.l0 (k + 1) y0 y1)) ∧ (∀ y0 y1 y2, LeO (spec_l2Memory.j1 k y0 y1 y2) (spec_l2Memory.j1 (k + 1) y0 y1 y2))
 | 0 => ⟨fun _ _ r h => by simp [spec_l2Memory.l0] at h, fun _ _ _ r h => by simp [spec_l2Memory.j1] at h⟩
 | k + 1 => by
  obtain ⟨ih0, ih1⟩ := spec_l2Memory.mono_l k
  refine ⟨?_, ?_⟩
  ·intro y0 y1
   unfold spec_l2Memory.l0
   repeat' first
   | (with_reducible exact ih0 _ _)
   | (with_reducible exact ih1 _ _ _)
   | (with_reducible exact LeO.refl _)
   | (with_reducible exact LeO.none _)
   | (with_reducible refine LeO.ite ?_ ?_)
   | (with_reducible refine LeO.bind ?_ (fun _ => ?_))
   | exact ih0 _ _
   | exact ih1 _ _ _
   | exact LeO.none _
   | refine LeO.ite ?_ ?_
   | refine LeO.bind ?_ (fun _ => ?_)
  ·intro y0 y1 y2
   unfold spec_l2Memory.j1
   repeat' first
   | (with_reducible exact ih0 _ _)
   | (with_reducible exact ih1 _ _ _)
   | (with_reducible exact LeO.refl _)
   | (with_reducible exact LeO.none _)
   | (with_reducible refine LeO.ite ?_ ?_)
   | (with_reducible refine LeO.bind ?_ (fun _ => ?_))
   | exact ih0 _ _
   | exact ih1 _ _ _
   | exact LeO.none _
   | refine LeO.ite ?_ ?_
   | refine LeO.bind ?_ (fun _ => ?_)
theorem spec_l2Memory.mono : ∀ a0 k, LeO (spec_l2Memory.f k a0) (spec_l2Memory.f (k + 1) a0) := by
 intro a0 k
 obtain ⟨ih0, ih1⟩ := spec_l2Memory.mono_l k
 unfold spec_l2Memory.f
 repeat' first
   | (with_reducible exact ih0 _ _)
   | (with_reducible exact ih1 _ _ _)
   | (with_reducible exact LeO.refl _)
   | (with_reducible exact LeO.none _)
   | (with_reducible refine LeO.ite ?_ ?_)
   | (with_reducible refine LeO.bind ?_ (fun _ => ?_))
   | exact ih0 _ _
   | exact ih1 _ _ _
   | exact LeO.none _
   | refine LeO.ite ?_ ?_
   | refine LeO.bind ?_ (fun _ => ?_)
set_option maxHeartbeats 8000000 in
set_option maxRecDepth 100000 in
theorem spec_l2Memory.calls (k : Nat) (A0_0 : Option Addr) (c0_0 : Nat) (l0_0 : List (List Int)) (r : Bool) (w : World) (hr0_0 : Kd.C (Kd.slice 5 (Kd.int .u8)) w A0_0 l0_0.length l0_0) (hc0_0 : l0_0.length ≤ c0_0) (h : spec_l2Memory.f k l0_0 = some r) :
  Calls Try.prog 53 #[.agg #[.slice A0_0 l0_0.length c0_0]] w fun e w' => e = .returned (.bool r) ∧ Below w.heap.size w w' := by
 have hu32 := Try.underlying32
 have HR0_0 := Aside0.mk hr0_0
 have HC0_0 := Aside0.mk hc0_0
 clear hr0_0 hc0_0
 have HB := Aside0.mk (Below.refl w.heap.size w)
 have H : (spec_l2Memory.l0 k 0 l0_0) = some r := h
 clear h
 have H' := Aside0.mk H
 clear H
 go_enter Try.func53, Try.ntmps53
 go_wp2_with (first | ((with_reducible refine gate_dst (N := 1) rfl ?_); refine box_event ?hg (N := 1) ?hd (cs := #[.slice A0_0 l0_0.length c0_0]) (t := 32) ?hr ?_; (case hd => rfl); (case hg => rfl); (case hr => first | (go_simp; done) | (go_simp; rfl)); intro gb138 hg w2 hbox hb; have BK138 := Aside0.mk (hbox); have GW138 := zge HB hg; have GE138 := zge HB hg; replace HB := zhs HB hb; clear hb hbox hg))
 go_loopg [3] k (fun kq v3 w' => ∃ (x3_1 : Int), v3 = .int .i64 x3_1 ∧ Aside0 (spec_l2Memory.l0 kq x3_1 l0_0 = some r) ∧ Aside0 (kq ≤ k) ∧ Aside0 (w'.heap[gb138]? = some (.cells #[(.slice A0_0 l0_0.length c0_0)] 32 (0, 0))) ∧ Aside0 (Below w.heap.size w w'))
 case atStart => exact ⟨(0), (by first | rfl | (simp; done) | (simp [*]; done)), H', ⟨Nat.le_refl _⟩, ⟨zk0 BK138⟩, ⟨by repeat (first | exact zh0 HB | refine below_set ?_ GE138.out)⟩⟩
 case round =>
  clear H'
  try clear p2
  obtain ⟨x3_1, rfl, HA, HK1, BK138, HB⟩ := hrel
  cases gk with
  | zero => exact absurd HA.out (by simp [spec_l2Memory.l0])
  | succ k1 =>
   have H := HA.out
   clear HA
   simp only [spec_l2Memory.l0] at H
   have HC3 := Aside0.mk H
   clear H
   go_upto_region 2 with (fail)
   go_cut [12] (fun v12 wc => ∃ (kq : Nat) (x12_2 : Bool), v12 = .bool x12_2 ∧ Aside0 (spec_l2Memory.j1 kq x3_1 x12_2 l0_0 = some r) ∧ Aside0 (kq ≤ k1) ∧ Aside0 (wc.heap[gb138]? = some (.cells #[(.slice A0_0 l0_0.length c0_0)] 32 (0, 0))) ∧ Aside0 (Below w.heap.size w wc))
   case first =>
    have H := HC3.out
    clear HC3
    by_cases c4 : x3_1 < (l0_0.length : Int)
    ·rw [if_pos c4] at H
     have c4b0 : decide (x3_1 < (l0_0.length : Int)) = true := decide_eq_true c4
     clear c4
     (first | rw [c4b0] | (simp only [i64_w, i32_w]; rw [c4b0]) | skip)
     have H' := Aside0.mk H
     clear H
     have hcz5_0 := zc0 BK138 0 rfl
     have hfz5_0 := blk_frozen BK138.out 0
     go_wp2
     go_meet
     case rel => exact ⟨_, (decide (x3_1 ≤ 16)), (by first | rfl | (simp; done) | (simp [*]; done)), H', ⟨by have := HK1.out; first | omega | exact Nat.le_refl _⟩, ⟨zk0 BK138⟩, ⟨by repeat (first | exact zh0 HB | refine below_set ?_ GE138.out)⟩⟩
    ·rw [if_neg c4] at H
     have c4b0 : decide (x3_1 < (l0_0.length : Int)) = false := decide_eq_false c4
     clear c4
     (first | rw [c4b0] | (simp only [i64_w, i32_w]; rw [c4b0]) | skip)
     have H' := Aside0.mk H
     clear H
     have hcz6_0 := zc0 BK138 0 rfl
     have hfz6_0 := blk_frozen BK138.out 0
     go_wp2
     go_meet
     case rel => exact ⟨_, (false), (by first | rfl | (simp; done) | (simp [*]; done)), H', ⟨by have := HK1.out; first | omega | exact Nat.le_refl _⟩, ⟨zk0 BK138⟩, ⟨by repeat (first | exact zh0 HB | refine below_set ?_ GE138.out)⟩⟩
   case rest =>
    clear HC3
    try clear p2
    try clear c4
    try clear c4b0
    try clear c5
    try clear hcz5_0
    try clear hcz6_0
    try clear hfz5_0
    try clear hfz6_0
    try clear p2
    obtain ⟨kq, x12_2, rfl, HA, HJ2, BK138, HB⟩ := hcut
    cases kq with
    | zero => exact absurd HA.out (by simp [spec_l2Memory.j1])
    | succ kj2 =>
     have H := HA.out
     clear HA
     simp only [spec_l2Memory.j1] at H
     by_cases c7 : x12_2 = true
     ·subst c7
      have H1 : (if 0 ≤ x3_1 then (if x3_1 < (l0_0.length : Int) then ((spec_l1In.f ((rd_L1 l0_0 x3_1).length : Int) 1 64).bind fun t140 => (if t140 = true then (spec_l2Memory.l0 kj2 (wrap64 (x3_1 + 1)) l0_0) else (some false))) else (none)) else (none)) = some r := by rw [if_pos rfl] at H; exact H
      clear H
      have H := H1
      clear H1
      by_cases c8 : 0 ≤ x3_1
      ·rw [if_pos c8] at H
       have c8b0 : decide (0 ≤ x3_1) = true := decide_eq_true c8
       clear c8
       by_cases c9 : x3_1 < (l0_0.length : Int)
       ·rw [if_pos c9] at H
        have c9b0 : decide (x3_1 < (l0_0.length : Int)) = true := decide_eq_true c9
        clear c9
        replace H := Option.bind_eq_some_iff.mp H
        obtain ⟨t140, A100, H⟩ := H
        replace H : (if t140 = true then (spec_l2Memory.l0 kj2 (wrap64 (x3_1 + 1)) l0_0) else (some false)) = some r := H
        have A10 := Aside0.mk A100
        clear A100
        by_cases c11 : t140 = true
        ·subst c11
         have H1 : (spec_l2Memory.l0 kj2 (wrap64 (x3_1 + 1)) l0_0) = some r := by rw [if_pos rfl] at H; exact H
         clear H
         have H := H1
         clear H1
         have H' := Aside0.mk H
         clear H
         have hcz12_0 := zc0 BK138 0 rfl
         have hfz12_0 := blk_frozen BK138.out 0
         have p139 : 0 ≤ (x3_1 : Int) := of_decide_eq_true (by first | (with_reducible assumption) | assumption)
         have q139 : x3_1 < (l0_0.length : Int) := of_decide_eq_true (by first | (with_reducible assumption) | assumption)
         obtain ⟨ad139, A139_0, c139_0, e139, hx139_0, hl139_0, hi139_0⟩ := at_L1 HR0_0.out x3_1 p139 q139
         cases e139
         replace hx139_0 := (HB.out.cell (World.block_lt_of_cell? w _ hx139_0)).trans hx139_0
         have HR139_0 := Aside0.mk hi139_0
         have HC139_0 := Aside0.mk hl139_0
         clear hi139_0 hl139_0
         replace p139 := eq_true p139
         replace q139 := eq_true q139
         go_wp2_with (first | ((with_reducible refine gate_callee (f := 77) rfl ?_); refine goesL_ (some 21) rfl rfl Try.func77 (by kernel_rfl) rfl #[.int .i64 ((rd_L1 l0_0 x3_1).length : Int), .int .i64 1, .int .i64 64] rfl (by (try simp only [zq1, zq2, zq3]); first | done | rfl | (simp only [List.length_drop, List.length_take]; rfl)) ?_; (with_reducible refine (spec_l1In.calls ((rd_L1 l0_0 x3_1).length : Int) 1 64 true _ A10.out).mono ?_); rintro e w' ⟨rfl, ⟨nd, rfl⟩⟩; refine ⟨_, rfl, ?_⟩))
         go_roundg kj2
         case measure => have := HK1.out; have := HJ2.out; omega
         case rel => exact ⟨(wrap64 (x3_1 + 1)), (by first | rfl | (simp; done) | (simp [*]; done)), H', ⟨by have := HK1.out; have := HJ2.out; omega⟩, ⟨zk0 BK138⟩, ⟨by repeat (first | exact zh0 HB | refine below_set ?_ GE138.out)⟩⟩
        ·replace c11 := Bool.eq_false_iff.mpr c11
         subst c11
         have H1 : (some false) = some r := by rw [if_neg (show ¬ (false = true) by decide)] at H; exact H
         clear H
         have H := H1
         clear H1
         obtain rfl := Option.some.inj H
         have hcz13_0 := zc0 BK138 0 rfl
         have hfz13_0 := blk_frozen BK138.out 0
         have p139 : 0 ≤ (x3_1 : Int) := of_decide_eq_true (by first | (with_reducible assumption) | assumption)
         have q139 : x3_1 < (l0_0.length : Int) := of_decide_eq_true (by first | (with_reducible assumption) | assumption)
         obtain ⟨ad139, A139_0, c139_0, e139, hx139_0, hl139_0, hi139_0⟩ := at_L1 HR0_0.out x3_1 p139 q139
         cases e139
         replace hx139_0 := (HB.out.cell (World.block_lt_of_cell? w _ hx139_0)).trans hx139_0
         have HR139_0 := Aside0.mk hi139_0
         have HC139_0 := Aside0.mk hl139_0
         clear hi139_0 hl139_0
         replace p139 := eq_true p139
         replace q139 := eq_true q139
         go_wp2_with (first | ((with_reducible refine gate_callee (f := 77) rfl ?_); refine goesL_ (some 21) rfl rfl Try.func77 (by kernel_rfl) rfl #[.int .i64 ((rd_L1 l0_0 x3_1).length : Int), .int .i64 1, .int .i64 64] rfl (by (try simp only [zq1, zq2, zq3]); first | done | rfl | (simp only [List.length_drop, List.length_take]; rfl)) ?_; (with_reducible refine (spec_l1In.calls ((rd_L1 l0_0 x3_1).length : Int) 1 64 false _ A10.out).mono ?_); rintro e w' ⟨rfl, ⟨nd, rfl⟩⟩; refine ⟨_, rfl, ?_⟩))
         go_ret
         exact ⟨by first | rfl | (simp <;> rfl) | (simp [*] <;> rfl), by repeat (first | exact zh0 HB | refine below_set ?_ GE138.out)⟩
       ·rw [if_neg c9] at H
        exact absurd H (by simp)
      ·rw [if_neg c8] at H
       exact absurd H (by simp)
     ·replace c7 := Bool.eq_false_iff.mpr c7
      subst c7
      have H1 : (some (decide ((l0_0.length : Int) ≤ 16))) = some r := by rw [if_neg (show ¬ (false = true) by decide)] at H; exact H
      clear H
      have H := H1
      clear H1
      obtain rfl := Option.some.inj H
      have hcz14_0 := zc0 BK138 0 rfl
      have hfz14_0 := blk_frozen BK138.out 0
      go_wp2
      go_ret
      exact ⟨by first | rfl | (simp <;> rfl) | (simp [*] <;> rfl), by repeat (first | exact zh0 HB | refine below_set ?_ GE138.out)⟩

open Go.Proofs.Ytkifenbcepicjaa.Cp
/-! ### spec_l2Window: function 65 -/
def spec_l2Window.j0 : Nat → Bool → List (List Int) → Int → Int → Int → Int → Option (Bool)
 | 0, _, _, _, _, _, _ => none
 | k + 1, x18, x142000, x143000, x143001, x143002, x143003 => if x18 = true then (some false) else (if 0 ≤ x143000 then (if x143000 < (x142000.length : Int) then ((spec_l1In.f x143001 0 ((rd_L1 x142000 x143000).length : Int)).bind fun t146 => (if t146 = true then ((spec_l1In.f x143003 0 (wrap64 (((rd_L1 x142000 x143000).length : Int) - x143001))).bind fun t147 => (if t147 = true then ((spec_l1In.f x143002 0 x143003).bind fun t148 => (some t148)) else (some false))) else (some false))) else (none)) else (none))
def spec_l2Window.f (k : Nat) (l0_0 : List (List Int)) (a1_0 : Int) (a1_1 : Int) (a1_2 : Int) (a1_3 : Int) : Option (Bool) := (spec_l2Memory.f k l0_0).bind fun t143 => (if t143 = true then ((spec_l1In.f a1_0 0 (wrap64 ((l0_0.length : Int) - 1))).bind fun t144 => (spec_l2Window.j0 k (!t144) l0_0 a1_0 a1_1 a1_2 a1_3)) else (spec_l2Window.j0 k true l0_0 a1_0 a1_1 a1_2 a1_3))
theorem spec_l2Window.mono_l : ∀ k, (∀ y0 y1 y2 y3 y4 y5, LeO (spec_l2Window.j0 k y0 y1 y2 y3 y4 y5) (spec_l2Window.j0 (k + 1) y0 y1 y2 y3 y4 y5))
 | 0 => fun _ _ _ _ _ _ r h => by simp [spec_l2Window.j0] at h
 | k + 1 => by
  have ih0 := spec_l2Window.mono_l k
  ·intro y0 y1 y2 y3 y4 y5
   unfold spec_l2Window.j0
   repeat' first
   | (with_reducible exact ih0 _ _ _ _ _ _)
   | (with_reducible exact spec_l2Memory.mono _ _)
   | (with_reducible exact LeO.refl _)
   | (with_reducible exact LeO.none _)
   | (with_reducible refine LeO.ite ?_ ?_)
   | (with_reducible refine LeO.bind ?_ (fun _ => ?_))
   | exact ih0 _ _ _ _ _ _
   | exact spec_l2Memory.mono _ _
   | exact LeO.none _
   | refine LeO.ite ?_ ?_
   | refine LeO.bind ?_ (fun _ => ?_)
theorem spec_l2Window.mono : ∀ a0 a1 a2 a3 a4 k, LeO (spec_l2Window.f k a0 a1 a2 a3 a4) (spec_l2Window.f (k + 1) a0 a1 a2 a3 a4) := by
 intro a0 a1 a2 a3 a4 k
 have ih0 := spec_l2Window.mono_l k
 unfold spec_l2Window.f
 repeat' first
   | (with_reducible exact ih0 _ _ _ _ _ _)
   | (with_reducible exact spec_l2Memory.mono _ _)
   | (with_reducible exact LeO.refl _)
   | (with_reducible exact LeO.none _)
   | (with_reducible refine LeO.ite ?_ ?_)
   | (with_reducible refine LeO.bind ?_ (fun _ => ?_))
   | exact ih0 _ _ _ _ _ _
   | exact spec_l2Memory.mono _ _
   | exact LeO.none _
   | refine LeO.ite ?_ ?_
   | refine LeO.bind ?_ (fun _ => ?_)
set_option maxHeartbeats 8000000 in
set_option maxRecDepth 100000 in
theorem spec_l2Window.calls (k : Nat) (A0_0 : Option Addr) (c0_0 : Nat) (l0_0 : List (List Int)) (a1_0 : Int) (a1_1 : Int) (a1_2 : Int) (a1_3 : Int) (r : Bool) (w : World) (hr0_0 : Kd.C (Kd.slice 5 (Kd.int .u8)) w A0_0 l0_0.length l0_0) (hc0_0 : l0_0.length ≤ c0_0) (h : spec_l2Window.f k l0_0 a1_0 a1_1 a1_2 a1_3 = some r) :
  Calls Try.prog 65 #[.agg #[.slice A0_0 l0_0.length c0_0], .agg #[.int .i64 a1_0, .int .i64 a1_1, .int .i64 a1_2, .int .i64 a1_3]] w fun e w' => e = .returned (.bool r) ∧ Below w.heap.size w w' := by
 have hu32 := Try.underlying32
 have hu54 := Try.underlying54
 have HR0_0 := Aside0.mk hr0_0
 have HC0_0 := Aside0.mk hc0_0
 clear hr0_0 hc0_0
 have HB := Aside0.mk (Below.refl w.heap.size w)
 have H : ((spec_l2Memory.f k l0_0).bind fun t143 => (if t143 = true then ((spec_l1In.f a1_0 0 (wrap64 ((l0_0.length : Int) - 1))).bind fun t144 => (spec_l2Window.j0 k (!t144) l0_0 a1_0 a1_1 a1_2 a1_3)) else (spec_l2Window.j0 k true l0_0 a1_0 a1_1 a1_2 a1_3))) = some r := h
 clear h
 have HC3 := Aside0.mk H
 clear H
 go_enter Try.func65, Try.ntmps65
 go_upto_region 1 with (first | ((with_reducible refine gate_dst (N := 2) rfl ?_); (try (refine gate_guard (by rfl) ?_; dsimp only)); refine box_event ?hg (N := 2) ?hd (cs := #[.slice A0_0 l0_0.length c0_0]) (t := 32) ?hr ?_; (case hd => rfl); (case hg => rfl); (case hr => first | (go_simp; done) | (go_simp; rfl)); intro gb141 hg w4 hbox hb; have BK141 := Aside0.mk (hbox); have GW141 := zge HB hg; have GE141 := zge HB hg; replace HB := zhs HB hb; clear hb hbox hg) | ((with_reducible refine gate_dst (N := 3) rfl ?_); (try (refine gate_guard (by rfl) ?_; dsimp only)); refine box_event ?hg (N := 3) ?hd (cs := #[.int .i64 a1_0, .int .i64 a1_1, .int .i64 a1_2, .int .i64 a1_3]) (t := 54) ?hr ?_; (case hd => rfl); (case hg => rfl); (case hr => first | (go_simp; done) | (go_simp; rfl)); intro gb142 hg w5 hbox hb; have BK142 := Aside0.mk (hbox); have GW142 := zge HB hg; have GE142 := zge HB hg; have NB141_142 := znl BK141 hg; have NB142_141 := znr BK141 hg; replace BK141 := zb0 BK141 hb; replace HB := zhs HB hb; clear hb hbox hg))
 (try simp only [Act.put, zp1, zp2, zp3])
 go_cut [18] (fun v18 wc => ∃ (kq : Nat) (x18_2 : Bool), v18 = .bool x18_2 ∧ Aside0 (spec_l2Window.j0 kq x18_2 l0_0 a1_0 a1_1 a1_2 a1_3 = some r) ∧ Aside0 (kq ≤ k) ∧ Aside0 (wc.heap[gb141]? = some (.cells #[(.slice A0_0 l0_0.length c0_0)] 32 (0, 0))) ∧ Aside0 (wc.heap[gb142]? = some (.cells #[.int .i64 a1_0, .int .i64 a1_1, .int .i64 a1_2, .int .i64 a1_3] 54 (0, 0))) ∧ Aside0 (Below w.heap.size w wc))
 case first =>
  have H := HC3.out
  clear HC3
  replace H := Option.bind_eq_some_iff.mp H
  obtain ⟨t143, A60, H⟩ := H
  replace H : (if t143 = true then ((spec_l1In.f a1_0 0 (wrap64 ((l0_0.length : Int) - 1))).bind fun t144 => (spec_l2Window.j0 k (!t144) l0_0 a1_0 a1_1 a1_2 a1_3)) else (spec_l2Window.j0 k true l0_0 a1_0 a1_1 a1_2 a1_3)) = some r := H
  have A6 := Aside0.mk A60
  clear A60
  by_cases c7 : t143 = true
  ·subst c7
   have H1 : ((spec_l1In.f a1_0 0 (wrap64 ((l0_0.length : Int) - 1))).bind fun t144 => (spec_l2Window.j0 k (!t144) l0_0 a1_0 a1_1 a1_2 a1_3)) = some r := by rw [if_pos rfl] at H; exact H
   clear H
   have H := H1
   clear H1
   replace H := Option.bind_eq_some_iff.mp H
   obtain ⟨t144, A80, H⟩ := H
   replace H : (spec_l2Window.j0 k (!t144) l0_0 a1_0 a1_1 a1_2 a1_3) = some r := H
   have A8 := Aside0.mk A80
   clear A80
   have H' := Aside0.mk H
   clear H
   have hnb9 := NB141_142.out
   have hnc9 := NB142_141.out
   have hcz10_0 := zc0 BK141 0 rfl
   have hfz10_0 := blk_frozen BK141.out 0
   go_wp2_with (first | ((with_reducible refine gate_callee (f := 53) rfl ?_); refine goesL_ (some 7) rfl rfl Try.func53 (by kernel_rfl) rfl #[.agg #[.slice A0_0 l0_0.length c0_0]] rfl (by (try simp only [zq1, zq2, zq3]); first | done | rfl | (simp only [List.length_drop, List.length_take]; rfl)) ?_; (with_reducible refine (spec_l2Memory.calls k _ _ l0_0 true _ ?side1 ?side2 A6.out).mono ?_); (case side1 => exact Kd.C_below HR0_0.out (zh0 HB)); (case side2 => exact HC0_0.out); rintro e w11 ⟨rfl, hb⟩; refine ⟨_, rfl, ?_⟩; replace BK141 := zb0 BK141 hb; replace BK142 := zb0 BK142 hb; replace HB := zhs HB hb; (try clear hb); have hcz12_0 := zc0 BK142 0 rfl; have hcz12_1 := zc0 BK142 1 rfl; have hcz12_2 := zc0 BK142 2 rfl; have hcz12_3 := zc0 BK142 3 rfl; have hfz12_0 := blk_frozen BK142.out 0; have hfz12_1 := blk_frozen BK142.out 1; have hfz12_2 := blk_frozen BK142.out 2; have hfz12_3 := blk_frozen BK142.out 3; have hcz13_0 := zc0 BK141 0 rfl; have hfz13_0 := blk_frozen BK141.out 0) | (go_at_call 77; (with_reducible refine (spec_l1In.calls a1_0 0 (wrap64 ((l0_0.length : Int) - 1)) t144 _ A8.out).mono ?_); rintro e w' ⟨rfl, ⟨nd, rfl⟩⟩))
   go_meet
   case rel => exact ⟨_, (!t144), (by first | rfl | (simp; done) | (simp [*]; done)), H', ⟨by first | omega | exact Nat.le_refl _⟩, ⟨zk0 BK141⟩, ⟨zk0 BK142⟩, ⟨by repeat (first | exact zh0 HB | refine below_set ?_ GE141.out | refine below_set ?_ GE142.out)⟩⟩
  ·replace c7 := Bool.eq_false_iff.mpr c7
   subst c7
   have H1 : (spec_l2Window.j0 k true l0_0 a1_0 a1_1 a1_2 a1_3) = some r := by rw [if_neg (show ¬ (false = true) by decide)] at H; exact H
   clear H
   have H := H1
   clear H1
   have H' := Aside0.mk H
   clear H
   have hnb14 := NB141_142.out
   have hnc14 := NB142_141.out
   have hcz15_0 := zc0 BK141 0 rfl
   have hfz15_0 := blk_frozen BK141.out 0
   go_wp2_with (first | ((with_reducible refine gate_callee (f := 53) rfl ?_); refine goesL_ (some 7) rfl rfl Try.func53 (by kernel_rfl) rfl #[.agg #[.slice A0_0 l0_0.length c0_0]] rfl (by (try simp only [zq1, zq2, zq3]); first | done | rfl | (simp only [List.length_drop, List.length_take]; rfl)) ?_; (with_reducible refine (spec_l2Memory.calls k _ _ l0_0 false _ ?side1 ?side2 A6.out).mono ?_); (case side1 => exact Kd.C_below HR0_0.out (zh0 HB)); (case side2 => exact HC0_0.out); rintro e w16 ⟨rfl, hb⟩; refine ⟨_, rfl, ?_⟩; replace BK141 := zb0 BK141 hb; replace BK142 := zb0 BK142 hb; replace HB := zhs HB hb; (try clear hb)))
   go_meet
   case rel => exact ⟨_, (true), (by first | rfl | (simp; done) | (simp [*]; done)), H', ⟨by first | omega | exact Nat.le_refl _⟩, ⟨zk0 BK141⟩, ⟨zk0 BK142⟩, ⟨by repeat (first | exact zh0 HB | refine below_set ?_ GE141.out | refine below_set ?_ GE142.out)⟩⟩
 case rest =>
  clear HC3
  try clear c1
  try clear p2
  try clear c5
  try clear c6
  try clear p6
  try clear c7
  try clear c9
  try clear c14
  try clear hcz10_0
  try clear hcz12_0
  try clear hcz12_1
  try clear hcz12_2
  try clear hcz12_3
  try clear hcz13_0
  try clear hcz15_0
  try clear hfz10_0
  try clear hfz12_0
  try clear hfz12_1
  try clear hfz12_2
  try clear hfz12_3
  try clear hfz13_0
  try clear hfz15_0
  obtain ⟨kq, x18_2, rfl, HA, HJ2, BK141, BK142, HB⟩ := hcut
  cases kq with
  | zero => exact absurd HA.out (by simp [spec_l2Window.j0])
  | succ kj2 =>
   have H := HA.out
   clear HA
   simp only [spec_l2Window.j0] at H
   by_cases c17 : x18_2 = true
   ·subst c17
    have H1 : (some false) = some r := by rw [if_pos rfl] at H; exact H
    clear H
    have H := H1
    clear H1
    obtain rfl := Option.some.inj H
    go_wp2
    go_ret
    exact ⟨by first | rfl | (simp <;> rfl) | (simp [*] <;> rfl), by repeat (first | exact zh0 HB | refine below_set ?_ GE141.out | refine below_set ?_ GE142.out)⟩
   ·replace c17 := Bool.eq_false_iff.mpr c17
    subst c17
    have H1 : (if 0 ≤ a1_0 then (if a1_0 < (l0_0.length : Int) then ((spec_l1In.f a1_1 0 ((rd_L1 l0_0 a1_0).length : Int)).bind fun t146 => (if t146 = true then ((spec_l1In.f a1_3 0 (wrap64 (((rd_L1 l0_0 a1_0).length : Int) - a1_1))).bind fun t147 => (if t147 = true then ((spec_l1In.f a1_2 0 a1_3).bind fun t148 => (some t148)) else (some false))) else (some false))) else (none)) else (none)) = some r := by rw [if_neg (show ¬ (false = true) by decide)] at H; exact H
    clear H
    have H := H1
    clear H1
    by_cases c18 : 0 ≤ a1_0
    ·rw [if_pos c18] at H
     have c18b0 : decide (0 ≤ a1_0) = true := decide_eq_true c18
     clear c18
     by_cases c19 : a1_0 < (l0_0.length : Int)
     ·rw [if_pos c19] at H
      have c19b0 : decide (a1_0 < (l0_0.length : Int)) = true := decide_eq_true c19
      clear c19
      replace H := Option.bind_eq_some_iff.mp H
      obtain ⟨t146, A200, H⟩ := H
      replace H : (if t146 = true then ((spec_l1In.f a1_3 0 (wrap64 (((rd_L1 l0_0 a1_0).length : Int) - a1_1))).bind fun t147 => (if t147 = true then ((spec_l1In.f a1_2 0 a1_3).bind fun t148 => (some t148)) else (some false))) else (some false)) = some r := H
      have A20 := Aside0.mk A200
      clear A200
      by_cases c21 : t146 = true
      ·subst c21
       have H1 : ((spec_l1In.f a1_3 0 (wrap64 (((rd_L1 l0_0 a1_0).length : Int) - a1_1))).bind fun t147 => (if t147 = true then ((spec_l1In.f a1_2 0 a1_3).bind fun t148 => (some t148)) else (some false))) = some r := by rw [if_pos rfl] at H; exact H
       clear H
       have H := H1
       clear H1
       replace H := Option.bind_eq_some_iff.mp H
       obtain ⟨t147, A220, H⟩ := H
       replace H : (if t147 = true then ((spec_l1In.f a1_2 0 a1_3).bind fun t148 => (some t148)) else (some false)) = some r := H
       have A22 := Aside0.mk A220
       clear A220
       by_cases c23 : t147 = true
       ·subst c23
        have H1 : ((spec_l1In.f a1_2 0 a1_3).bind fun t148 => (some t148)) = some r := by rw [if_pos rfl] at H; exact H
        clear H
        have H := H1
        clear H1
        replace H := Option.bind_eq_some_iff.mp H
        obtain ⟨t148, A240, H⟩ := H
        replace H : (some t148) = some r := H
        have A24 := Aside0.mk A240
        clear A240
        obtain rfl := Option.some.inj H
        have hnb25 := NB141_142.out
        have hnc25 := NB142_141.out
        have hcz26_0 := zc0 BK141 0 rfl
        have hfz26_0 := blk_frozen BK141.out 0
        have hcz27_0 := zc0 BK142 0 rfl
        have hcz27_1 := zc0 BK142 1 rfl
        have hcz27_2 := zc0 BK142 2 rfl
        have hcz27_3 := zc0 BK142 3 rfl
        have hfz27_0 := blk_frozen BK142.out 0
        have hfz27_1 := blk_frozen BK142.out 1
        have hfz27_2 := blk_frozen BK142.out 2
        have hfz27_3 := blk_frozen BK142.out 3
        have p145 : 0 ≤ (a1_0 : Int) := of_decide_eq_true (by first | (with_reducible assumption) | assumption)
        have q145 : a1_0 < (l0_0.length : Int) := of_decide_eq_true (by first | (with_reducible assumption) | assumption)
        obtain ⟨ad145, A145_0, c145_0, e145, hx145_0, hl145_0, hi145_0⟩ := at_L1 HR0_0.out a1_0 p145 q145
        cases e145
        replace hx145_0 := (HB.out.cell (World.block_lt_of_cell? w _ hx145_0)).trans hx145_0
        have HR145_0 := Aside0.mk hi145_0
        have HC145_0 := Aside0.mk hl145_0
        clear hi145_0 hl145_0
        replace p145 := eq_true p145
        replace q145 := eq_true q145
        go_wp2_with (first | ((with_reducible refine gate_callee (f := 77) rfl ?_); refine goesL_ (some 29) rfl rfl Try.func77 (by kernel_rfl) rfl #[.int .i64 a1_1, .int .i64 0, .int .i64 ((rd_L1 l0_0 a1_0).length : Int)] rfl (by (try simp only [zq1, zq2, zq3]); first | done | rfl | (simp only [List.length_drop, List.length_take]; rfl)) ?_; (with_reducible refine (spec_l1In.calls a1_1 0 ((rd_L1 l0_0 a1_0).length : Int) true _ A20.out).mono ?_); rintro e w' ⟨rfl, ⟨nd, rfl⟩⟩; refine ⟨_, rfl, ?_⟩) | (go_at_call 77; (with_reducible refine (spec_l1In.calls a1_3 0 (wrap64 (((rd_L1 l0_0 a1_0).length : Int) - a1_1)) true _ A22.out).mono ?_); rintro e w' ⟨rfl, ⟨nd, rfl⟩⟩) | (go_at_call 77; (with_reducible refine (spec_l1In.calls a1_2 0 a1_3 t148 _ A24.out).mono ?_); rintro e w' ⟨rfl, ⟨nd, rfl⟩⟩))
        go_ret
        exact ⟨by first | rfl | (simp <;> rfl) | (simp [*] <;> rfl), by repeat (first | exact zh0 HB | refine below_set ?_ GE141.out | refine below_set ?_ GE142.out)⟩
       ·replace c23 := Bool.eq_false_iff.mpr c23
        subst c23
        have H1 : (some false) = some r := by rw [if_neg (show ¬ (false = true) by decide)] at H; exact H
        clear H
        have H := H1
        clear H1
        obtain rfl := Option.some.inj H
        have hnb28 := NB141_142.out
        have hnc28 := NB142_141.out
        have hcz29_0 := zc0 BK141 0 rfl
        have hfz29_0 := blk_frozen BK141.out 0
        have hcz30_0 := zc0 BK142 0 rfl
        have hcz30_1 := zc0 BK142 1 rfl
        have hcz30_2 := zc0 BK142 2 rfl
        have hcz30_3 := zc0 BK142 3 rfl
        have hfz30_0 := blk_frozen BK142.out 0
        have hfz30_1 := blk_frozen BK142.out 1
        have hfz30_2 := blk_frozen BK142.out 2
        have hfz30_3 := blk_frozen BK142.out 3
        have p145 : 0 ≤ (a1_0 : Int) := of_decide_eq_true (by first | (with_reducible assumption) | assumption)
        have q145 : a1_0 < (l0_0.length : Int) := of_decide_eq_true (by first | (with_reducible assumption) | assumption)
        obtain ⟨ad145, A145_0, c145_0, e145, hx145_0, hl145_0, hi145_0⟩ := at_L1 HR0_0.out a1_0 p145 q145
        cases e145
        replace hx145_0 := (HB.out.cell (World.block_lt_of_cell? w _ hx145_0)).trans hx145_0
        have HR145_0 := Aside0.mk hi145_0
        have HC145_0 := Aside0.mk hl145_0
        clear hi145_0 hl145_0
        replace p145 := eq_true p145
        replace q145 := eq_true q145
        go_wp2_with (first | ((with_reducible refine gate_callee (f := 77) rfl ?_); refine goesL_ (some 29) rfl rfl Try.func77 (by kernel_rfl) rfl #[.int .i64 a1_1, .int .i64 0, .int .i64 ((rd_L1 l0_0 a1_0).length : Int)] rfl (by (try simp only [zq1, zq2, zq3]); first | done | rfl | (simp only [List.length_drop, List.length_take]; rfl)) ?_; (with_reducible refine (spec_l1In.calls a1_1 0 ((rd_L1 l0_0 a1_0).length : Int) true _ A20.out).mono ?_); rintro e w' ⟨rfl, ⟨nd, rfl⟩⟩; refine ⟨_, rfl, ?_⟩) | (go_at_call 77; (with_reducible refine (spec_l1In.calls a1_3 0 (wrap64 (((rd_L1 l0_0 a1_0).length : Int) - a1_1)) false _ A22.out).mono ?_); rintro e w' ⟨rfl, ⟨nd, rfl⟩⟩))
        go_ret
        exact ⟨by first | rfl | (simp <;> rfl) | (simp [*] <;> rfl), by repeat (first | exact zh0 HB | refine below_set ?_ GE141.out | refine below_set ?_ GE142.out)⟩
      ·replace c21 := Bool.eq_false_iff.mpr c21
       subst c21
       have H1 : (some false) = some r := by rw [if_neg (show ¬ (false = true) by decide)] at H; exact H
       clear H
       have H := H1
       clear H1
       obtain rfl := Option.some.inj H
       have hnb31 := NB141_142.out
       have hnc31 := NB142_141.out
       have hcz32_0 := zc0 BK141 0 rfl
       have hfz32_0 := blk_frozen BK141.out 0
       have hcz33_0 := zc0 BK142 0 rfl
       have hcz33_1 := zc0 BK142 1 rfl
       have hcz33_2 := zc0 BK142 2 rfl
       have hcz33_3 := zc0 BK142 3 rfl
       have hfz33_0 := blk_frozen BK142.out 0
       have hfz33_1 := blk_frozen BK142.out 1
       have hfz33_2 := blk_frozen BK142.out 2
       have hfz33_3 := blk_frozen BK142.out 3
       have p145 : 0 ≤ (a1_0 : Int) := of_decide_eq_true (by first | (with_reducible assumption) | assumption)
       have q145 : a1_0 < (l0_0.length : Int) := of_decide_eq_true (by first | (with_reducible assumption) | assumption)
       obtain ⟨ad145, A145_0, c145_0, e145, hx145_0, hl145_0, hi145_0⟩ := at_L1 HR0_0.out a1_0 p145 q145
       cases e145
       replace hx145_0 := (HB.out.cell (World.block_lt_of_cell? w _ hx145_0)).trans hx145_0
       have HR145_0 := Aside0.mk hi145_0
       have HC145_0 := Aside0.mk hl145_0
       clear hi145_0 hl145_0
       replace p145 := eq_true p145
       replace q145 := eq_true q145
       go_wp2_with (first | ((with_reducible refine gate_callee (f := 77) rfl ?_); refine goesL_ (some 29) rfl rfl Try.func77 (by kernel_rfl) rfl #[.int .i64 a1_1, .int .i64 0, .int .i64 ((rd_L1 l0_0 a1_0).length : Int)] rfl (by (try simp only [zq1, zq2, zq3]); first | done | rfl | (simp only [List.length_drop, List.length_take]; rfl)) ?_; (with_reducible refine (spec_l1In.calls a1_1 0 ((rd_L1 l0_0 a1_0).length : Int) false _ A20.out).mono ?_); rintro e w' ⟨rfl, ⟨nd, rfl⟩⟩; refine ⟨_, rfl, ?_⟩))
       go_ret
       exact ⟨by first | rfl | (simp <;> rfl) | (simp [*] <;> rfl), by repeat (first | exact zh0 HB | refine below_set ?_ GE141.out | refine below_set ?_ GE142.out)⟩
     ·rw [if_neg c19] at H
      exact absurd H (by simp)
    ·rw [if_neg c18] at H
     exact absurd H (by simp)

end Go.Proofs.Ytkifenbcepicjaa.PFnExactDropEntry
