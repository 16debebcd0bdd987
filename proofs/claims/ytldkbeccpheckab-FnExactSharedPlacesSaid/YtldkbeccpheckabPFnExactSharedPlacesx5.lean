/- What is proved here: each Go function that is named below answers, and leaves memory, as the theorem of its name says; no condition beyond those that each theorem states. Laid by this session's own program (wip/driver.py) over the kit's print. -/
import Derived.Test.YtldkbeccpheckabPFnExactSharedPlacesx0
import Derived.Test.YtldkbeccpheckabPFnExactSharedPlacesx1
import Derived.Test.YtldkbeccpheckabPFnExactSharedPlacesx2
import Derived.Test.YtldkbeccpheckabPFnExactSharedPlacesx3
import Derived.Test.YtldkbeccpheckabPFnExactSharedPlacesx4
namespace Go.Proofs.Ytldkbeccpheckab.PFnExactSharedPlaces
open Go.RowKit Go.Proofs.YtldkbeccpheckabW.PrintWords Go.Proofs.YtldkbeccpheckabW.PrintLast Go.Proofs.YtldkbeccpheckabW.PrintMore
attribute [local go_sem] max2_int min2_int max_two min_two max_three min_three max_four min_four   -- for this text's walks alone
set_option linter.unusedVariables false
set_option linter.unusedSimpArgs false

/-! ### impl_SharedPlaces: function 30 (by hand) -/
/-- Does a window see a place of an array? -/
def impl_SharedPlaces.see (array place : Int) (x : S61) : Option Bool := impl_Window_sees.f x.f0 x.f1 x.f2 x.f3 array place
def impl_SharedPlaces.both (a b : List S61) (array place : Int) : Option Bool := (Opn.anyO (impl_SharedPlaces.see array place) a).bind fun t => if t = true then Opn.anyO (impl_SharedPlaces.see array place) b else some false
def impl_SharedPlaces.inn (a b : List S61) (array : Int) : Nat → Int → Int → Option Int
  | 0, _, c => some c
  | d + 1, p, c => (impl_SharedPlaces.both a b array p).bind fun t => impl_SharedPlaces.inn a b array d (p + 1) (if t = true then wrap64 (c + 1) else c)
def impl_SharedPlaces.out (a b : List S61) : List (List Int) → Int → Int → Option Int
  | [], _, c => some c
  | r :: rs, i, c => (impl_SharedPlaces.inn a b i r.length 0 c).bind fun c2 => impl_SharedPlaces.out a b rs (i + 1) c2
def impl_SharedPlaces.f (k : Nat) (l0_0 : List (List Int)) (l1_0 l2_0 : List S61) : Option (Int × Bool) := (impl_isRope.f k l0_0 l1_0).bind fun t => if t = true then (impl_isRope.f k l0_0 l2_0).bind fun t2 => if t2 = true then (impl_SharedPlaces.out l1_0 l2_0 l0_0 0 0).bind fun c => some (c, true) else some (0, false) else some (0, false)
theorem impl_SharedPlaces.mono : ∀ a0 a1 a2 k, LeO (impl_SharedPlaces.f k a0 a1 a2) (impl_SharedPlaces.f (k + 1) a0 a1 a2) := by
  intro a0 a1 a2 k
  unfold impl_SharedPlaces.f
  exact LeO.bind (by apply impl_isRope.mono) (fun _ => LeO.ite (LeO.bind (by apply impl_isRope.mono) (fun _ => LeO.refl _)) (LeO.refl _))
set_option maxHeartbeats 4000000 in
set_option maxRecDepth 100000 in
theorem impl_SharedPlaces.clos (Ba Bp : Nat) (ai pi : Int) (x : S61) (q : Bool) (W : World) (hBa : Ba < W.heap.size) (hBp : Bp < W.heap.size) (hca : W.cell? ⟨Ba, 0, none⟩ = some (.int .i64 ai)) (hcp : W.cell? ⟨Bp, 0, none⟩ = some (.int .i64 pi)) (h : impl_SharedPlaces.see ai pi x = some q) :
    Calls Try.prog 107 #[.agg #[.int .i64 x.f0, .int .i64 x.f1, .int .i64 x.f2, .int .i64 x.f3], .pointer (some ⟨Ba, 0, none⟩), .pointer (some ⟨Bp, 0, none⟩)] W fun e w' => e = .returned (.bool q) ∧ Below W.heap.size W w' := by
  have hu := Try.underlying61
  have HC : Aside0 (∀ W1 : World, Calls Try.prog 108 #[.agg #[.int .i64 x.f0, .int .i64 x.f1, .int .i64 x.f2, .int .i64 x.f3], .int .i64 ai, .int .i64 pi] W1 fun e w' => e = .returned (.bool q) ∧ Below W1.heap.size W1 w') :=
    ⟨fun W1 => (impl_Window_sees.calls x.f0 x.f1 x.f2 x.f3 ai pi q W1 h).mono fun e w' hh => ⟨hh.1, hh.2⟩⟩
  have hne : Ba ≠ W.heap.size := by omega
  have hne2 : Bp ≠ W.heap.size := by omega
  clear h
  generalize x.f0 = x0 at *
  generalize x.f1 = x1 at *
  generalize x.f2 = x2 at *
  generalize x.f3 = x3 at *
  go_enter Try.func107, Try.ntmps107
  go_wp2_with (go_at_call 108; refine (HC.out _).mono ?_; rintro e w' ⟨rfl, hb'⟩)
  go_ret
  exact ⟨rfl, ((Below.refl _ W).alloc (Nat.le_refl _) _).trans (hb'.mono (by simp))⟩
set_option maxHeartbeats 4000000 in
set_option maxRecDepth 100000 in
/-- The two nested loops, behind the test. -/
theorem impl_SharedPlaces.calls (k : Nat) (A0_0 : Option Addr) (c0_0 : Nat) (l0_0 : List (List Int)) (A1_0 : Option Addr) (c1_0 : Nat) (l1_0 : List S61) (A2_0 : Option Addr) (c2_0 : Nat) (l2_0 : List S61) (r1 : Int) (r2 : Bool) (w : World) (hr0_0 : Kd.C (Kd.slice 5 (Kd.int .u8)) w A0_0 l0_0.length l0_0) (hc0_0 : l0_0.length ≤ c0_0) (hr1_0 : Kd.C k61 w A1_0 l1_0.length l1_0) (hc1_0 : l1_0.length ≤ c1_0) (hr2_0 : Kd.C k61 w A2_0 l2_0.length l2_0) (hc2_0 : l2_0.length ≤ c2_0) (h : impl_SharedPlaces.f k l0_0 l1_0 l2_0 = some (r1, r2)) :
    Calls Try.prog 30 #[.agg #[.slice A0_0 l0_0.length c0_0], .agg #[.slice A1_0 l1_0.length c1_0], .agg #[.slice A2_0 l2_0.length c2_0]] w fun e w' => e = .returned (.tuple #[.int .i64 r1, .bool r2]) ∧ Below w.heap.size w w' := by
  have hlen : l0_0.length ≤ 9223372036854775807 := hr0_0.2.1
  have HR0 := Lib.hid hr0_0
  have HR1 := Lib.hid hr1_0
  have HR2 := Lib.hid hr2_0
  have HC0 := Lib.hid hc0_0
  have HC1 := Lib.hid hc1_0
  have HC2 := Lib.hid hc2_0
  have HLEN := Lib.hid hlen
  clear hr0_0 hr1_0 hr2_0 hc0_0 hc1_0 hc2_0 hlen
  have eg : ∀ args w, (callFunc 107 args).run Try.prog w = .ok (.enter 107 args) w := Opn.entered Try.func107 (by kernel_rfl) rfl
  have EG := Lib.hid eg
  clear eg
  obtain ⟨W0, hW⟩ : ∃ W, W = (((w.alloc (.cells #[.slice A0_0 l0_0.length c0_0] 35)).alloc (.cells #[.slice A1_0 l1_0.length c1_0] 32)).alloc (.cells #[.slice A2_0 l2_0.length c2_0] 32)) := ⟨_, rfl⟩
  have HI : Hid (Lv.Inv w W0 [Lv.boxF (w.heap.size + 2) #[.slice A2_0 l2_0.length c2_0] 32, Lv.boxF (w.heap.size + 1) #[.slice A1_0 l1_0.length c1_0] 32, Lv.boxF (w.heap.size) #[.slice A0_0 l0_0.length c0_0] 35]) := by
    subst hW
    have := ((((Lv.Inv.refl w).box #[.slice A0_0 l0_0.length c0_0] 35).box #[.slice A1_0 l1_0.length c1_0] 32).box #[.slice A2_0 l2_0.length c2_0] 32)
    exact Lib.hid (by simpa using this)
  unfold impl_SharedPlaces.f at h
  replace h := Option.bind_eq_some_iff.mp h
  obtain ⟨t1, A1, h⟩ := h
  have HA1 := Lib.hid A1
  clear A1
  cases t1 with
  | false =>
    rw [if_neg (by decide)] at h
    simp only [Option.some.injEq, Prod.mk.injEq] at h
    obtain ⟨rfl, rfl⟩ := h
    go_enter Try.func30, Try.ntmps30
    go_upto_region 1 with (fail)
    rw [← hW]
    clear hW
    have c0 := HI.out.cell 2 rfl 0 rfl
    have c1 := HI.out.cell 1 rfl 0 rfl
    go_wp2_with (go_at_call 93; refine (impl_isRope.calls k _ _ l0_0 _ _ l1_0 false _ (Kd.C_below HR0.out HI.out.bel) HC0.out (Kd.C_below HR1.out HI.out.bel) HC1.out HA1.out).mono ?_; rintro e w1 ⟨rfl, hb⟩)
    go_ret2
    exact ⟨rfl, (HI.out.below hb).bel⟩
  | true =>
    rw [if_pos rfl] at h
    replace h := Option.bind_eq_some_iff.mp h
    obtain ⟨t2, A2, h⟩ := h
    have HA2 := Lib.hid A2
    clear A2
    cases t2 with
    | false =>
      rw [if_neg (by decide)] at h
      simp only [Option.some.injEq, Prod.mk.injEq] at h
      obtain ⟨rfl, rfl⟩ := h
      go_enter Try.func30, Try.ntmps30
      go_upto_region 1 with (fail)
      rw [← hW]
      clear hW
      refine Fl.startL [.take 0, .take 1, .one 2, .take 3, .take 4, .take 5, .take 6, .one 7, .take 8, .take 9] (by decide) HI.out ?_
      refine Fl.take (some 13) (v := .agg #[.slice A0_0 l0_0.length c0_0]) rfl rfl (Fl.ld 2 rfl (by rfl) _ _ rfl rfl Try.underlying35 rfl (by kernel_rfl)) ?_
      simp only [Act.put, Fl.z1, Fl.z2, Fl.z3]
      refine Fl.take (some 14) (v := .agg #[.slice A1_0 l1_0.length c1_0]) rfl rfl (Fl.ld 1 rfl (by rfl) _ _ rfl rfl Try.underlying32 rfl (by kernel_rfl)) ?_
      simp only [Act.put, Fl.z1, Fl.z2, Fl.z3]
      refine Fl.call (some 15) Try.func93 (by kernel_rfl) rfl #[.agg #[.slice A0_0 l0_0.length c0_0], .agg #[.slice A1_0 l1_0.length c1_0]] rfl rfl rfl (by rfl) rfl (fun E W hE hi => ?_)
      refine (impl_isRope.calls k _ _ l0_0 _ _ l1_0 true W (Kd.C_below HR0.out hi.bel) HC0.out (Kd.C_below HR1.out hi.bel) HC1.out HA1.out).mono ?_
      rintro e W' ⟨rfl, hb⟩
      refine Fl.keep hi hb ?_
      clear hi hb hE
      simp only [Act.put, Fl.z1, Fl.z2, Fl.z3]
      refine Fl.take (some 16) (v := .bool false) rfl rfl (Or.inl ⟨by rfl, fun _ _ => by rfl⟩) ?_
      simp only [Act.put, Fl.z1, Fl.z2, Fl.z3]
      refine Fl.take (some 17) (v := .bool false) rfl rfl (Or.inl ⟨by rfl, fun _ _ => by rfl⟩) ?_
      simp only [Act.put, Fl.z1, Fl.z2, Fl.z3]
      refine Fl.take (some 18) (v := .agg #[.slice A0_0 l0_0.length c0_0]) rfl rfl (Fl.ld 2 rfl (by rfl) _ _ rfl rfl Try.underlying35 rfl (by kernel_rfl)) ?_
      simp only [Act.put, Fl.z1, Fl.z2, Fl.z3]
      refine Fl.take (some 19) (v := .agg #[.slice A2_0 l2_0.length c2_0]) rfl rfl (Fl.ld 0 rfl (by rfl) _ _ rfl rfl Try.underlying32 rfl (by kernel_rfl)) ?_
      simp only [Act.put, Fl.z1, Fl.z2, Fl.z3]
      refine Fl.call (some 20) Try.func93 (by kernel_rfl) rfl #[.agg #[.slice A0_0 l0_0.length c0_0], .agg #[.slice A2_0 l2_0.length c2_0]] rfl rfl rfl (by rfl) rfl (fun E W hE hi => ?_)
      refine (impl_isRope.calls k _ _ l0_0 _ _ l2_0 false W (Kd.C_below HR0.out hi.bel) HC0.out (Kd.C_below HR2.out hi.bel) HC2.out HA2.out).mono ?_
      rintro e W' ⟨rfl, hb⟩
      refine Fl.keep hi hb ?_
      clear hi hb hE
      simp only [Act.put, Fl.z1, Fl.z2, Fl.z3]
      refine Fl.take (some 21) (v := .bool true) rfl rfl (Or.inl ⟨by rfl, fun _ _ => by rfl⟩) ?_
      simp only [Act.put, Fl.z1, Fl.z2, Fl.z3]
      refine Fl.take (some 22) (v := .bool true) rfl rfl (Or.inl ⟨by rfl, fun _ _ => by rfl⟩) ?_
      simp only [Act.put, Fl.z1, Fl.z2, Fl.z3]
      refine Fl.stop (fun W hi => ?_)
      replace HI := Lib.hid hi
      clear hi
      go_wp2
      go_ret2
      exact ⟨rfl, HI.out.bel⟩
    | true =>
      rw [if_pos rfl] at h
      replace h := Option.bind_eq_some_iff.mp h
      obtain ⟨cc, A3, h⟩ := h
      simp only [Option.some.injEq, Prod.mk.injEq] at h
      obtain ⟨rfl, rfl⟩ := h
      have HA3 := Lib.hid A3
      clear A3
      go_enter Try.func30, Try.ntmps30
      go_upto_region 1 with (fail)
      rw [← hW]
      clear hW
      refine Fl.startL [.take 0, .take 1, .one 2, .take 3, .take 4, .take 5, .take 6, .one 7, .take 8, .take 9] (by decide) HI.out ?_
      refine Fl.take (some 13) (v := .agg #[.slice A0_0 l0_0.length c0_0]) rfl rfl (Fl.ld 2 rfl (by rfl) _ _ rfl rfl Try.underlying35 rfl (by kernel_rfl)) ?_
      simp only [Act.put, Fl.z1, Fl.z2, Fl.z3]
      refine Fl.take (some 14) (v := .agg #[.slice A1_0 l1_0.length c1_0]) rfl rfl (Fl.ld 1 rfl (by rfl) _ _ rfl rfl Try.underlying32 rfl (by kernel_rfl)) ?_
      simp only [Act.put, Fl.z1, Fl.z2, Fl.z3]
      refine Fl.call (some 15) Try.func93 (by kernel_rfl) rfl #[.agg #[.slice A0_0 l0_0.length c0_0], .agg #[.slice A1_0 l1_0.length c1_0]] rfl rfl rfl (by rfl) rfl (fun E W hE hi => ?_)
      refine (impl_isRope.calls k _ _ l0_0 _ _ l1_0 true W (Kd.C_below HR0.out hi.bel) HC0.out (Kd.C_below HR1.out hi.bel) HC1.out HA1.out).mono ?_
      rintro e W' ⟨rfl, hb⟩
      refine Fl.keep hi hb ?_
      clear hi hb hE
      simp only [Act.put, Fl.z1, Fl.z2, Fl.z3]
      refine Fl.take (some 16) (v := .bool false) rfl rfl (Or.inl ⟨by rfl, fun _ _ => by rfl⟩) ?_
      simp only [Act.put, Fl.z1, Fl.z2, Fl.z3]
      refine Fl.take (some 17) (v := .bool false) rfl rfl (Or.inl ⟨by rfl, fun _ _ => by rfl⟩) ?_
      simp only [Act.put, Fl.z1, Fl.z2, Fl.z3]
      refine Fl.take (some 18) (v := .agg #[.slice A0_0 l0_0.length c0_0]) rfl rfl (Fl.ld 2 rfl (by rfl) _ _ rfl rfl Try.underlying35 rfl (by kernel_rfl)) ?_
      simp only [Act.put, Fl.z1, Fl.z2, Fl.z3]
      refine Fl.take (some 19) (v := .agg #[.slice A2_0 l2_0.length c2_0]) rfl rfl (Fl.ld 0 rfl (by rfl) _ _ rfl rfl Try.underlying32 rfl (by kernel_rfl)) ?_
      simp only [Act.put, Fl.z1, Fl.z2, Fl.z3]
      refine Fl.call (some 20) Try.func93 (by kernel_rfl) rfl #[.agg #[.slice A0_0 l0_0.length c0_0], .agg #[.slice A2_0 l2_0.length c2_0]] rfl rfl rfl (by rfl) rfl (fun E W hE hi => ?_)
      refine (impl_isRope.calls k _ _ l0_0 _ _ l2_0 true W (Kd.C_below HR0.out hi.bel) HC0.out (Kd.C_below HR2.out hi.bel) HC2.out HA2.out).mono ?_
      rintro e W' ⟨rfl, hb⟩
      refine Fl.keep hi hb ?_
      clear hi hb hE
      simp only [Act.put, Fl.z1, Fl.z2, Fl.z3]
      refine Fl.take (some 21) (v := .bool false) rfl rfl (Or.inl ⟨by rfl, fun _ _ => by rfl⟩) ?_
      simp only [Act.put, Fl.z1, Fl.z2, Fl.z3]
      refine Fl.take (some 22) (v := .bool false) rfl rfl (Or.inl ⟨by rfl, fun _ _ => by rfl⟩) ?_
      simp only [Act.put, Fl.z1, Fl.z2, Fl.z3]
      refine Fl.stop (fun W hi => ?_)
      replace HI := Lib.hid hi
      clear hi HA1 HA2
      have c0 := HI.out.cell 2 rfl 0 rfl
      go_wp2
      clear c0
      go_loopg [8, 26] l0_0.length (fun gg s8 s26 wr => ∃ (i : Nat) (c : Int), s8 = .int .i64 c ∧ s26 = .int .i64 (i : Int) ∧ Aside0 (i ≤ l0_0.length ∧ l0_0.length - i ≤ gg) ∧ Aside0 (impl_SharedPlaces.out l1_0 l2_0 (l0_0.drop i) (i : Int) c = some cc) ∧ Aside0 (Lv.Inv w wr [Lv.boxF (w.heap.size + 2) #[.slice A2_0 l2_0.length c2_0] 32, Lv.boxF (w.heap.size + 1) #[.slice A1_0 l1_0.length c1_0] 32, Lv.boxF (w.heap.size) #[.slice A0_0 l0_0.length c0_0] 35]))
      case atStart => exact ⟨0, 0, rfl, rfl, ⟨by omega⟩, ⟨HA3.out⟩, ⟨HI.out⟩⟩
      case round =>
        clear HA3 HI
        obtain ⟨i, c, rfl, rfl, HX, HA, HI⟩ := hrel
        have hii := HX.out.1
        by_cases hlt : i < l0_0.length
        · have hx1 : (0 : Int) ≤ (i : Int) := by omega
          have hx2 : (i : Int) < (l0_0.length : Int) := by omega
          obtain ⟨ad, A, cN, e, hx, hl, hrow⟩ := at_L1 (Kd.C_below HR0.out HI.out.bel) (i : Int) hx1 hx2
          have hrd : rd_L1 l0_0 (i : Int) = l0_0[i] := by
            unfold rd_L1
            rw [Int.toNat_natCast, List.getD_eq_getElem?_getD, List.getElem?_eq_getElem hlt]
            rfl
          have h := HA.out
          rw [List.drop_eq_getElem_cons hlt, ← hrd] at h
          generalize rd_L1 l0_0 (i : Int) = row at hx hl hrow h
          have hrl : row.length ≤ 9223372036854775807 := hrow.2.1
          replace h := Option.bind_eq_some_iff.mp h
          obtain ⟨c3, h3, h4⟩ := h
          have H3 := Lib.hid h3
          have H4 := Lib.hid h4
          have HRL := Lib.hid hrl
          cases e
          rw [Int.toNat_natCast] at hx
          have HLT := Lib.hid hlt
          clear h3 h4 HA hl hrow hrd hrl
          have d1 : decide ((i : Int) < (l0_0.length : Int)) = true := decide_eq_true hx2
          go_upto_region 7 with (fail)
          have HI1 := Lib.hid (HI.out.box #[.int .i64 (i : Int)] 3)
          obtain ⟨g1, hg1⟩ : ∃ g, g = wr.heap.size := ⟨_, rfl⟩
          generalize hW1 : wr.alloc (.cells #[.int .i64 (i : Int)] 3) = W1 at HI1 ⊢
          rw [← hg1] at HI1 ⊢
          clear hW1 hg1 HI d1 hx hx2
          go_wp2
          go_loopg [8, 33] row.length (fun gg s8 s33 wr2 => ∃ (p : Nat) (c2 : Int), s8 = .int .i64 c2 ∧ s33 = .int .i64 (p : Int) ∧ Aside0 (p ≤ row.length ∧ row.length - p ≤ gg) ∧ Aside0 (impl_SharedPlaces.inn l1_0 l2_0 (i : Int) (row.length - p) (p : Int) c2 = some c3) ∧ Aside0 (Lv.Inv w wr2 (Lv.boxF g1 #[.int .i64 (i : Int)] 3 :: [Lv.boxF (w.heap.size + 2) #[.slice A2_0 l2_0.length c2_0] 32, Lv.boxF (w.heap.size + 1) #[.slice A1_0 l1_0.length c1_0] 32, Lv.boxF (w.heap.size) #[.slice (some ad) l0_0.length c0_0] 35])))
          case atStart => exact ⟨0, c, rfl, rfl, ⟨by omega⟩, ⟨by simpa using H3.out⟩, ⟨HI1.out⟩⟩
          case round =>
            clear H3 HI1
            obtain ⟨p, c2, rfl, rfl, HP, HB, HI⟩ := hrel
            have hpp := HP.out.1
            by_cases hpl : p < row.length
            · have hp1 : (0 : Int) ≤ (p : Int) := by omega
              have h := HB.out
              rw [show row.length - p = (row.length - (p + 1)) + 1 from by omega] at h
              replace h := Option.bind_eq_some_iff.mp h
              obtain ⟨tt, h1, h2⟩ := h
              replace h1 := Option.bind_eq_some_iff.mp h1
              obtain ⟨ta, h3, h5⟩ := h1
              have HTA := Lib.hid h3
              have HREC := Lib.hid h2
              have HPL := Lib.hid hpl
              have d2 : decide ((p : Int) < (row.length : Int)) = true := decide_eq_true (by omega)
              clear h2 h3 HB hpl
              go_upto_region 11 with (fail)
              have HI2 := Lib.hid (HI.out.box #[.int .i64 (p : Int)] 3)
              obtain ⟨g2, hg2⟩ : ∃ g, g = wr.heap.size := ⟨_, rfl⟩
              generalize hW2 : wr.alloc (.cells #[.int .i64 (p : Int)] 3) = W2 at HI2 ⊢
              rw [← hg2] at HI2 ⊢
              clear hW2 hg2 HI d2
              have HCL : Hid (∀ (V : World), Lv.Inv w V (Lv.boxF g2 #[.int .i64 (p : Int)] 3 :: Lv.boxF g1 #[.int .i64 (i : Int)] 3 :: [Lv.boxF (w.heap.size + 2) #[.slice A2_0 l2_0.length c2_0] 32, Lv.boxF (w.heap.size + 1) #[.slice A1_0 l1_0.length c1_0] 32, Lv.boxF (w.heap.size) #[.slice (some ad) l0_0.length c0_0] 35]) → ∀ (A : Option Addr) (c : Nat) (l : List S61) (r : Bool), Kd.C k61 V A l.length l → Opn.anyO (impl_SharedPlaces.see (i : Int) (p : Int)) l = some r → Calls Try.prog 109 #[.slice A l.length c, .func (.func 107) #[] #[.pointer (some ⟨g1, 0, none⟩), .pointer (some ⟨g2, 0, none⟩)]] V fun e w' => e = .returned (.bool r) ∧ Below V.heap.size V w') := Lib.hid (fun V hV A c l r hC hr => impl_areOn.contains _ 107 #[.pointer (some ⟨g1, 0, none⟩), .pointer (some ⟨g2, 0, none⟩)] EG.out A c l r V (fun W x q hbW hq => by
                have hIW := hV.below hbW
                have e1 := hIW.cell 1 rfl 0 rfl
                have e2 := hIW.cell 0 rfl 0 rfl
                exact (impl_SharedPlaces.clos g1 g2 (i : Int) (p : Int) x q W (World.block_lt_of_cell? W _ e1) (World.block_lt_of_cell? W _ e2) e1 e2 hq).mono fun e w' hh => ⟨hh.1, hbW.trans (hh.2.mono hbW.size)⟩) hC hr)
              have k1 := HI2.out.cell 3 rfl 0 rfl
              cases ta with
              | true =>
                rw [if_pos rfl] at h5
                have HTB := Lib.hid h5
                clear h5
                have hb1 : (p : Int) + 1 ≤ 9223372036854775807 := by have := HRL.out; have := HPL.out; omega
                cases tt with
                | true =>
                  go_wp2_with fail
                  refine (HCL.out _ HI2.out _ _ l1_0 true (Kd.C_below HR1.out HI2.out.bel) HTA.out).mono ?_
                  rintro e w3 ⟨rfl, hb3⟩
                  have HI3 := Lib.hid (HI2.out.below hb3)
                  have k2 := HI3.out.cell 2 rfl 0 rfl
                  clear k1 hb3 HI2
                  go_wp2_with fail
                  refine (HCL.out _ HI3.out _ _ l2_0 true (Kd.C_below HR2.out HI3.out.bel) HTB.out).mono ?_
                  rintro e w4 ⟨rfl, hb4⟩
                  have HI4 := Lib.hid (HI3.out.below hb4)
                  clear k2 hb4 HI3
                  go_wp2
                  go_roundg (row.length - (p + 1))
                  case measure => have := HP.out; have := HPL.out; omega
                  case rel => exact ⟨p + 1, wrap64 (c2 + 1), by first | rfl | (simp; done), by first | go_num | rfl | (simp; done), ⟨by have := HP.out; have := HPL.out; omega⟩, ⟨by rw [show ((p + 1 : Nat) : Int) = (p : Int) + 1 from by omega]; exact HREC.out⟩, ⟨HI4.out.tail⟩⟩
                | false =>
                  go_wp2_with fail
                  refine (HCL.out _ HI2.out _ _ l1_0 true (Kd.C_below HR1.out HI2.out.bel) HTA.out).mono ?_
                  rintro e w3 ⟨rfl, hb3⟩
                  have HI3 := Lib.hid (HI2.out.below hb3)
                  have k2 := HI3.out.cell 2 rfl 0 rfl
                  clear k1 hb3 HI2
                  go_wp2_with fail
                  refine (HCL.out _ HI3.out _ _ l2_0 false (Kd.C_below HR2.out HI3.out.bel) HTB.out).mono ?_
                  rintro e w4 ⟨rfl, hb4⟩
                  have HI4 := Lib.hid (HI3.out.below hb4)
                  clear k2 hb4 HI3
                  go_wp2
                  go_roundg (row.length - (p + 1))
                  case measure => have := HP.out; have := HPL.out; omega
                  case rel => exact ⟨p + 1, c2, by first | rfl | (simp; done), by first | go_num | rfl | (simp; done), ⟨by have := HP.out; have := HPL.out; omega⟩, ⟨by rw [show ((p + 1 : Nat) : Int) = (p : Int) + 1 from by omega]; exact HREC.out⟩, ⟨HI4.out.tail⟩⟩
              | false =>
                rw [if_neg (by decide)] at h5
                obtain rfl := Option.some.inj h5
                clear h5
                have hb1 : (p : Int) + 1 ≤ 9223372036854775807 := by have := HRL.out; have := HPL.out; omega
                go_wp2_with fail
                refine (HCL.out _ HI2.out _ _ l1_0 false (Kd.C_below HR1.out HI2.out.bel) HTA.out).mono ?_
                rintro e w3 ⟨rfl, hb3⟩
                have HI3 := Lib.hid (HI2.out.below hb3)
                clear k1 hb3 HI2
                go_wp2
                go_roundg (row.length - (p + 1))
                case measure => have := HP.out; have := HPL.out; omega
                case rel => exact ⟨p + 1, c2, by first | rfl | (simp; done), by first | go_num | rfl | (simp; done), ⟨by have := HP.out; have := HPL.out; omega⟩, ⟨by rw [show ((p + 1 : Nat) : Int) = (p : Int) + 1 from by omega]; exact HREC.out⟩, ⟨HI3.out.tail⟩⟩
            · have hn : decide ((p : Int) < (row.length : Int)) = false := decide_eq_false (by omega)
              have he := HB.out
              rw [show row.length - p = 0 from by omega] at he
              obtain rfl := Option.some.inj (show some c2 = some c3 from he)
              clear he HB
              have hb1 : (i : Int) + 1 ≤ 9223372036854775807 := by have := HLEN.out; have := HLT.out; omega
              go_wp2
              go_roundg (l0_0.length - (i + 1))
              case measure => have := HX.out; have := HLT.out; omega
              case rel => exact ⟨i + 1, c2, by first | rfl | (simp; done), by first | go_num | rfl | (simp; done), ⟨by have := HX.out; have := HLT.out; omega⟩, ⟨by rw [show ((i + 1 : Nat) : Int) = (i : Int) + 1 from by omega]; exact H4.out⟩, ⟨HI.out.tail⟩⟩
        · have hn : decide ((i : Int) < (l0_0.length : Int)) = false := decide_eq_false (by omega)
          have he := HA.out
          rw [List.drop_eq_nil_of_le (by omega)] at he
          obtain rfl := Option.some.inj (show some c = some cc from he)
          clear he HA
          go_wp2
          go_ret2
          exact ⟨rfl, HI.out.bel⟩

/-! ### laws_FnExactSharedPlaces: function 7 (by hand) -/
def laws_FnExactSharedPlaces.f (k : Nat) (l0_0 : List (List Int)) (l1_0 : List (S53)) (l2_0 : List (S53)) : Option Bool := (laws_szMemory.f k l0_0 1048576).bind fun x1 => if x1 < 0 then some true else (laws_szRope.f l1_0 x1).bind fun x3 => if x3 < 0 then some true else (laws_szRope.f l2_0 x3).bind fun x5 => if x5 < 0 then some true else (laws_toMemory.f k l0_0).bind fun x7 => (laws_toRope.f k l1_0).bind fun x10 => (laws_toRope.f k l2_0).bind fun x13 => (spec_SharedPlaces.f k x7 x10 x13).bind fun y_x16 => (impl_SharedPlaces.f k x7 x10 x13).bind fun y_x25 => (laws_eqMemory.f k x7 x7).bind fun x29 => (laws_eqRope.f k x10 x10).bind fun x32 => (laws_eqRope.f k x13 x13).bind fun x35 => if x29 = true ∧ x32 = true ∧ x35 = true ∧ y_x25.1 = y_x16.1 ∧ y_x25.2 = y_x16.2 then some true else none
theorem laws_FnExactSharedPlaces.mono : ∀ l0_0 l1_0 l2_0 k, LeO (laws_FnExactSharedPlaces.f k l0_0 l1_0 l2_0) (laws_FnExactSharedPlaces.f (k + 1) l0_0 l1_0 l2_0) := by
  intro l0_0 l1_0 l2_0 k
  unfold laws_FnExactSharedPlaces.f
  exact LeO.bind (by apply laws_szMemory.mono) (fun _ => LeO.ite (LeO.refl _) (LeO.bind (LeO.refl _) (fun _ => LeO.ite (LeO.refl _) (LeO.bind (LeO.refl _) (fun _ => LeO.ite (LeO.refl _) (LeO.bind (by apply laws_toMemory.mono) (fun _ => LeO.bind (by apply laws_toRope.mono) (fun _ => LeO.bind (by apply laws_toRope.mono) (fun _ => LeO.bind (by apply spec_SharedPlaces.mono) (fun _ => LeO.bind (by apply impl_SharedPlaces.mono) (fun _ => LeO.bind (by apply laws_eqMemory.mono) (fun _ => LeO.bind (by apply laws_eqRope.mono) (fun _ => LeO.bind (by apply laws_eqRope.mono) (fun _ => LeO.refl _))))))))))))))
set_option maxHeartbeats 4000000 in
set_option maxRecDepth 100000 in
theorem laws_FnExactSharedPlaces.calls (k : Nat) (A0_0 : Option Addr) (c0_0 : Nat) (l0_0 : List (List Int)) (A1_0 : Option Addr) (c1_0 : Nat) (l1_0 : List (S53)) (A2_0 : Option Addr) (c2_0 : Nat) (l2_0 : List (S53)) (r : Bool) (w : World) (hr0_0 : Kd.C (Kd.slice 5 (Kd.int .u8)) w A0_0 l0_0.length l0_0) (hc0_0 : l0_0.length ≤ c0_0) (hr1_0 : Kd.C k53 w A1_0 l1_0.length l1_0) (hc1_0 : l1_0.length ≤ c1_0) (hr2_0 : Kd.C k53 w A2_0 l2_0.length l2_0) (hc2_0 : l2_0.length ≤ c2_0) (h : laws_FnExactSharedPlaces.f k l0_0 l1_0 l2_0 = some r) :
    Calls Try.prog 7 #[.agg #[.slice A0_0 l0_0.length c0_0], .agg #[.slice A1_0 l1_0.length c1_0], .agg #[.slice A2_0 l2_0.length c2_0]] w fun e w' => e = .returned (.bool r) ∧ Below w.heap.size w w' := by
  have HR0_0 := Lib.hid hr0_0
  have HC0_0 := Lib.hid hc0_0
  clear hr0_0 hc0_0
  have HR1_0 := Lib.hid hr1_0
  have HC1_0 := Lib.hid hc1_0
  clear hr1_0 hc1_0
  have HR2_0 := Lib.hid hr2_0
  have HC2_0 := Lib.hid hc2_0
  clear hr2_0 hc2_0
  obtain ⟨W0, hW⟩ : ∃ W, W = (((w.alloc (.cells #[.slice A0_0 l0_0.length c0_0] 24)).alloc (.cells #[.slice A1_0 l1_0.length c1_0] 27)).alloc (.cells #[.slice A2_0 l2_0.length c2_0] 27)) := ⟨_, rfl⟩
  have HI : Hid (Lv.Inv w W0 [Lv.boxF (w.heap.size + 2) #[.slice A2_0 l2_0.length c2_0] 27, Lv.boxF (w.heap.size + 1) #[.slice A1_0 l1_0.length c1_0] 27, Lv.boxF (w.heap.size) #[.slice A0_0 l0_0.length c0_0] 24]) := by
    subst hW
    have := ((((Lv.Inv.refl w).box #[.slice A0_0 l0_0.length c0_0] 24).box #[.slice A1_0 l1_0.length c1_0] 27).box #[.slice A2_0 l2_0.length c2_0] 27)
    exact Lib.hid (by simpa using this)
  unfold laws_FnExactSharedPlaces.f at h
  replace h := Option.bind_eq_some_iff.mp h
  obtain ⟨x1, A2, h⟩ := h
  try dsimp only at h
  have HA2 := Lib.hid A2
  clear A2
  have HH := Lib.hid h
  clear h
  go_enter Try.func7, Try.ntmps7
  go_upto_region 1 with (fail)
  rw [← hW]
  clear hW
  go_upto_region 2 with (fail)
  refine Fl.startL [.take 0, .take 1, .one 2, .take 3] (by decide) HI.out ?_
  refine Fl.take (some 15) (v := .agg #[.slice A0_0 l0_0.length c0_0]) rfl rfl (Fl.ld 2 rfl (by rfl) _ _ rfl rfl Try.underlying24 rfl (by kernel_rfl)) ?_
  simp only [Act.put, Fl.z1, Fl.z2, Fl.z3]
  refine Fl.take (some 16) (v := .int .i64 1048576) rfl rfl (Or.inl ⟨by rfl, fun _ _ => by rfl⟩) ?_
  simp only [Act.put, Fl.z1, Fl.z2, Fl.z3]
  refine Fl.call (some 17) Try.func12 (by kernel_rfl) rfl #[.agg #[.slice A0_0 l0_0.length c0_0], .int .i64 1048576] rfl rfl rfl (by rfl) rfl (fun E W hE hi => ?_)
  refine (laws_szMemory.calls k _ _ l0_0 1048576 x1 W (Kd.C_below HR0_0.out hi.bel) HC0_0.out HA2.out).mono ?_
  rintro e W' ⟨rfl, hb⟩
  refine Fl.keep hi hb ?_
  clear hi hb hE
  simp only [Act.put, Fl.z1, Fl.z2, Fl.z3]
  refine Fl.take (some 7) (v := .int .i64 x1) rfl rfl (Or.inl ⟨by rfl, fun _ _ => by rfl⟩) ?_
  simp only [Act.put, Fl.z1, Fl.z2, Fl.z3]
  refine Fl.stop (fun W hi => ?_)
  replace HI := Lib.hid hi
  clear hi
  try clear hn_
  have h := HH.out
  clear HH
  by_cases hn : x1 < 0
  · rw [if_pos hn] at h
    obtain rfl := Option.some.inj h
    clear h
    have hn_ := decide_eq_true hn
    go_wp2
    go_ret
    exact ⟨rfl, HI.out.bel⟩
  rw [if_neg hn] at h
  have hn_ := decide_eq_false hn
  clear hn
  replace h := Option.bind_eq_some_iff.mp h
  obtain ⟨x3, A4, h⟩ := h
  try dsimp only at h
  have HA4 := Lib.hid A4
  clear A4
  have HH := Lib.hid h
  clear h
  go_upto_region 5 with (fail)
  refine Fl.startL [.take 0, .take 1, .one 2, .take 3] (by decide) HI.out ?_
  refine Fl.take (some 20) (v := .agg #[.slice A1_0 l1_0.length c1_0]) rfl rfl (Fl.ld 1 rfl (by rfl) _ _ rfl rfl Try.underlying27 rfl (by kernel_rfl)) ?_
  simp only [Act.put, Fl.z1, Fl.z2, Fl.z3]
  refine Fl.take (some 21) (v := .int .i64 x1) rfl rfl (Or.inl ⟨by rfl, fun _ _ => by rfl⟩) ?_
  simp only [Act.put, Fl.z1, Fl.z2, Fl.z3]
  refine Fl.call (some 22) Try.func13 (by kernel_rfl) rfl #[.agg #[.slice A1_0 l1_0.length c1_0], .int .i64 x1] rfl rfl rfl (by rfl) rfl (fun E W hE hi => ?_)
  refine (laws_szRope.calls _ _ l1_0 x1 x3 W (Kd.C_below HR1_0.out hi.bel) HC1_0.out HA4.out).mono ?_
  rintro e W' ⟨rfl, hb⟩
  refine Fl.keep hi hb ?_
  clear hi hb hE
  simp only [Act.put, Fl.z1, Fl.z2, Fl.z3]
  refine Fl.take (some 7) (v := .int .i64 x3) rfl rfl (Or.inl ⟨by rfl, fun _ _ => by rfl⟩) ?_
  simp only [Act.put, Fl.z1, Fl.z2, Fl.z3]
  refine Fl.stop (fun W hi => ?_)
  replace HI := Lib.hid hi
  clear hi
  try clear hn_
  have h := HH.out
  clear HH
  by_cases hn : x3 < 0
  · rw [if_pos hn] at h
    obtain rfl := Option.some.inj h
    clear h
    have hn_ := decide_eq_true hn
    go_wp2
    go_ret
    exact ⟨rfl, HI.out.bel⟩
  rw [if_neg hn] at h
  have hn_ := decide_eq_false hn
  clear hn
  replace h := Option.bind_eq_some_iff.mp h
  obtain ⟨x5, A6, h⟩ := h
  try dsimp only at h
  have HA6 := Lib.hid A6
  clear A6
  have HH := Lib.hid h
  clear h
  go_upto_region 8 with (fail)
  refine Fl.startL [.take 0, .take 1, .one 2, .take 3] (by decide) HI.out ?_
  refine Fl.take (some 25) (v := .agg #[.slice A2_0 l2_0.length c2_0]) rfl rfl (Fl.ld 0 rfl (by rfl) _ _ rfl rfl Try.underlying27 rfl (by kernel_rfl)) ?_
  simp only [Act.put, Fl.z1, Fl.z2, Fl.z3]
  refine Fl.take (some 26) (v := .int .i64 x3) rfl rfl (Or.inl ⟨by rfl, fun _ _ => by rfl⟩) ?_
  simp only [Act.put, Fl.z1, Fl.z2, Fl.z3]
  refine Fl.call (some 27) Try.func13 (by kernel_rfl) rfl #[.agg #[.slice A2_0 l2_0.length c2_0], .int .i64 x3] rfl rfl rfl (by rfl) rfl (fun E W hE hi => ?_)
  refine (laws_szRope.calls _ _ l2_0 x3 x5 W (Kd.C_below HR2_0.out hi.bel) HC2_0.out HA6.out).mono ?_
  rintro e W' ⟨rfl, hb⟩
  refine Fl.keep hi hb ?_
  clear hi hb hE
  simp only [Act.put, Fl.z1, Fl.z2, Fl.z3]
  refine Fl.take (some 7) (v := .int .i64 x5) rfl rfl (Or.inl ⟨by rfl, fun _ _ => by rfl⟩) ?_
  simp only [Act.put, Fl.z1, Fl.z2, Fl.z3]
  refine Fl.stop (fun W hi => ?_)
  replace HI := Lib.hid hi
  clear hi
  try clear hn_
  have h := HH.out
  clear HH
  by_cases hn : x5 < 0
  · rw [if_pos hn] at h
    obtain rfl := Option.some.inj h
    clear h
    have hn_ := decide_eq_true hn
    go_wp2
    go_ret
    exact ⟨rfl, HI.out.bel⟩
  rw [if_neg hn] at h
  have hn_ := decide_eq_false hn
  clear hn
  replace h := Option.bind_eq_some_iff.mp h
  obtain ⟨x7, A8, h⟩ := h
  try dsimp only at h
  have HA8 := Lib.hid A8
  clear A8
  replace h := Option.bind_eq_some_iff.mp h
  obtain ⟨x10, A11, h⟩ := h
  try dsimp only at h
  have HA11 := Lib.hid A11
  clear A11
  replace h := Option.bind_eq_some_iff.mp h
  obtain ⟨x13, A14, h⟩ := h
  try dsimp only at h
  have HA14 := Lib.hid A14
  clear A14
  replace h := Option.bind_eq_some_iff.mp h
  obtain ⟨⟨x16, x17⟩, A18, h⟩ := h
  try dsimp only at h
  have HA18 := Lib.hid A18
  clear A18
  replace h := Option.bind_eq_some_iff.mp h
  obtain ⟨⟨x25, x26⟩, A27, h⟩ := h
  try dsimp only at h
  have HA27 := Lib.hid A27
  clear A27
  replace h := Option.bind_eq_some_iff.mp h
  obtain ⟨x29, A30, h⟩ := h
  try dsimp only at h
  have HA30 := Lib.hid A30
  clear A30
  replace h := Option.bind_eq_some_iff.mp h
  obtain ⟨x32, A33, h⟩ := h
  try dsimp only at h
  have HA33 := Lib.hid A33
  clear A33
  replace h := Option.bind_eq_some_iff.mp h
  obtain ⟨x35, A36, h⟩ := h
  try dsimp only at h
  have HA36 := Lib.hid A36
  clear A36
  obtain ⟨hc, rfl⟩ := Lv.of_if h
  clear h
  obtain ⟨rfl, rfl, rfl, rfl, rfl⟩ := hc
  go_upto_region 11 with (fail)
  refine Fl.start [([],[]),([0],[0]),([],[]),([2,1],[2]),([],[]),([4,3],[4]),([1,3,5,5],[1,3,5]),([6],[6]),([7],[7]),([7],[7]),([8,6,0,1,2,3,4,5,6,7,8],[8]),([9,10,0,1,2,3,4,5,6,7,8,9,10],[9])] [] 13 [.take 0, .take 2, .take 4, .one 1, .one 3, .one 5, .one 6, .take 7, .take 8, .take 9, .take 10, .take 11] [] (by kernel_rfl) (by kernel_rfl) (by decide) (by decide) (by kernel_rfl) (by kernel_rfl) Fl.mk0 HI.out ?_
  refine Fl.take (some 31) (v := .agg #[.slice A0_0 l0_0.length c0_0]) rfl rfl (Fl.ld 2 rfl (by rfl) _ _ rfl rfl Try.underlying24 rfl (by kernel_rfl)) ?_
  simp only [Act.put, Fl.z1, Fl.z2, Fl.z3]
  refine Fl.take (some 33) (v := .agg #[.slice A1_0 l1_0.length c1_0]) rfl rfl (Fl.ld 1 rfl (by rfl) _ _ rfl rfl Try.underlying27 rfl (by kernel_rfl)) ?_
  simp only [Act.put, Fl.z1, Fl.z2, Fl.z3]
  refine Fl.take (some 35) (v := .agg #[.slice A2_0 l2_0.length c2_0]) rfl rfl (Fl.ld 0 rfl (by rfl) _ _ rfl rfl Try.underlying27 rfl (by kernel_rfl)) ?_
  simp only [Act.put, Fl.z1, Fl.z2, Fl.z3]
  refine Fl.call (some 32) Try.func15 (by kernel_rfl) rfl #[.agg #[.slice A0_0 l0_0.length c0_0]] rfl rfl rfl (by rfl) rfl (fun E W hE hi => ?_)
  refine (laws_toMemory.calls k _ _ l0_0 x7 W (Kd.C_below HR0_0.out hi.bel) HC0_0.out HA8.out).mono ?_
  rintro e W' ⟨v, rfl, hr, hb⟩
  obtain ⟨Aq9, cq9, rfl⟩ := Kd.S_slice hr
  refine Fl.addS hi (Kd.S_mono hr (fun _ _ => trivial)) hb ?_
  clear hr
  clear hi hb hE
  simp only [Act.put, Fl.z1, Fl.z2, Fl.z3]
  refine Fl.call (some 34) Try.func16 (by kernel_rfl) rfl #[.agg #[.slice A1_0 l1_0.length c1_0]] rfl rfl rfl (by rfl) rfl (fun E W hE hi => ?_)
  refine (laws_toRope.calls k _ _ l1_0 x10 W (Kd.C_below HR1_0.out hi.bel) HC1_0.out HA11.out).mono ?_
  rintro e W' ⟨v, rfl, hr, hb⟩
  obtain ⟨Aq12, cq12, rfl⟩ := Kd.R_slice hr
  refine Fl.addR hi (Kd.R_mono hr (fun _ _ => trivial)) hb ?_
  clear hr
  clear hi hb hE
  simp only [Act.put, Fl.z1, Fl.z2, Fl.z3]
  refine Fl.call (some 36) Try.func16 (by kernel_rfl) rfl #[.agg #[.slice A2_0 l2_0.length c2_0]] rfl rfl rfl (by rfl) rfl (fun E W hE hi => ?_)
  refine (laws_toRope.calls k _ _ l2_0 x13 W (Kd.C_below HR2_0.out hi.bel) HC2_0.out HA14.out).mono ?_
  rintro e W' ⟨v, rfl, hr, hb⟩
  obtain ⟨Aq15, cq15, rfl⟩ := Kd.R_slice hr
  refine Fl.addR hi (Kd.R_mono hr (fun _ _ => trivial)) hb ?_
  clear hr
  clear hi hb hE
  simp only [Act.put, Fl.z1, Fl.z2, Fl.z3]
  refine Fl.call (some 37) Try.func29 (by kernel_rfl) rfl #[.agg #[.slice Aq9 x7.length cq9], .agg #[.slice Aq12 x10.length cq12], .agg #[.slice Aq15 x13.length cq15]] rfl rfl rfl (by rfl) rfl (fun E W hE hi => ?_)
  refine (spec_SharedPlaces.calls k _ _ x7 _ _ x10 _ _ x13 x25 x26 W (hi.cS 2 rfl) (hi.lS 2 rfl) (hi.cR 1 rfl) (hi.lR 1 rfl) (hi.cR 0 rfl) (hi.lR 0 rfl) HA18.out).mono ?_
  rintro e W' ⟨rfl, hb⟩
  refine Fl.keep hi hb ?_
  clear hi hb hE
  simp only [Act.put, Fl.z1, Fl.z2, Fl.z3]
  refine Fl.take (some 30) (v := .tuple #[.int .i64 x25, .bool x26]) rfl rfl (Or.inl ⟨by rfl, fun _ _ => by rfl⟩) ?_
  simp only [Act.put, Fl.z1, Fl.z2, Fl.z3]
  refine Fl.take (some 38) (v := .int .i64 x25) rfl rfl (Or.inl ⟨by rfl, fun _ _ => by rfl⟩) ?_
  simp only [Act.put, Fl.z1, Fl.z2, Fl.z3]
  refine Fl.take (some 39) (v := .bool x26) rfl rfl (Or.inl ⟨by rfl, fun _ _ => by rfl⟩) ?_
  simp only [Act.put, Fl.z1, Fl.z2, Fl.z3]
  refine Fl.take (some 8) (v := .int .i64 x25) rfl rfl (Or.inl ⟨by rfl, fun _ _ => by rfl⟩) ?_
  simp only [Act.put, Fl.z1, Fl.z2, Fl.z3]
  refine Fl.take (some 9) (v := .bool x26) rfl rfl (Or.inl ⟨by rfl, fun _ _ => by rfl⟩) ?_
  simp only [Act.put, Fl.z1, Fl.z2, Fl.z3]
  refine Fl.fin0 ?_
  refine Fl.stopN (fun W hi => ?_)
  replace HI := Lib.hid hi
  clear hi
  try clear hn_
  go_upto_region 12 with (fail)
  refine Fl.startL [.take 0, .one 1, .one 2, .one 3] (by decide) HI.out ?_
  refine Fl.take (some 40) (v := .agg #[.slice A0_0 l0_0.length c0_0]) rfl rfl (Fl.ld 5 rfl (by rfl) _ _ rfl rfl Try.underlying24 rfl (by kernel_rfl)) ?_
  simp only [Act.put, Fl.z1, Fl.z2, Fl.z3]
  refine Fl.call (some 41) Try.func15 (by kernel_rfl) rfl #[.agg #[.slice A0_0 l0_0.length c0_0]] rfl rfl rfl (by rfl) rfl (fun E W hE hi => ?_)
  refine (laws_toMemory.calls k _ _ l0_0 x7 W (Kd.C_below HR0_0.out hi.bel) HC0_0.out HA8.out).mono ?_
  rintro e W' ⟨v, rfl, hr, hb⟩
  obtain ⟨Aq19, cq19, rfl⟩ := Kd.S_slice hr
  refine Fl.addS hi (Kd.S_mono hr (fun _ _ => trivial)) hb ?_
  clear hr
  clear hi hb hE
  simp only [Act.put, Fl.z1, Fl.z2, Fl.z3]
  refine Fl.var (N := 10) (cs := #[.slice none 0 0]) (t := 35) ⟨_, rfl, rfl, fun _ => rfl, fun e w => by go_simp⟩ (fun b20 => ?_)
  simp only [Act.put, Fl.z1, Fl.z2, Fl.z3]
  refine Fl.store 0 #[.slice Aq19 x7.length cq19] rfl rfl rfl rfl _ _ _ rfl rfl rfl (by rfl) rfl (by kernel_rfl) (by simp [Value.oneCell']) ?_
  refine Fl.stop (fun W hi => ?_)
  replace HI := Lib.hid hi
  clear hi
  try clear hn_
  go_upto_region 13 with (fail)
  refine Fl.startL [.take 0, .one 1, .one 2, .one 3] (by decide) HI.out ?_
  refine Fl.take (some 42) (v := .agg #[.slice A1_0 l1_0.length c1_0]) rfl rfl (Fl.ld 6 rfl (by rfl) _ _ rfl rfl Try.underlying27 rfl (by kernel_rfl)) ?_
  simp only [Act.put, Fl.z1, Fl.z2, Fl.z3]
  refine Fl.call (some 43) Try.func16 (by kernel_rfl) rfl #[.agg #[.slice A1_0 l1_0.length c1_0]] rfl rfl rfl (by rfl) rfl (fun E W hE hi => ?_)
  refine (laws_toRope.calls k _ _ l1_0 x10 W (Kd.C_below HR1_0.out hi.bel) HC1_0.out HA11.out).mono ?_
  rintro e W' ⟨v, rfl, hr, hb⟩
  obtain ⟨Aq21, cq21, rfl⟩ := Kd.R_slice hr
  refine Fl.addR hi (Kd.R_mono hr (fun _ _ => trivial)) hb ?_
  clear hr
  clear hi hb hE
  simp only [Act.put, Fl.z1, Fl.z2, Fl.z3]
  refine Fl.var (N := 11) (cs := #[.slice none 0 0]) (t := 32) ⟨_, rfl, rfl, fun _ => rfl, fun e w => by go_simp⟩ (fun b22 => ?_)
  simp only [Act.put, Fl.z1, Fl.z2, Fl.z3]
  refine Fl.store 0 #[.slice Aq21 x10.length cq21] rfl rfl rfl rfl _ _ _ rfl rfl rfl (by rfl) rfl (by kernel_rfl) (by simp [Value.oneCell']) ?_
  refine Fl.stop (fun W hi => ?_)
  replace HI := Lib.hid hi
  clear hi
  try clear hn_
  go_upto_region 14 with (fail)
  refine Fl.startL [.take 0, .one 1, .one 2, .one 3] (by decide) HI.out ?_
  refine Fl.take (some 44) (v := .agg #[.slice A2_0 l2_0.length c2_0]) rfl rfl (Fl.ld 7 rfl (by rfl) _ _ rfl rfl Try.underlying27 rfl (by kernel_rfl)) ?_
  simp only [Act.put, Fl.z1, Fl.z2, Fl.z3]
  refine Fl.call (some 45) Try.func16 (by kernel_rfl) rfl #[.agg #[.slice A2_0 l2_0.length c2_0]] rfl rfl rfl (by rfl) rfl (fun E W hE hi => ?_)
  refine (laws_toRope.calls k _ _ l2_0 x13 W (Kd.C_below HR2_0.out hi.bel) HC2_0.out HA14.out).mono ?_
  rintro e W' ⟨v, rfl, hr, hb⟩
  obtain ⟨Aq23, cq23, rfl⟩ := Kd.R_slice hr
  refine Fl.addR hi (Kd.R_mono hr (fun _ _ => trivial)) hb ?_
  clear hr
  clear hi hb hE
  simp only [Act.put, Fl.z1, Fl.z2, Fl.z3]
  refine Fl.var (N := 12) (cs := #[.slice none 0 0]) (t := 32) ⟨_, rfl, rfl, fun _ => rfl, fun e w => by go_simp⟩ (fun b24 => ?_)
  simp only [Act.put, Fl.z1, Fl.z2, Fl.z3]
  refine Fl.store 0 #[.slice Aq23 x13.length cq23] rfl rfl rfl rfl _ _ _ rfl rfl rfl (by rfl) rfl (by kernel_rfl) (by simp [Value.oneCell']) ?_
  refine Fl.stop (fun W hi => ?_)
  replace HI := Lib.hid hi
  clear hi
  try clear hn_
  go_upto_region 15 with (fail)
  refine Fl.startL [.take 0, .take 1, .take 2, .one 3, .take 4, .take 5, .take 6, .take 7, .take 8] (by decide) HI.out ?_
  refine Fl.take (some 47) (v := .agg #[.slice Aq19 x7.length cq19]) rfl rfl (Fl.ld 4 rfl (by rfl) _ _ rfl rfl Try.underlying35 rfl (by kernel_rfl)) ?_
  simp only [Act.put, Fl.z1, Fl.z2, Fl.z3]
  refine Fl.take (some 48) (v := .agg #[.slice Aq21 x10.length cq21]) rfl rfl (Fl.ld 2 rfl (by rfl) _ _ rfl rfl Try.underlying32 rfl (by kernel_rfl)) ?_
  simp only [Act.put, Fl.z1, Fl.z2, Fl.z3]
  refine Fl.take (some 49) (v := .agg #[.slice Aq23 x13.length cq23]) rfl rfl (Fl.ld 0 rfl (by rfl) _ _ rfl rfl Try.underlying32 rfl (by kernel_rfl)) ?_
  simp only [Act.put, Fl.z1, Fl.z2, Fl.z3]
  refine Fl.call (some 50) Try.func30 (by kernel_rfl) rfl #[.agg #[.slice Aq19 x7.length cq19], .agg #[.slice Aq21 x10.length cq21], .agg #[.slice Aq23 x13.length cq23]] rfl rfl rfl (by rfl) rfl (fun E W hE hi => ?_)
  refine (impl_SharedPlaces.calls k _ _ x7 _ _ x10 _ _ x13 x25 x26 W ((hE _ (Fl.inv_drop hi)).cS 5 rfl) ((hE _ (Fl.inv_drop hi)).lS 5 rfl) ((hE _ (Fl.inv_drop hi)).cR 3 rfl) ((hE _ (Fl.inv_drop hi)).lR 3 rfl) ((hE _ (Fl.inv_drop hi)).cR 1 rfl) ((hE _ (Fl.inv_drop hi)).lR 1 rfl) HA27.out).mono ?_
  rintro e W' ⟨rfl, hb⟩
  refine Fl.keep hi hb ?_
  clear hi hb hE
  simp only [Act.put, Fl.z1, Fl.z2, Fl.z3]
  refine Fl.take (some 46) (v := .tuple #[.int .i64 x25, .bool x26]) rfl rfl (Or.inl ⟨by rfl, fun _ _ => by rfl⟩) ?_
  simp only [Act.put, Fl.z1, Fl.z2, Fl.z3]
  refine Fl.take (some 51) (v := .int .i64 x25) rfl rfl (Or.inl ⟨by rfl, fun _ _ => by rfl⟩) ?_
  simp only [Act.put, Fl.z1, Fl.z2, Fl.z3]
  refine Fl.take (some 52) (v := .bool x26) rfl rfl (Or.inl ⟨by rfl, fun _ _ => by rfl⟩) ?_
  simp only [Act.put, Fl.z1, Fl.z2, Fl.z3]
  refine Fl.take (some 13) (v := .int .i64 x25) rfl rfl (Or.inl ⟨by rfl, fun _ _ => by rfl⟩) ?_
  simp only [Act.put, Fl.z1, Fl.z2, Fl.z3]
  refine Fl.take (some 14) (v := .bool x26) rfl rfl (Or.inl ⟨by rfl, fun _ _ => by rfl⟩) ?_
  simp only [Act.put, Fl.z1, Fl.z2, Fl.z3]
  refine Fl.stop (fun W hi => ?_)
  replace HI := Lib.hid hi
  clear hi
  try clear hn_
  go_upto_region 16 with (fail)
  refine Fl.startL [.take 0, .take 1, .take 2, .take 3, .take 4, .take 5, .take 6, .take 7] (by decide) HI.out ?_
  refine Fl.take (some 53) (v := .int .i64 x25) rfl rfl (Or.inl ⟨by rfl, fun _ _ => by rfl⟩) ?_
  simp only [Act.put, Fl.z1, Fl.z2, Fl.z3]
  refine Fl.take (some 54) (v := .int .i64 x25) rfl rfl (Or.inl ⟨by rfl, fun _ _ => by rfl⟩) ?_
  simp only [Act.put, Fl.z1, Fl.z2, Fl.z3]
  refine Fl.take (some 55) (v := .bool false) rfl rfl (Or.inl ⟨by rfl, fun _ _ => by go_simp⟩) ?_
  simp only [Act.put, Fl.z1, Fl.z2, Fl.z3]
  refine Fl.take (some 56) (v := .bool false) rfl rfl (Or.inl ⟨by rfl, fun _ _ => by rfl⟩) ?_
  simp only [Act.put, Fl.z1, Fl.z2, Fl.z3]
  refine Fl.take (some 57) (v := .bool x26) rfl rfl (Or.inl ⟨by rfl, fun _ _ => by rfl⟩) ?_
  simp only [Act.put, Fl.z1, Fl.z2, Fl.z3]
  refine Fl.take (some 58) (v := .bool x26) rfl rfl (Or.inl ⟨by rfl, fun _ _ => by rfl⟩) ?_
  simp only [Act.put, Fl.z1, Fl.z2, Fl.z3]
  refine Fl.take (some 59) (v := .bool false) rfl rfl (Or.inl ⟨by rfl, fun _ _ => by go_simp⟩) ?_
  simp only [Act.put, Fl.z1, Fl.z2, Fl.z3]
  refine Fl.take (some 60) (v := .bool false) rfl rfl (Or.inl ⟨by rfl, fun _ _ => by rfl⟩) ?_
  simp only [Act.put, Fl.z1, Fl.z2, Fl.z3]
  refine Fl.stop (fun W hi => ?_)
  replace HI := Lib.hid hi
  clear hi
  try clear hn_
  go_upto_region 18 with (fail)
  refine Fl.start [([],[]),([],[]),([1],[1]),([0,2,2],[0,2]),([3],[3])] [] 6 [.take 0, .take 1, .one 2, .one 3, .take 4] [] (by kernel_rfl) (by kernel_rfl) (by decide) (by decide) (by kernel_rfl) (by kernel_rfl) Fl.mk0 HI.out ?_
  refine Fl.take (some 61) (v := .agg #[.slice Aq19 x7.length cq19]) rfl rfl (Fl.ld 4 rfl (by rfl) _ _ rfl rfl Try.underlying35 rfl (by kernel_rfl)) ?_
  simp only [Act.put, Fl.z1, Fl.z2, Fl.z3]
  refine Fl.take (some 62) (v := .agg #[.slice A0_0 l0_0.length c0_0]) rfl rfl (Fl.ld 11 rfl (by rfl) _ _ rfl rfl Try.underlying24 rfl (by kernel_rfl)) ?_
  simp only [Act.put, Fl.z1, Fl.z2, Fl.z3]
  refine Fl.call (some 63) Try.func15 (by kernel_rfl) rfl #[.agg #[.slice A0_0 l0_0.length c0_0]] rfl rfl rfl (by rfl) rfl (fun E W hE hi => ?_)
  refine (laws_toMemory.calls k _ _ l0_0 x7 W (Kd.C_below HR0_0.out hi.bel) HC0_0.out HA8.out).mono ?_
  rintro e W' ⟨v, rfl, hr, hb⟩
  obtain ⟨Aq28, cq28, rfl⟩ := Kd.S_slice hr
  refine Fl.addS hi (Kd.S_mono hr (fun _ _ => trivial)) hb ?_
  clear hr
  clear hi hb hE
  simp only [Act.put, Fl.z1, Fl.z2, Fl.z3]
  refine Fl.call (some 64) Try.func19 (by kernel_rfl) rfl #[.agg #[.slice Aq19 x7.length cq19], .agg #[.slice Aq28 x7.length cq28]] rfl rfl rfl (by rfl) rfl (fun E W hE hi => ?_)
  refine (laws_eqMemory.calls k _ _ x7 _ _ x7 true W ((hE _ (Fl.inv_drop hi)).cS 5 rfl) ((hE _ (Fl.inv_drop hi)).lS 5 rfl) (hi.cS 0 rfl) (hi.lS 0 rfl) HA30.out).mono ?_
  rintro e W' ⟨rfl, hb⟩
  refine Fl.keep hi hb ?_
  clear hi hb hE
  simp only [Act.put, Fl.z1, Fl.z2, Fl.z3]
  refine Fl.take (some 65) (v := .bool false) rfl rfl (Or.inl ⟨by rfl, fun _ _ => by rfl⟩) ?_
  simp only [Act.put, Fl.z1, Fl.z2, Fl.z3]
  refine Fl.fin0 ?_
  refine Fl.stopN (fun W hi => ?_)
  replace HI := Lib.hid hi
  clear hi
  try clear hn_
  go_upto_region 20 with (fail)
  refine Fl.start [([],[]),([],[]),([1],[1]),([0,2,2],[0,2]),([3],[3])] [] 6 [.take 0, .take 1, .one 2, .one 3, .take 4] [] (by kernel_rfl) (by kernel_rfl) (by decide) (by decide) (by kernel_rfl) (by kernel_rfl) Fl.mk0 HI.out ?_
  refine Fl.take (some 66) (v := .agg #[.slice Aq21 x10.length cq21]) rfl rfl (Fl.ld 3 rfl (by rfl) _ _ rfl rfl Try.underlying32 rfl (by kernel_rfl)) ?_
  simp only [Act.put, Fl.z1, Fl.z2, Fl.z3]
  refine Fl.take (some 67) (v := .agg #[.slice A1_0 l1_0.length c1_0]) rfl rfl (Fl.ld 11 rfl (by rfl) _ _ rfl rfl Try.underlying27 rfl (by kernel_rfl)) ?_
  simp only [Act.put, Fl.z1, Fl.z2, Fl.z3]
  refine Fl.call (some 68) Try.func16 (by kernel_rfl) rfl #[.agg #[.slice A1_0 l1_0.length c1_0]] rfl rfl rfl (by rfl) rfl (fun E W hE hi => ?_)
  refine (laws_toRope.calls k _ _ l1_0 x10 W (Kd.C_below HR1_0.out hi.bel) HC1_0.out HA11.out).mono ?_
  rintro e W' ⟨v, rfl, hr, hb⟩
  obtain ⟨Aq31, cq31, rfl⟩ := Kd.R_slice hr
  refine Fl.addR hi (Kd.R_mono hr (fun _ _ => trivial)) hb ?_
  clear hr
  clear hi hb hE
  simp only [Act.put, Fl.z1, Fl.z2, Fl.z3]
  refine Fl.call (some 69) Try.func18 (by kernel_rfl) rfl #[.agg #[.slice Aq21 x10.length cq21], .agg #[.slice Aq31 x10.length cq31]] rfl rfl rfl (by rfl) rfl (fun E W hE hi => ?_)
  refine (laws_eqRope.calls k _ _ x10 _ _ x10 true W ((hE _ (Fl.inv_drop hi)).cR 4 rfl) ((hE _ (Fl.inv_drop hi)).lR 4 rfl) (hi.cR 0 rfl) (hi.lR 0 rfl) HA33.out).mono ?_
  rintro e W' ⟨rfl, hb⟩
  refine Fl.keep hi hb ?_
  clear hi hb hE
  simp only [Act.put, Fl.z1, Fl.z2, Fl.z3]
  refine Fl.take (some 70) (v := .bool false) rfl rfl (Or.inl ⟨by rfl, fun _ _ => by rfl⟩) ?_
  simp only [Act.put, Fl.z1, Fl.z2, Fl.z3]
  refine Fl.fin0 ?_
  refine Fl.stopN (fun W hi => ?_)
  replace HI := Lib.hid hi
  clear hi
  try clear hn_
  go_upto_region 22 with (fail)
  refine Fl.start [([],[]),([],[]),([1],[1]),([0,2,2],[0,2]),([3],[3])] [] 6 [.take 0, .take 1, .one 2, .one 3, .take 4] [] (by kernel_rfl) (by kernel_rfl) (by decide) (by decide) (by kernel_rfl) (by kernel_rfl) Fl.mk0 HI.out ?_
  refine Fl.take (some 71) (v := .agg #[.slice Aq23 x13.length cq23]) rfl rfl (Fl.ld 2 rfl (by rfl) _ _ rfl rfl Try.underlying32 rfl (by kernel_rfl)) ?_
  simp only [Act.put, Fl.z1, Fl.z2, Fl.z3]
  refine Fl.take (some 72) (v := .agg #[.slice A2_0 l2_0.length c2_0]) rfl rfl (Fl.ld 11 rfl (by rfl) _ _ rfl rfl Try.underlying27 rfl (by kernel_rfl)) ?_
  simp only [Act.put, Fl.z1, Fl.z2, Fl.z3]
  refine Fl.call (some 73) Try.func16 (by kernel_rfl) rfl #[.agg #[.slice A2_0 l2_0.length c2_0]] rfl rfl rfl (by rfl) rfl (fun E W hE hi => ?_)
  refine (laws_toRope.calls k _ _ l2_0 x13 W (Kd.C_below HR2_0.out hi.bel) HC2_0.out HA14.out).mono ?_
  rintro e W' ⟨v, rfl, hr, hb⟩
  obtain ⟨Aq34, cq34, rfl⟩ := Kd.R_slice hr
  refine Fl.addR hi (Kd.R_mono hr (fun _ _ => trivial)) hb ?_
  clear hr
  clear hi hb hE
  simp only [Act.put, Fl.z1, Fl.z2, Fl.z3]
  refine Fl.call (some 74) Try.func18 (by kernel_rfl) rfl #[.agg #[.slice Aq23 x13.length cq23], .agg #[.slice Aq34 x13.length cq34]] rfl rfl rfl (by rfl) rfl (fun E W hE hi => ?_)
  refine (laws_eqRope.calls k _ _ x13 _ _ x13 true W ((hE _ (Fl.inv_drop hi)).cR 3 rfl) ((hE _ (Fl.inv_drop hi)).lR 3 rfl) (hi.cR 0 rfl) (hi.lR 0 rfl) HA36.out).mono ?_
  rintro e W' ⟨rfl, hb⟩
  refine Fl.keep hi hb ?_
  clear hi hb hE
  simp only [Act.put, Fl.z1, Fl.z2, Fl.z3]
  refine Fl.take (some 75) (v := .bool false) rfl rfl (Or.inl ⟨by rfl, fun _ _ => by rfl⟩) ?_
  simp only [Act.put, Fl.z1, Fl.z2, Fl.z3]
  refine Fl.fin0 ?_
  refine Fl.stopN (fun W hi => ?_)
  replace HI := Lib.hid hi
  clear hi
  try clear hn_
  go_wp2
  go_ret
  exact ⟨rfl, HI.out.bel⟩

end Go.Proofs.Ytldkbeccpheckab.PFnExactSharedPlaces
