/- What is proved here: steps of a chain that lay a row, append a row or one number to a row of the call's own, store one cell. No condition beyond those that each theorem states. Written by this session. -/
import Derived.Test.YtkifenbcepicjabGx
import Derived.ArgAppend
namespace Go.Proofs.Ytkifenbcepicjab.Fl
open Go.RowKit Go.Proofs.YtkifenbcepicjabW.PrintWords Go.Proofs.YtkifenbcepicjabW.PrintLast Go.Proofs.Ytkifenbcepicjab.Lv Go.Proofs.Ytkifenbcepicjab.Rg
set_option linter.unusedVariables false
set_option linter.unusedSimpArgs false
section
variable {P : Program} {ops : Array Oper} {Q : Exit → Act → World → Prop} {w0 : World} {Ps : List Fact} {Fin : List Fact → Act → Prop}
/-- A store of one plain cell. -/
theorem storeC {i : Nat} {r : List St} {F F' : List Fact} {a : Act} {o : Oper} (j off : Nat) {g : Nat} {cs : Array Value} {t : TypeId} (u : Value) (hj : F[j]? = some (boxF g cs t)) (hF : F' = F.set j (boxF g (cs.setIfInBounds off u) t)) (ho : ops[i]? = some o) (hd : o.dst = none) (ty : TypeId) (x y : Operand) (hop : o.op = .store ty x y)
    (hx : a.eval x = .pointer (some ⟨g, off, none⟩)) (hy : a.eval y = u) (hw : Region.wanted o (yielded ops a.tmps) = true) (hoff : off < cs.size) (hi : (P.info? ty).map (·.size) = some 1) (hu : u.cells = #[u]) (h1 : u.oneCell' = true) (h : CW P ops Q w0 Ps Fin r F' a) : CW P ops Q w0 Ps Fin (.one i :: r) F a := by
  intro E W hE hinv
  have hlt : j < F.length := (List.getElem?_eq_some_iff.1 hj).1
  have hj2 : (F ++ E)[j]? = some (boxF g cs t) := by rw [List.getElem?_append_left hlt]; exact hj
  have hblk := hinv.blk j hj2
  have hst := run_storeCells_cells (P := P) g off [u] 0 W (fun q hq => by
    obtain rfl : q = 0 := by simp at hq; omega
    show (W.cell? ⟨g, off, none⟩).isSome = true
    rw [blk_cell hblk, Array.getElem?_eq_getElem hoff]; rfl) (fun q hq => blk_frozen hblk _) (fun v hv => by
    obtain rfl : v = u := by simpa using hv
    exact h1)
  rw [Nat.add_zero] at hst
  obtain ⟨ie, hie, hz⟩ := Option.map_eq_some_iff.1 hi
  have hrun : (storeVar ty ⟨g, off, none⟩ u).run P W = .ok () (W.setCells g off [u]) := by
    simp [storeVar, sizeOf, typeInfo, hie, hz, hu, hst]
  unfold wpOp
  simp only [ho, hw, if_true]
  refine .inl ?_
  unfold Oper.wp execOp
  simp only [hop, hx, hy, Instr.storeAt, Instr.sureAddr, Sem.run_bind, Sem.run_pure, Result.andThen_ok, hrun]
  show ∃ N', _
  rw [hd]
  refine ⟨F', ?_, h⟩
  rw [hF, ← List.set_append_left _ _ hlt]
  exact hinv.set j hj2 off u
end
end Go.Proofs.Ytkifenbcepicjab.Fl
namespace Go.Proofs.Ytkifenbcepicjab.Lx
open Go.RowKit Go.Proofs.YtkifenbcepicjabW.PrintWords Go.Proofs.Ytkifenbcepicjab.Lv
set_option linter.unusedVariables false
set_option linter.unusedSimpArgs false
/-- A row of numbers as a block, and back. -/
theorem int_un {w W : World} {Ps : List Fact} {e : Nat} {v : Value} {xs : List Int} (h : Inv w W (rowF (Kd.int .i64) e w.heap.size v xs :: Ps)) : v = .slice none 0 0 ∧ xs = [] ∨ ∃ g cap cs, v = .slice (some ⟨g, 0, none⟩) xs.length cap ∧ xs.length ≤ cap ∧ cap ≤ maxLen ∧ cs.size = cap ∧ (∀ (i : Nat) (x : Int), xs[i]? = some x → cs[i]? = some (Value.int .i64 x)) ∧ Inv w W (boxF g cs e :: Ps) := by
  obtain ⟨S, h1, h2, h3⟩ := h.live
  obtain ⟨hok, inner, ⟨hlen, hown⟩, hreps⟩ := h2.now
  rcases hown with ⟨hv, h0⟩ | ⟨g, cap, cs, rfl, hg, hb, hn, hm, hsz, htake⟩
  · exact .inl ⟨hv, List.eq_nil_of_length_eq_zero h0⟩
  refine .inr ⟨g, cap, cs, rfl, hn, hm, by rw [hsz]; exact Nat.mul_one _, fun i x hx => ?_, ⟨h.bel, S, h1, foot_box (hok g rfl) hb, h3⟩⟩
  have hi := (List.getElem?_eq_some_iff.1 hx).1
  have hk : (Kd.int .i64).M W w.heap.size _ x _ := hreps.2 i x hx
  have hk2 : (inner.drop (i * 1)).take 1 = [Value.int .i64 x] := hk
  have e2 : inner[i]? = some (Value.int .i64 x) := by
    have := congrArg (fun l => l[0]?) hk2
    simp only [List.getElem?_take, List.getElem?_drop, Nat.mul_one, Nat.add_zero] at this
    simpa using this
  rw [← htake, List.getElem?_take, if_pos (show i < xs.length * (Kd.int .i64).sz from (show i < xs.length * 1 by omega)), Array.getElem?_toList] at e2
  exact e2
theorem int_re {w W : World} {Ps : List Fact} {e g n cap : Nat} {cs : Array Value} {xs : List Int} (h : Inv w W (boxF g cs e :: Ps)) (hl : xs.length = n) (hn : n ≤ cap) (hm : cap ≤ maxLen) (hsz : cs.size = cap) (hx : ∀ (i : Nat) (x : Int), xs[i]? = some x → cs[i]? = some (Value.int .i64 x)) : Inv w W (rowF (Kd.int .i64) e w.heap.size (.slice (some ⟨g, 0, none⟩) n cap) xs :: Ps) := by
  subst hl
  obtain ⟨S, h1, h2, h3⟩ := h.live
  obtain ⟨hg, hb⟩ := h2.now
  have e2 : cs.toList.length = cap := by rw [← hsz]; exact Array.length_toList
  have e3 : (cs.toList.take (xs.length * 1)).length = xs.length * 1 := by rw [List.length_take, e2]; omega
  refine ⟨h.bel, S, h1, foot_row ?_, h3⟩
  refine ⟨fun k hk => by obtain rfl : g = k := by simpa [Value.ownBlock] using hk
                         exact hg, cs.toList.take (xs.length * 1), ⟨e3, .inr ⟨g, cap, cs, rfl, (h1 g hg).1, hb, hn, hm, by rw [hsz]; exact (Nat.mul_one _).symm, rfl⟩⟩, e3, fun i x hi => ?_⟩
  have hil := (List.getElem?_eq_some_iff.1 hi).1
  show ((cs.toList.take (xs.length * 1)).drop (i * 1)).take 1 = [Value.int .i64 x]
  apply List.ext_getElem?
  intro j
  rw [List.getElem?_take]
  by_cases hj : j < 1
  · obtain rfl : j = 0 := by omega
    rw [if_pos hj, List.getElem?_drop, List.getElem?_take, if_pos (by omega), Array.getElem?_toList, show i * 1 + 0 = i by omega, hx i x hi]
    rfl
  · rw [if_neg hj, List.getElem?_eq_none (by simp; omega)]
/-- One number is appended: in place, or in a new block, the old row as it was. -/
theorem int_append {P : Program} {w W : World} {Ps : List Fact} {t ty e : TypeId} {v : Value} {xs : List Int} {p : Int} {g1 c1 : Nat} (ht : P.underlying t = some (.slice e)) (hinfo : (P.info? e).map (fun i => (i.zero, i.size, i.bytes)) = some (some (.int .i64 0), 1, 8)) (hi : Inv w W (rowF (Kd.int .i64) e w.heap.size v xs :: Ps)) (hl : xs.length ≤ 1048576)
    (hg1 : W.heap[g1]? = some (.cells #[.int .i64 p] e (0, 0))) : ∃ v1 W1, (Builtin.append_ #[t, t] ty #[v, .slice (some ⟨g1, 0, none⟩) 1 c1]).run P W = .ok v1 W1 ∧ ((∃ A c, v = .slice A xs.length c ∧ v1 = .slice A (xs.length + 1) c ∧ Inv w W1 (rowF (Kd.int .i64) e w.heap.size v1 (xs ++ [p]) :: Ps)) ∨ Inv w W1 (rowF (Kd.int .i64) e w.heap.size v1 (xs ++ [p]) :: rowF (Kd.int .i64) e w.heap.size v xs :: Ps)) := by
  obtain ⟨ie, hie, hz⟩ := Option.map_eq_some_iff.1 hinfo
  have hz1 : ie.zero = some (.int .i64 0) := congrArg Prod.fst hz
  have hz2 : ie.size = 1 := congrArg (fun y => y.2.1) hz
  have hz3 : ie.bytes = 8 := congrArg (fun y => y.2.2) hz
  have hnews : ∀ j u, [Value.int .i64 p][j]? = some u → W.cell? ((⟨g1, 0, none⟩ : Addr).add j) = some u := fun j u hj => by
    rw [Go.Addr.add_mid, Nat.zero_add, blk_cell hg1]
    cases j with
    | zero => simpa using hj
    | succ j => simp at hj
  have hone : ∀ u ∈ [Value.int .i64 p], u.oneCell' = true := fun u hu => by
    obtain rfl : u = .int .i64 p := by simpa using hu
    rfl
  have grows : ∀ (olds : List Value) (hlo : olds.length = xs.length * 1) (v' : Value) (W' : World), (∀ (i : Nat) (x : Int), xs[i]? = some x → olds[i]? = some (Value.int .i64 x)) → W'.ownsRow W.heap.size e 1 v' (xs.length + 1) (olds ++ [.int .i64 p]) → W.grownBy W' none → Inv w W' (rowF (Kd.int .i64) e w.heap.size v' (xs ++ [p]) :: rowF (Kd.int .i64) e w.heap.size v xs :: Ps) := by
    intro olds hlo v' W' hol hown hgr
    refine Inv.row hi (W' := W') (d := Kd.int .i64) (e := e) (v := v') (xs := xs ++ [p]) ⟨fun _ _ => trivial, olds ++ [.int .i64 p], ?_, ?_, fun i x hx => ?_⟩ ⟨hgr.os, hgr.tape, hgr.output, hgr.size, fun k hk => hgr.block k hk (by simp)⟩
    · rw [List.length_append, List.length_singleton]; exact hown
    · rw [List.length_append, List.length_append, hlo, List.length_singleton, List.length_singleton]
      show xs.length * 1 + 1 = (xs.length + 1) * 1
      omega
    · show ((olds ++ [Value.int .i64 p]).drop (i * 1)).take 1 = [Value.int .i64 x]
      rw [Nat.mul_one]
      have hil := (List.getElem?_eq_some_iff.1 hx).1
      rw [List.length_append, List.length_singleton] at hil
      have e1 : (olds ++ [Value.int .i64 p])[i]? = some (.int .i64 x) := by
        by_cases hc : i < xs.length
        · rw [List.getElem?_append_left (by omega)]
          rw [List.getElem?_append_left hc] at hx
          exact hol i x hx
        · obtain rfl : i = xs.length := by omega
          rw [List.getElem?_append_right (by omega), hlo]
          rw [List.getElem?_append_right (by omega), Nat.sub_self] at hx
          rw [Nat.mul_one, Nat.sub_self]
          simp at hx ⊢
          exact hx
      apply List.ext_getElem?
      intro j
      rw [List.getElem?_take]
      by_cases hj : j < 1
      · obtain rfl : j = 0 := by omega
        rw [if_pos hj, List.getElem?_drop, Nat.add_zero, e1]
        rfl
      · rw [if_neg hj, List.getElem?_eq_none (by simp; omega)]
  rcases int_un hi with ⟨rfl, rfl⟩ | ⟨g, cap, cs, rfl, hn, hm, hsz, hx, hI⟩
  · obtain ⟨v', W', hr, hown, hgr, _⟩ := run_append_own (P := P) W W.heap.size t ty e ie (.int .i64 0) 1 8 ht hie hz1 hz2 hz3 rfl (by decide) (.slice none 0 0) 0 [] ⟨rfl, .inl ⟨rfl, rfl⟩⟩ ⟨g1, 0, none⟩ 1 c1 [.int .i64 p] rfl hnews hone (by decide) (by decide) (Nat.le_refl _)
    exact ⟨v', W', hr, .inr (grows [] rfl v' W' (fun i x hx => by simp at hx) hown hgr)⟩
  · have hblk := hI.blk 0 rfl
    by_cases hroom : xs.length + 1 ≤ cap
    · have hr := run_append_room_cells (P := P) W t ty e ie ht hie g 0 xs.length cap ⟨g1, 0, none⟩ 1 c1 [.int .i64 p] (by rw [hz2]; rfl) hnews hone hroom (fun j hj => by
        obtain rfl : j = 0 := by simp at hj; omega
        rw [hz2, blk_cell hblk, Array.getElem?_eq_getElem (by omega)]; rfl) (fun j hj => blk_frozen hblk _)
      refine ⟨_, _, hr, .inl ⟨_, _, rfl, rfl, ?_⟩⟩
      have hI2 := hI.set 0 rfl (0 + xs.length * ie.size) (.int .i64 p)
      refine int_re hI2 (by rw [List.length_append]; rfl) hroom hm (by rw [Array.size_setIfInBounds]; exact hsz) (fun i x hi2 => ?_)
      rw [hz2, Nat.zero_add, Nat.mul_one, Array.getElem?_setIfInBounds]
      have hil := (List.getElem?_eq_some_iff.1 hi2).1
      rw [List.length_append, List.length_singleton] at hil
      by_cases hc : i < xs.length
      · rw [if_neg (by omega)]
        rw [List.getElem?_append_left hc] at hi2
        exact hx i x hi2
      · obtain rfl : i = xs.length := by omega
        rw [if_pos rfl, if_pos (by omega)]
        rw [List.getElem?_append_right (by omega), Nat.sub_self] at hi2
        simp at hi2
        rw [hi2]
    · obtain ⟨v', W', hr, hown, hgr⟩ := run_append_arg_grows (P := P) W t ty e ie (.int .i64 0) 1 8 ht hie hz1 hz2 hz3 rfl (by decide) ⟨g, 0, none⟩ xs.length cap (cs.toList.take (xs.length * 1)) (by rw [List.length_take, show cs.toList.length = cap by rw [← hsz]; exact Array.length_toList]; omega) (fun j u hj => by
        rw [List.getElem?_take] at hj
        split at hj
        · rw [Go.Addr.add_mid, Nat.zero_add, blk_cell hblk]
          simpa using hj
        · cases hj) ⟨g1, 0, none⟩ 1 c1 [.int .i64 p] rfl hnews (by omega) (by simp only [maxLen]; omega) (by omega)
      refine ⟨v', W', hr, .inr (grows _ (by rw [List.length_take, show cs.toList.length = cap by rw [← hsz]; exact Array.length_toList]; omega) v' W' (fun i x hi2 => ?_) hown hgr)⟩
      have hil := (List.getElem?_eq_some_iff.1 hi2).1
      rw [List.getElem?_take, if_pos (by omega), Array.getElem?_toList]
      exact hx i x hi2
end Go.Proofs.Ytkifenbcepicjab.Lx
namespace Go.Proofs.Ytkifenbcepicjab.Lv
open Go.RowKit Go.Proofs.YtkifenbcepicjabW.PrintWords
set_option linter.unusedVariables false
set_option linter.unusedSimpArgs false
theorem front_perm {α : Type} : ∀ (l : List α) (i : Nat) {x : α}, l[i]? = some x → l.Perm (x :: l.eraseIdx i)
  | [], i, x, h => by simp at h
  | y :: l, 0, x, h => by
    obtain rfl : y = x := by simpa using h
    exact List.Perm.refl _
  | y :: l, i + 1, x, h => by
    have := front_perm l i (x := x) (by simpa using h)
    exact (this.cons y).trans (List.Perm.swap _ _ _)
/-- A fact is told first. -/
theorem Inv.front {w W : World} {Ps : List Fact} (h : Inv w W Ps) (i : Nat) {P : Fact} (hi : Ps[i]? = some P) : Inv w W (P :: Ps.eraseIdx i) := Fl.inv_perm h (front_perm Ps i hi)
/-- A fact is not told any more. -/
theorem Inv.omit {w W : World} {Ps : List Fact} (h : Inv w W Ps) (i : Nat) {P : Fact} (hi : Ps[i]? = some P) : Inv w W (Ps.eraseIdx i) := (h.front i hi).tail
end Go.Proofs.Ytkifenbcepicjab.Lv
namespace Go.Proofs.Ytkifenbcepicjab.Fl
open Go.RowKit Go.Proofs.YtkifenbcepicjabW.PrintWords Go.Proofs.YtkifenbcepicjabW.PrintLast Go.Proofs.Ytkifenbcepicjab.Lv Go.Proofs.Ytkifenbcepicjab.Rg
set_option linter.unusedVariables false
set_option linter.unusedSimpArgs false
section
variable {P : Program} {ops : Array Oper} {Q : Exit → Act → World → Prop} {w0 : World} {Ps : List Fact} {Fin : List Fact → Act → Prop}
/-- One number, laid in a block of its own, is appended to a row of the call's own. -/
theorem app1 {i : Nat} {r : List St} {F : List Fact} {a : Act} {o : Oper} {N : Tmp} {s x : Operand} {e t : Nat} {v : Value} {xs : List Int} {p : Int} {g1 c1 : Nat} (h1 : ops[i]? = some o) (hd : o.dst = some N) (hw : Region.wanted o (yielded ops a.tmps) = true) (ho2 : o.op = .call { callee := .builtin .append, args := #[s, x], argTypes := #[t, t] })
    (ht : P.underlying t = some (.slice e)) (hinfo : (P.info? e).map (fun i => (i.zero, i.size, i.bytes)) = some (some (.int .i64 0), 1, 8)) (hs : a.eval s = v) (hx : a.eval x = .slice (some ⟨g1, 0, none⟩) 1 c1) (hl : xs.length ≤ 1048576)
    (hA : ∀ A c, v = .slice A xs.length c → CW P ops Q w0 Ps Fin r (rowF (Kd.int .i64) e w0.heap.size (.slice A (xs.length + 1) c) (xs ++ [p]) :: boxF g1 #[.int .i64 p] e :: F) (a.put (some N) (.slice A (xs.length + 1) c)))
    (hB : ∀ A c, CW P ops Q w0 Ps Fin r (rowF (Kd.int .i64) e w0.heap.size (.slice A (xs.length + 1) c) (xs ++ [p]) :: rowF (Kd.int .i64) e w0.heap.size v xs :: boxF g1 #[.int .i64 p] e :: F) (a.put (some N) (.slice A (xs.length + 1) c))) :
    CW P ops Q w0 Ps Fin (.one i :: r) (boxF g1 #[.int .i64 p] e :: rowF (Kd.int .i64) e w0.heap.size v xs :: F) a := by
  intro E W hE hi
  have hi2 : Inv w0 W (rowF (Kd.int .i64) e w0.heap.size v xs :: boxF g1 #[.int .i64 p] e :: (F ++ E)) := inv_perm hi (List.Perm.swap _ _ _)
  obtain ⟨v1, W1, hr, hh⟩ := Lx.int_append (P := P) (ty := o.type) (c1 := c1) ht hinfo hi2 hl (hi.blk 0 rfl)
  unfold wpOp
  simp only [h1, hw, if_true]
  refine .inl ?_
  unfold Oper.wp execOp
  simp only [ho2, resolve, invoke, builtin, Sem.run_bind, Sem.run_pure, Result.andThen_ok, List.map_toArray, List.map_cons, List.map_nil, hs, hx, hr]
  show ∃ N', _
  rw [hd]
  rcases hh with ⟨A, c, hv, rfl, hI⟩ | hI
  · exact ⟨_, hI, hA A c hv⟩
  · obtain ⟨A, c, hv1⟩ := hI.slice 0 rfl
    rw [List.length_append, List.length_singleton] at hv1
    subst hv1
    exact ⟨_, hI, hB A c⟩
end
end Go.Proofs.Ytkifenbcepicjab.Fl
namespace Go.Proofs.Ytkifenbcepicjab.Lv
open Go.RowKit Go.Proofs.YtkifenbcepicjabW.PrintWords
set_option linter.unusedVariables false
set_option linter.unusedSimpArgs false
/-- A row that is only read. -/
def vF {α : Type} (d : Kd α) (e b : Nat) (v : Value) (xs : List α) : Fact := fun S W => Kd.V d e W b S v xs
theorem foot_v {α : Type} {d : Kd α} {e b : Nat} {W : World} {S : Nat → Prop} {v : Value} {xs : List α} (h : Kd.V d e W b S v xs) : Foot (vF d e b v xs S) W S := fun _ hW => Kd.V_step h hW
theorem Inv.v {α : Type} {d : Kd α} {e b b2 : Nat} {v : Value} {xs : List α} {w W W' : World} {Ps : List Fact} (h : Inv w W Ps) (hr : Kd.V d e W' b (fun k => W.heap.size ≤ k) v xs) (hb : Below W.heap.size W W') : Inv w W' (vF d e b2 v xs :: Ps) :=
  h.push hb (foot_v (Kd.V_mono (Kd.V_bound hr) (fun _ hk => hk)))
end Go.Proofs.Ytkifenbcepicjab.Lv
namespace Go.Proofs.Ytkifenbcepicjab.Fl
open Go.RowKit Go.Proofs.YtkifenbcepicjabW.PrintWords Go.Proofs.YtkifenbcepicjabW.PrintLast Go.Proofs.Ytkifenbcepicjab.Lv Go.Proofs.Ytkifenbcepicjab.Rg
set_option linter.unusedVariables false
set_option linter.unusedSimpArgs false
end Go.Proofs.Ytkifenbcepicjab.Fl
