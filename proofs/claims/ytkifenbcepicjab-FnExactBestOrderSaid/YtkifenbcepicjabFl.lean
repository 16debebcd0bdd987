/- What is proved here: a region that draws its order, in which new variables may be made at any time between calls that follow one another, is walked once. No condition beyond those that each theorem states. Written by this session. -/
import Derived.Test.YtkifenbcepicjabLv
import Derived.Test.YtkifenbcepicjabRg
import Derived.OrdersHeld
import Derived.Test.YtkifenbcepicjabWTab
namespace Go.Proofs.Ytkifenbcepicjab.Fl
open Go.RowKit Go.Proofs.YtkifenbcepicjabW.PrintWords Go.Proofs.YtkifenbcepicjabW.PrintLast Go.Proofs.Ytkifenbcepicjab.Lv Go.Proofs.Ytkifenbcepicjab.Rg
set_option linter.unusedVariables false
set_option linter.unusedSimpArgs false
theorem z1 {α : Type} {xs : List α} {i : Nat} {a : α} : xs.toArray.setIfInBounds i a = (xs.set i a).toArray := List.setIfInBounds_toArray ..
theorem z2 {α : Type} {x a : α} {xs : List α} : (x :: xs).set 0 a = a :: xs := List.set_cons_zero ..
theorem z3 {α : Type} {x a : α} {xs : List α} {n : Nat} : (x :: xs).set (n + 1) a = x :: xs.set n a := List.set_cons_succ ..
/-- A new variable: its operation, its temporary, what lies in its block at first. -/
structure Var where
  i : Nat
  N : Tmp
  cs : Array Value
  t : TypeId
def putD : List Var → List (Option Nat) → Act → Act
  | f :: fs, some g :: gs, a => (putD fs gs a).put (some f.N) (.pointer (some ⟨g, 0, none⟩))
  | _ :: fs, none :: gs, a => putD fs gs a
  | _, _, a => a
def boxes : List Var → List (Option Nat) → List Fact
  | f :: fs, some g :: gs => boxF g f.cs f.t :: boxes fs gs
  | _ :: fs, none :: gs => boxes fs gs
  | _, _ => []
def left : List Var → List (Option Nat) → List Nat
  | _ :: fs, some _ :: gs => left fs gs
  | f :: fs, none :: gs => f.i :: left fs gs
  | _, _ => []
def upd : List Var → List (Option Nat) → Nat → Nat → List (Option Nat)
  | f :: fs, none :: gs, j, g => if f.i = j then some g :: gs else none :: upd fs gs j g
  | _ :: fs, some x :: gs, j, g => some x :: upd fs gs j g
  | _, gs, _, _ => gs
theorem upd_length : ∀ (fs : List Var) (gs : List (Option Nat)) (j g : Nat), (upd fs gs j g).length = gs.length
  | [], _, _, _ => rfl
  | _ :: _, [], _, _ => rfl
  | f :: fs, none :: gs, j, g => by
    simp only [upd]
    split
    · rfl
    · simp [upd_length fs gs j g]
  | _ :: fs, some x :: gs, j, g => by simp [upd, upd_length fs gs j g]
theorem left_upd : ∀ (fs : List Var) (gs : List (Option Nat)) (j g : Nat), left fs (upd fs gs j g) = (left fs gs).erase j
  | [], _, _, _ => by simp [left]
  | _ :: _, [], _, _ => by simp [upd, left]
  | f :: fs, none :: gs, j, g => by
    simp only [upd]
    split
    · rename_i h; simp [left, h]
    · rename_i h; simp [left, left_upd fs gs j g, List.erase_cons, h]
  | _ :: fs, some x :: gs, j, g => by simp [upd, left, left_upd fs gs j g]
theorem boxes_mem : ∀ (fs : List Var) (gs : List (Option Nat)) (j g : Nat) (a : Act), (fs.map (·.N)).Nodup → j ∈ left fs gs → ∃ f ∈ fs, f.i = j ∧ putD fs (upd fs gs j g) a = (putD fs gs a).put (some f.N) (.pointer (some ⟨g, 0, none⟩)) ∧ (boxF g f.cs f.t :: boxes fs gs).Perm (boxes fs (upd fs gs j g))
  | [], _, _, _, _, _, hj => by simp [left] at hj
  | _ :: _, [], _, _, _, _, hj => by simp [left] at hj
  | f :: fs, none :: gs, j, g, a, hn, hj => by
    simp only [upd]
    split
    · rename_i h; exact ⟨f, List.mem_cons_self, h, rfl, List.Perm.refl _⟩
    · rename_i h
      have hj2 : j ∈ left fs gs := by
        rcases List.mem_cons.1 (show j ∈ f.i :: left fs gs from hj) with h1 | h1
        · exact absurd h1.symm h
        · exact h1
      obtain ⟨f2, h1, h2, h3, h4⟩ := boxes_mem fs gs j g a (List.nodup_cons.1 hn).2 hj2
      exact ⟨f2, List.mem_cons_of_mem _ h1, h2, h3, h4⟩
  | f :: fs, some x :: gs, j, g, a, hn, hj => by
    obtain ⟨f2, h1, h2, h3, h4⟩ := boxes_mem fs gs j g a (List.nodup_cons.1 hn).2 hj
    refine ⟨f2, List.mem_cons_of_mem _ h1, h2, ?_, (List.Perm.swap _ _ _).trans (h4.cons _)⟩
    simp only [upd, putD, h3]
    refine Act.put_comm _ _ _ (fun d hd => ?_)
    have hne : f.N ≠ f2.N := fun e => (List.nodup_cons.1 hn).1 (List.mem_map.2 ⟨f2, h1, e.symm⟩)
    injection hd with hd
    subst hd
    intro e
    injection e with e
    exact hne e
/-- Live facts in whatever order. -/
theorem live_perm {W : World} {Ps Qs : List Fact} (h : Ps.Perm Qs) : ∀ {U : Nat → Prop}, Live W Ps U → Live W Qs U := by
  induction h with
  | nil => intro U h; exact h
  | cons P _ ih => intro U ⟨S, h1, h2, h3⟩; exact ⟨S, h1, h2, ih h3⟩
  | swap P Q l =>
    intro U ⟨S, h1, h2, S', h4, h5, h6⟩
    exact ⟨S', fun k hk => (h4 k hk).1, h5, S, fun k hk => ⟨h1 k hk, fun hk2 => (h4 k hk2).2 hk⟩, h2, h6.mono (fun k hk => ⟨⟨hk.1.1, hk.2⟩, hk.1.2⟩)⟩
  | trans _ _ ih1 ih2 => intro U h; exact ih2 (ih1 h)
theorem inv_perm {w W : World} {Ps Qs : List Fact} (h : Inv w W Ps) (hp : Ps.Perm Qs) : Inv w W Qs := ⟨h.bel, live_perm hp h.live⟩
theorem inv_drop {w W : World} {Ps : List Fact} : ∀ {N : List Fact}, Inv w W (N ++ Ps) → Inv w W Ps
  | [], h => h
  | _ :: _, h => inv_drop h.tail
section
variable {P : Program} {ops : Array Oper} {Q : Exit → Act → World → Prop}
theorem wpOp_put_rev {j : Nat} {oj : Oper} {d : Option Tmp} {v : Value} (hj : ops[j]? = some oj) (h1 : ∀ x, d = some x → x ∉ oj.looksAt ops) (h2 : ∀ x, d = some x → oj.dst ≠ some x)
    (hsj : ∀ cs b, oj.op ≠ .select cs b) (hQ : ∀ c a w, Q (.panic c) a w → Q (.panic c) (a.put d v) w) {K : Act → World → Prop} {a : Act} {w : World}
    (h : wpOp P ops Q j (fun a' w' => K (a'.put d v) w') a w) : wpOp P ops Q j K (a.put d v) w := by
  unfold wpOp at *
  simp only [hj] at *
  rw [wanted_put oj a d v h1]
  split
  · rename_i hw
    simp only [hw, if_true] at h
    rcases h with h | ⟨hasks, hlets⟩
    case inr => exact .inr ⟨by unfold Oper.asks at *; rw [execOp_put oj hsj a d v h1]; exact hasks, hlets⟩
    refine .inl ?_
    unfold Oper.wp at *
    rw [execOp_put oj hsj a d v h1]
    generalize (execOp a.eval oj).run P w = r at *
    cases r with
    | ok n w' =>
      cases n <;> simp only [Oper.upon] at h ⊢
      case value u => rw [Act.put_comm a v u h2]; exact h
      case skip => rw [Act.put_comm a v undef h2]; exact h
      case defer q =>
        have h3 := Act.put_comm { a with defers := q :: a.defers } v undef h2
        have h4 : ({ (a.put d v) with defers := q :: (a.put d v).defers } : Act) = ({ a with defers := q :: a.defers } : Act).put d v := by cases d <;> rfl
        rw [h4, h3]
        exact h
      case enter f args =>
        refine Calls.mono h fun e w'' he => ?_
        cases e with
        | returned u => (show K ((a.put d v).put oj.dst u) w''); rw [Act.put_comm a v u h2]; exact he
        | panicked c => exact hQ _ _ _ he
        | outgrown => exact he
      case row row args => exact Rows.mono h fun u w'' he => by rw [Act.put_comm a v u h2]; exact he
    | halt x w' =>
      cases x <;> simp only [Oper.upon] at h ⊢
      case panic u => exact hQ _ _ _ h
  · rename_i hw
    simp only [hw] at h
    rw [Act.put_comm a v undef h2]
    exact h
/-- Which is apart from the variables' operations? -/
def apartB (ops : Array Oper) (fs : List Var) (chain : List St) : Bool :=
  fs.all fun f => match ops[f.i]? with
    | none => false
    | some o => (o.dst == some f.N) && chain.all fun s => match ops[idx s]? with
      | none => false
      | some oj => o.apart ops oj
theorem apart_of {fs : List Var} {chain : List St} (h : apartB ops fs chain = true) {f : Var} (hf : f ∈ fs) {s : St} (hs : s ∈ chain) {oj : Oper} (hj : ops[idx s]? = some oj) :
    f.N ∉ oj.looksAt ops ∧ oj.dst ≠ some f.N := by
  have h1 := List.all_eq_true.1 h f hf
  cases ho : ops[f.i]? with
  | none => rw [ho] at h1; exact absurd h1 (by simp)
  | some o =>
    rw [ho] at h1
    simp only [Bool.and_eq_true, beq_iff_eq] at h1
    have h2 := List.all_eq_true.1 h1.2 s hs
    rw [hj] at h2
    obtain ⟨h3, h4, _⟩ := Oper.apart_spec h2
    exact ⟨h3 _ h1.1, h4 _ h1.1⟩
theorem wpOp_putD {j : Nat} {oj : Oper} (hj : ops[j]? = some oj) (hsj : ∀ cs b, oj.op ≠ .select cs b) (hQ : ∀ (c : _) (a : Act) (d : Option Tmp) (v : Value) (w : World), Q (.panic c) a w → Q (.panic c) (a.put d v) w) {a : Act} {w : World} :
    ∀ (fs : List Var) (gs : List (Option Nat)) {K : Act → World → Prop}, (∀ f ∈ fs, f.N ∉ oj.looksAt ops ∧ oj.dst ≠ some f.N) → wpOp P ops Q j (fun a' w' => K (putD fs gs a') w') a w → wpOp P ops Q j K (putD fs gs a) w
  | [], _, _, _, h => h
  | _ :: _, [], _, _, h => h
  | f :: fs, none :: gs, _, ha, h => wpOp_putD hj hsj hQ fs gs (fun f2 h2 => ha f2 (List.mem_cons_of_mem _ h2)) h
  | f :: fs, some g :: gs, _, ha, h => by
    have hf := ha f List.mem_cons_self
    refine wpOp_put_rev hj (fun x hx => by injection hx with hx; subst hx; exact hf.1) (fun x hx => by injection hx with hx; subst hx; exact hf.2) hsj (fun c a w hq => hQ c a _ _ w hq) ?_
    exact wpOp_putD hj hsj hQ fs gs (fun f2 h2 => ha f2 (List.mem_cons_of_mem _ h2)) h
theorem yields_putD {S : World → Prop} {o : Oper} {v : Value} (hs : ∀ cs b, o.op ≠ .select cs b) {a : Act} : ∀ (fs : List Var) (gs : List (Option Nat)), (∀ f ∈ fs, f.N ∉ o.looksAt ops ∧ o.dst ≠ some f.N) → YieldsIf P ops S o v a → YieldsIf P ops S o v (putD fs gs a)
  | [], _, _, h => h
  | _ :: _, [], _, h => h
  | f :: fs, none :: gs, ha, h => yields_putD hs fs gs (fun f2 h2 => ha f2 (List.mem_cons_of_mem _ h2)) h
  | f :: fs, some g :: gs, ha, h => by
    have hf := ha f List.mem_cons_self
    have hn : ∀ d, some f.N = some d → d ∉ o.looksAt ops := fun x hx => by injection hx with hx; subst hx; exact hf.1
    exact (yields_putD hs fs gs (fun f2 h2 => ha f2 (List.mem_cons_of_mem _ h2)) h).of_same (execOp_put o hs _ _ _ hn) (wanted_put o _ _ _ hn)
theorem putD_put {d : Option Tmp} {v : Value} {a : Act} : ∀ (fs : List Var) (gs : List (Option Nat)), (∀ f ∈ fs, d ≠ some f.N) → (putD fs gs a).put d v = putD fs gs (a.put d v)
  | [], _, _ => rfl
  | _ :: _, [], _ => rfl
  | f :: fs, none :: gs, ha => putD_put fs gs (fun f2 h2 => ha f2 (List.mem_cons_of_mem _ h2))
  | f :: fs, some g :: gs, ha => by
    simp only [putD]
    rw [Act.put_comm _ _ _ (fun x hx => by injection hx with hx; subst hx; exact ha f List.mem_cons_self), putD_put fs gs (fun f2 h2 => ha f2 (List.mem_cons_of_mem _ h2))]
/-- The steps in their order, the variables' operations at any time. -/
def CW (P : Program) (ops : Array Oper) (Q : Exit → Act → World → Prop) (w0 : World) (Ps : List Fact) (Fin : List Fact → Act → Prop) : List St → List Fact → Act → Prop
  | [], N, a => Fin N a
  | .take i :: r, N, a => ∃ o v, ops[i]? = some o ∧ YieldsIf P ops (fun W => Inv w0 W Ps) o v a ∧ CW P ops Q w0 Ps Fin r N (a.put o.dst v)
  | .one i :: r, N, a => ∀ (E : List Fact) (W : World), (∀ W', Inv w0 W' E → Inv w0 W' Ps) → Inv w0 W (N ++ E) → wpOp P ops Q i (fun a' W' => ∃ N', Inv w0 W' (N' ++ E) ∧ CW P ops Q w0 Ps Fin r N' a') a W
/-- What stands behind: all variables are made. -/
def FinW (P : Program) (ops : Array Oper) (Q : Exit → Act → World → Prop) (w0 : World) (Ps : List Fact) (fs : List Var) (rest : List St) : List Fact → Act → Prop := fun N a =>
  ∀ (gs : List Nat) (W : World), gs.length = fs.length → Inv w0 W (N ++ (boxes fs (gs.map some) ++ Ps)) → SeqW P ops Q (fun W => Inv w0 W Ps) rest (putD fs (gs.map some) a) W
abbrev Tab := List (List Nat × List Nat)
def okT (T : Tab) : List St → List Bool → Bool
  | [], l => readyT T l == []
  | .take i :: r, l => freeT T l i && (readyT T l).contains i && okT T r (l.set i true)
  | .one i :: r, l => (readyT T l == [i]) && okT T r (l.set i true)
theorem okT_seq : ∀ (r : List St) (l : Array Bool), okT (rtab .any ops).2 r l.toList = true → okSeq ops r l = true
  | [], l, h => by rw [okSeq, ready_eq]; exact h
  | .take i :: r, l, h => by
    simp only [okT, Bool.and_eq_true] at h
    simp only [okSeq, Bool.and_eq_true]
    rw [ready_eq, free_eq]
    exact ⟨⟨h.1.1, h.1.2⟩, okT_seq r _ (by rw [Array.toList_setIfInBounds]; exact h.2)⟩
  | .one i :: r, l, h => by
    simp only [okT, Bool.and_eq_true] at h
    simp only [okSeq, Bool.and_eq_true]
    rw [ready_eq]
    exact ⟨h.1, okT_seq r _ (by rw [Array.toList_setIfInBounds]; exact h.2)⟩
def okC (T : Tab) (rest : List St) : Nat → List St → List Nat → List Bool → Bool
  | 0, _, _, _ => false
  | n + 1, .take i :: r, rem, l => freeT T l i && (readyT T l).contains i && okC T rest n r rem (l.set i true)
  | n + 1, .one i :: r, rem, l => (readyT T l != []) && (readyT T l).all fun j => if j = i then okC T rest n r rem (l.set j true) else rem.contains j && okC T rest n (.one i :: r) (rem.erase j) (l.set j true)
  | n + 1, [], [], l => okT T rest l
  | n + 1, [], x :: rem, l => (readyT T l != []) && (readyT T l).all fun j => (x :: rem).contains j && okC T rest n [] ((x :: rem).erase j) (l.set j true)
def Makes (P : Program) (ops : Array Oper) (f : Var) : Prop :=
  ∃ o, ops[f.i]? = some o ∧ o.dst = some f.N ∧ (∀ y, Region.wanted o y = true) ∧ ∀ e w, (execOp e o).run P w = .ok (.value (.pointer (some ⟨w.heap.size, 0, none⟩))) (w.alloc (.cells f.cs f.t))
theorem left_nil : ∀ (fs : List Var) (gs : List (Option Nat)), gs.length = fs.length → left fs gs = [] → ∃ hs : List Nat, gs = hs.map some ∧ hs.length = fs.length
  | [], [], _, _ => ⟨[], rfl, rfl⟩
  | [], _ :: _, h, _ => by simp at h
  | _ :: _, [], h, _ => by simp at h
  | f :: fs, none :: gs, _, h => by simp [left] at h
  | f :: fs, some g :: gs, h, h2 => by
    obtain ⟨hs, h3, h4⟩ := left_nil fs gs (by simpa using h) h2
    exact ⟨g :: hs, by simp [h3], by simp [h4]⟩
theorem left_erase_length {l : List Nat} {j : Nat} (h : j ∈ l) : (l.erase j).length + 1 = l.length := by
  have := List.length_erase_of_mem h
  have := List.length_pos_of_mem h
  omega
theorem any_ {w0 : World} {Ps : List Fact} {fs : List Var} {rest : List St} (hs : Region.noSelect ops = true) (hQ : ∀ (c : _) (a : Act) (d : Option Tmp) (v : Value) (w : World), Q (.panic c) (a.put d v) w ↔ Q (.panic c) a w)
    (hn : (fs.map (·.N)).Nodup) (hm : ∀ f ∈ fs, Makes P ops f) : ∀ (n : Nat) (chain : List St) (N : List Fact) (a : Act) (gs : List (Option Nat)) (l : Array Bool) (fuel : Nat) (W : World),
    gs.length = fs.length → apartB ops fs chain = true → okC (rtab .any ops).2 rest n chain (left fs gs) l.toList = true → chain.length + (left fs gs).length + rest.length ≤ fuel → CW P ops Q w0 Ps (FinW P ops Q w0 Ps fs rest) chain N a → Inv w0 W (N ++ (boxes fs gs ++ Ps)) →
    wpAnyH P .any ops Q (fun W => Inv w0 W Ps) fuel l (putD fs gs a) W
  | 0, _, _, _, _, _, _, _, _, _, hok, _, _, _ => by simp [okC] at hok
  | n + 1, .take i :: r, N, a, gs, l, 0, W, _, _, _, hf, _, _ => by simp at hf
  | n + 1, .take i :: r, N, a, gs, l, fuel + 1, W, hl, hap, hok, hf, ⟨o, v, ho, hy, hc⟩, hi => by
    simp only [okC, Bool.and_eq_true] at hok
    have hap1 : ∀ f ∈ fs, f.N ∉ o.looksAt ops ∧ o.dst ≠ some f.N := fun f hf => apart_of hap hf List.mem_cons_self ho
    have hap2 : apartB ops fs r = true := by
      refine List.all_eq_true.2 (fun f hf => ?_)
      have h1 := List.all_eq_true.1 hap f hf
      split at h1
      · simp at h1
      · simp only [List.all_cons, Bool.and_eq_true] at h1 ⊢
        exact ⟨h1.1, h1.2.2⟩
    have hok2 : okC (rtab .any ops).2 rest n r (left fs gs) (l.setIfInBounds i true).toList = true := by rw [Array.toList_setIfInBounds]; exact hok.2
    refine wpAnyH_take (i := i) ho hs (by rw [free_eq]; exact hok.1.1) (by rw [ready_eq]; exact hok.1.2) (fun c a w => (hQ c a _ _ w).1) (yields_putD (Region.noSelect_spec hs i o · · ho) fs gs hap1 hy) (inv_drop (inv_drop hi)) ?_
    rw [putD_put fs gs (fun f hf => (hap1 f hf).2)]
    exact any_ hs hQ hn hm n r N _ gs _ fuel W hl hap2 hok2 (by simp at hf; omega) hc hi
  | n + 1, .one i :: r, N, a, gs, l, 0, W, _, _, _, hf, _, _ => by simp at hf
  | n + 1, .one i :: r, N, a, gs, l, fuel + 1, W, hl, hap, hok, hf, hc, hi => by
    simp only [okC, Bool.and_eq_true, bne_iff_ne, ne_eq] at hok
    have hap2 : apartB ops fs r = true := by
      refine List.all_eq_true.2 (fun f hf => ?_)
      have h1 := List.all_eq_true.1 hap f hf
      split at h1
      · simp at h1
      · simp only [List.all_cons, Bool.and_eq_true] at h1 ⊢
        exact ⟨h1.1, h1.2.2⟩
    rw [← ready_eq] at hok
    refine wpAnyH_all rfl hok.1 (fun j hj => ?_)
    have h2 := List.all_eq_true.1 hok.2 j hj
    rw [← Array.toList_setIfInBounds] at h2
    by_cases hji : j = i
    · subst hji
      rw [if_pos rfl] at h2
      cases ho : ops[j]? with
      | none => unfold wpOp; rw [ho]; exact absurd hj (by intro hj; obtain ⟨_, o, ho2, _⟩ := mem_ready.1 hj; rw [ho] at ho2; cases ho2)
      | some o =>
        refine wpOp_putD ho (Region.noSelect_spec hs j o · · ho) (fun c a d v w => (hQ c a d v w).2) fs gs (fun f hf => apart_of hap hf List.mem_cons_self ho) ?_
        refine wpOp_mono ?_ (hc (boxes fs gs ++ Ps) W (fun W' h' => inv_drop h') hi)
        rintro a' W' ⟨N', hi', hc'⟩
        exact ⟨inv_drop (inv_drop hi'), any_ hs hQ hn hm n r N' a' gs _ fuel W' hl hap2 h2 (by simp at hf; omega) hc' hi'⟩
    · rw [if_neg hji, Bool.and_eq_true] at h2
      have hmem : j ∈ left fs gs := by simpa using h2.1
      obtain ⟨f, hf1, hf2, hf3, hf4⟩ := boxes_mem fs gs j W.heap.size a hn hmem
      obtain ⟨o, ho, hod, how, hor⟩ := hm f hf1
      rw [hf2] at ho
      unfold wpOp
      simp only [ho, how, if_true]
      refine .inl ?_
      unfold Oper.wp
      rw [hor, Oper.upon_value, hod, ← hf3]
      have hinv : Inv w0 (W.alloc (.cells f.cs f.t)) (N ++ (boxes fs (upd fs gs j W.heap.size) ++ Ps)) := by
        refine inv_perm (hi.box f.cs f.t) ?_
        exact (List.perm_middle.symm).trans ((hf4.append_right Ps).append_left N)
      refine ⟨inv_drop (inv_drop hinv), any_ hs hQ hn hm n (.one i :: r) N a _ _ fuel _ (by rw [upd_length]; exact hl) hap (by rw [left_upd]; exact h2.2) ?_ hc hinv⟩
      rw [left_upd]
      have := left_erase_length hmem
      omega
  | n + 1, [], N, a, gs, l, fuel, W, hl, hap, hok, hf, hc, hi => by
    cases hr : left fs gs with
    | nil =>
      rw [hr] at hok
      simp only [okC] at hok
      obtain ⟨hs2, rfl, hl2⟩ := left_nil fs gs hl hr
      exact seq_any hs (fun c a d v w => (hQ c a d v w).1) rest fuel l _ W (by rw [hr] at hf; simpa using hf) (okT_seq rest l hok) (inv_drop (inv_drop hi)) (hc hs2 W hl2 hi)
    | cons x rem =>
      rw [hr] at hok hf
      simp only [okC, Bool.and_eq_true, bne_iff_ne, ne_eq] at hok
      cases fuel with
      | zero => simp at hf
      | succ fuel =>
        rw [← ready_eq] at hok
        refine wpAnyH_all rfl hok.1 (fun j hj => ?_)
        have h2 := List.all_eq_true.1 hok.2 j hj
        rw [Bool.and_eq_true, ← Array.toList_setIfInBounds] at h2
        have hmem : j ∈ left fs gs := by rw [hr]; simpa using h2.1
        obtain ⟨f, hf1, hf2, hf3, hf4⟩ := boxes_mem fs gs j W.heap.size a hn hmem
        obtain ⟨o, ho, hod, how, hor⟩ := hm f hf1
        rw [hf2] at ho
        unfold wpOp
        simp only [ho, how, if_true]
        refine .inl ?_
        unfold Oper.wp
        rw [hor, Oper.upon_value, hod, ← hf3]
        have hinv : Inv w0 (W.alloc (.cells f.cs f.t)) (N ++ (boxes fs (upd fs gs j W.heap.size) ++ Ps)) := by
          refine inv_perm (hi.box f.cs f.t) ?_
          exact (List.perm_middle.symm).trans ((hf4.append_right Ps).append_left N)
        refine ⟨inv_drop (inv_drop hinv), any_ hs hQ hn hm n [] N a _ _ fuel _ (by rw [upd_length]; exact hl) hap (by rw [left_upd, hr]; exact h2.2) ?_ hc hinv⟩
        rw [left_upd, hr]
        have := left_erase_length (l := x :: rem) (j := j) (by rw [← hr]; exact hmem)
        simp at hf ⊢
        simp at this
        omega
theorem panicIff {R : Ending → World → Prop} {fn : Func} (c : _) (a : Act) (d : Option Tmp) (v : Value) (w : World) : NoPanic (bodyPost P fn R) (.panic c) (a.put d v) w ↔ NoPanic (bodyPost P fn R) (.panic c) a w := Iff.rfl
/-- The beginning. -/
theorem start {id : Nat} {a : Act} {w0 w : World} {Ps : List Fact} (T : Tab) (fs : List Var) (n : Nat) (chain rest : List St) (hT : rtab .any ops = (true, T)) (hm : P.follows .mixedOrders = true) (hl : chain.length + fs.length + rest.length ≤ T.length)
    (hn : (fs.map (·.N)).Nodup) (hap : apartB ops fs chain = true) (hok : okC T rest n chain (fs.map (·.i)) (List.replicate T.length false) = true) (hmk : ∀ f ∈ fs, Makes P ops f)
    (hS : Inv w0 w Ps) (h : CW P ops (NoPanic Q) w0 Ps (FinW P ops (NoPanic Q) w0 Ps fs rest) chain [] a) : (Code.region id ops true).wp P Q a w := by
  have e1 : ∀ l : List Var, left l (l.map fun _ => none) = l.map (·.i) := fun l => by induction l with
    | nil => rfl
    | cons f l ih => simp [left, ih]
  have e2 : ∀ l : List Var, boxes l (l.map fun _ => none) = [] := fun l => by induction l with
    | nil => rfl
    | cons f l ih => simp [boxes, ih]
  have e3 : ∀ l : List Var, putD l (l.map fun _ => none) a = a := fun l => by induction l with
    | nil => rfl
    | cons f l ih => simp [putD, ih]
  have hs : Region.noSelect ops = true := congrArg Prod.fst hT
  have hT2 : (rtab .any ops).2 = T := congrArg Prod.snd hT
  have hsz : T.length = ops.size := by rw [← hT2]; exact rtab_length
  rw [← hT2, rtab_length] at hok
  refine wp_region_noPanic (wp_region_held_drew (S := fun W => Inv w0 W Ps) hm hS.drew (fun hS => ?_))
  have := any_ (P := P) (ops := ops) (Q := NoPanic Q) (w0 := w0) (Ps := Ps) (fs := fs) (rest := rest) hs (fun _ _ _ _ _ => Iff.rfl) hn hmk n chain [] a (fs.map fun _ => none) (Array.replicate ops.size false) ops.size w.drew (by simp) hap (by rw [e1, Array.toList_replicate]; exact hok) (by rw [e1]; simp; omega) h (by rw [e2]; exact hS)
  rw [e3] at this
  exact this
section
variable {w0 : World} {Ps : List Fact} {Fin : List Fact → Act → Prop} {fs : List Var} {rest : List St}
theorem take {i : Nat} (N : Option Tmp) {r : List St} {F : List Fact} {a : Act} {o : Oper} {v : Value} (ho : ops[i]? = some o) (hN : o.dst = N) (hy : YieldsIf P ops (fun W => Inv w0 W Ps) o v a) (h : CW P ops Q w0 Ps Fin r F (a.put N v)) : CW P ops Q w0 Ps Fin (.take i :: r) F a := by
  subst hN
  exact ⟨o, v, ho, hy, h⟩
/-- A call of a Go function. -/
theorem call {i : Nat} (N : Option Tmp) {r : List St} {F : List Fact} {a : Act} {o : Oper} {f : FuncId} {fn : Func} {xs : Array Operand} {ts : Array TypeId} (hf : P.funcs[f]? = some fn) (hname : (fn.name == "runtime.NumGoroutine") = false) (hb : fn.body.isSome = true) (args : Array Value) (ho : ops[i]? = some o) (hN : o.dst = N)
    (hop : o.op = .call { callee := .value (.func f), args := xs, argTypes := ts }) (hw : Region.wanted o (yielded ops a.tmps) = true) (hargs' : xs.toList.map a.eval = args.toList)
    (h : ∀ (E : List Fact) (W : World), (∀ W', Inv w0 W' E → Inv w0 W' Ps) → Inv w0 W (F ++ E) → Calls P f args W fun e W' => ∃ v F', e = .returned v ∧ Inv w0 W' (F' ++ E) ∧ CW P ops Q w0 Ps Fin r F' (a.put N v)) : CW P ops Q w0 Ps Fin (.one i :: r) F a := by
  subst hN
  have hargs : xs.map a.eval = args := by
    apply Array.toList_inj.1
    rw [Array.toList_map]
    exact hargs'
  intro E W hE hi
  unfold wpOp
  simp only [ho, hw, if_true]
  refine .inl ?_
  unfold Oper.wp
  have he : ∀ args w, (callFunc f args).run P w = .ok (.enter f args) w := by
    intro args w
    have h1 : fn.name ≠ "runtime.NumGoroutine" := by simpa using hname
    cases hb' : fn.body with
    | none => rw [hb'] at hb; cases hb
    | some c => simp [callFunc, hf, h1, hb']
  have hrun : (execOp a.eval o).run P W = .ok (.enter f args) W := by
    unfold execOp
    simp [hop, resolve, Deferred.ofValue, invoke, Act.eval, hargs, he]
  rw [hrun, Oper.upon_enter]
  refine (h E W hE hi).mono ?_
  rintro e w' ⟨v, F', rfl, hi', hc⟩
  exact ⟨F', hi', hc⟩
theorem fin {F : List Fact} {a : Act} (h : ∀ (gs : List Nat) (W : World), gs.length = fs.length → Inv w0 W (F ++ (boxes fs (gs.map some) ++ Ps)) → SeqW P ops Q (fun W => Inv w0 W Ps) rest (putD fs (gs.map some) a) W) : CW P ops Q w0 Ps (FinW P ops Q w0 Ps fs rest) [] F a := h
/-- Behind the region. -/
def End (Q : Exit → Act → World → Prop) (w0 : World) (Ps : List Fact) : List Fact → Act → Prop := fun N a => ∀ W, Inv w0 W (N ++ Ps) → Q .normal a W
theorem seq_of : ∀ (r : List St) (N : List Fact) (a : Act) (W : World), CW P ops Q w0 Ps (End Q w0 Ps) r N a → Inv w0 W (N ++ Ps) → SeqW P ops Q (fun W => Inv w0 W Ps) r a W
  | [], _, _, W, h, hi => h W hi
  | .take _ :: r, _, _, _, ⟨o, v, ho, hy, h⟩, hi => ⟨o, v, ho, hy, seq_of r _ _ _ h hi⟩
  | .one _ :: r, _, _, W, h, hi => wpOp_mono (fun a' W' ⟨N', hi', hc⟩ => ⟨inv_drop hi', seq_of r N' a' W' hc hi'⟩) (h Ps W (fun _ h => h) hi)
theorem fin0 {F : List Fact} {a : Act} (h : CW P ops Q w0 Ps (End Q w0 Ps) rest F a) : CW P ops Q w0 Ps (FinW P ops Q w0 Ps [] rest) [] F a := fun gs W hg hi => by
  obtain rfl : gs = [] := List.length_eq_zero_iff.1 hg
  exact seq_of rest F a W h hi
theorem fin1 {v1 : Var} {F : List Fact} {a : Act} (h : ∀ g1 : Nat, CW P ops Q w0 Ps (End Q w0 Ps) rest (F ++ [boxF g1 v1.cs v1.t]) (a.put (some v1.N) (.pointer (some ⟨g1, 0, none⟩)))) : CW P ops Q w0 Ps (FinW P ops Q w0 Ps [v1] rest) [] F a := fun gs W hg hi => by
  match gs, hg with
  | [g1], _ => exact seq_of rest _ _ W (h g1) (by rw [List.append_assoc]; exact hi)
theorem fin2 {v1 v2 : Var} {F : List Fact} {a : Act} (h : ∀ g1 g2 : Nat, CW P ops Q w0 Ps (End Q w0 Ps) rest (F ++ [boxF g1 v1.cs v1.t, boxF g2 v2.cs v2.t]) ((a.put (some v2.N) (.pointer (some ⟨g2, 0, none⟩))).put (some v1.N) (.pointer (some ⟨g1, 0, none⟩)))) : CW P ops Q w0 Ps (FinW P ops Q w0 Ps [v1, v2] rest) [] F a := fun gs W hg hi => by
  match gs, hg with
  | [g1, g2], _ => exact seq_of rest _ _ W (h g1 g2) (by rw [List.append_assoc]; exact hi)
theorem fin3 {v1 v2 v3 : Var} {F : List Fact} {a : Act} (h : ∀ g1 g2 g3 : Nat, CW P ops Q w0 Ps (End Q w0 Ps) rest (F ++ [boxF g1 v1.cs v1.t, boxF g2 v2.cs v2.t, boxF g3 v3.cs v3.t]) (((a.put (some v3.N) (.pointer (some ⟨g3, 0, none⟩))).put (some v2.N) (.pointer (some ⟨g2, 0, none⟩))).put (some v1.N) (.pointer (some ⟨g1, 0, none⟩)))) : CW P ops Q w0 Ps (FinW P ops Q w0 Ps [v1, v2, v3] rest) [] F a := fun gs W hg hi => by
  match gs, hg with
  | [g1, g2, g3], _ => exact seq_of rest _ _ W (h g1 g2 g3) (by rw [List.append_assoc]; exact hi)
/-- A region that does not draw. -/
theorem startL {id : Nat} {a : Act} {w : World} (chain : List St) (hr : chain.map idx = List.range ops.size) (hS : Inv w0 w Ps) (h : CW P ops Q w0 Ps (End Q w0 Ps) chain [] a) : (Code.region id ops false).wp P Q a w :=
  Rg.startL chain hr hS (seq_of chain [] a w h hS)
theorem stop {F : List Fact} {a : Act} (h : ∀ W, Inv w0 W (F ++ Ps) → Q .normal a W) : CW P ops Q w0 Ps (End Q w0 Ps) [] F a := h
theorem stopN {F : List Fact} {a : Act} (h : ∀ W, Inv w0 W (F ++ Ps) → Q .normal a W) : CW P ops (NoPanic Q) w0 Ps (End (NoPanic Q) w0 Ps) [] F a := fun W hi => NoPanic.normal (h W hi)
/-- A variable is made in its turn. -/
theorem var {i : Nat} {N : Tmp} {cs : Array Value} {t : TypeId} {r : List St} {F : List Fact} {a : Act} (hm : Makes P ops ⟨i, N, cs, t⟩) (h : ∀ g : Nat, CW P ops Q w0 Ps Fin r (boxF g cs t :: F) (a.put (some N) (.pointer (some ⟨g, 0, none⟩)))) : CW P ops Q w0 Ps Fin (.one i :: r) F a := by
  intro E W hE hi
  obtain ⟨o, ho, hod, how, hor⟩ := hm
  unfold wpOp
  simp only [ho, how, if_true]
  refine .inl ?_
  unfold Oper.wp
  rw [hor, Oper.upon_value, hod]
  exact ⟨_, hi.box cs t, h W.heap.size⟩
def setAll (cs : Array Value) : Nat → List Value → Array Value
  | _, [] => cs
  | o, v :: r => setAll (cs.setIfInBounds o v) (o + 1) r
theorem setAll_size : ∀ (vs : List Value) (cs : Array Value) (o : Nat), (setAll cs o vs).size = cs.size
  | [], _, _ => rfl
  | v :: r, cs, o => by rw [setAll, setAll_size r]; simp
theorem setAll_get : ∀ (vs : List Value) (cs : Array Value) (o k : Nat), (setAll cs o vs)[k]? = if o ≤ k ∧ k < o + vs.length ∧ k < cs.size then vs[k - o]? else cs[k]?
  | [], cs, o, k => by rw [if_neg (fun h => by have := h.2.1; have := h.1; simp at *; omega)]; rfl
  | v :: r, cs, o, k => by
    rw [setAll, setAll_get r]
    by_cases h1 : o + 1 ≤ k ∧ k < o + 1 + r.length ∧ k < cs.size
    · rw [if_pos (by rw [Array.size_setIfInBounds]; exact h1), if_pos (by rw [List.length_cons]; omega), show k - o = (k - (o + 1)) + 1 from by omega, List.getElem?_cons_succ]
    · rw [if_neg (by rw [Array.size_setIfInBounds]; exact h1)]
      by_cases h2 : k = o
      · subst h2
        by_cases h3 : k < cs.size
        · rw [if_pos (by rw [List.length_cons]; omega), Array.getElem?_setIfInBounds_self_of_lt h3]; simp
        · rw [if_neg (by omega), Array.getElem?_eq_none (by rw [Array.size_setIfInBounds]; omega), Array.getElem?_eq_none (by omega)]
      · rw [if_neg (by rw [List.length_cons]; omega), Array.getElem?_setIfInBounds_ne (by omega)]
theorem setAll_all (cs cs' : Array Value) (h : cs'.size = cs.size) : setAll cs 0 cs'.toList = cs' := by
  apply Array.ext_getElem?
  intro k
  rw [setAll_get]
  by_cases hk : k < cs.size
  · rw [if_pos (by rw [Array.length_toList]; omega)]; simp
  · rw [if_neg (by omega), Array.getElem?_eq_none (by omega), Array.getElem?_eq_none (by omega)]
theorem blk_setCells {g : Nat} {t : TypeId} : ∀ (vs : List Value) (o : Nat) (w : World) (cs : Array Value), w.heap[g]? = some (.cells cs t (0, 0)) → (w.setCells g o vs).heap[g]? = some (.cells (setAll cs o vs) t (0, 0))
  | [], _, _, _, h => h
  | v :: r, o, w, cs, h => blk_setCells r (o + 1) _ _ (blk_set h o v)
theorem far_setCells {g k : Nat} (hk : k ≠ g) : ∀ (vs : List Value) (o : Nat) (w : World), (w.setCells g o vs).heap[k]? = w.heap[k]?
  | [], _, _ => rfl
  | v :: r, o, w => (far_setCells hk r (o + 1) _).trans (Below.heap_setCell w ⟨g, o, none⟩ v k hk)
theorem size_setCells (g : Nat) : ∀ (vs : List Value) (o : Nat) (w : World), (w.setCells g o vs).heap.size = w.heap.size
  | [], _, _ => rfl
  | v :: r, o, w => (size_setCells g r (o + 1) _).trans (World.size_setCell w _ v)
theorem same_setCells (g : Nat) : ∀ (vs : List Value) (o : Nat) (w : World), (w.setCells g o vs).os = w.os ∧ (w.setCells g o vs).tape = w.tape ∧ (w.setCells g o vs).output = w.output
  | [], _, _ => ⟨rfl, rfl, rfl⟩
  | v :: r, o, w => same_setCells g r (o + 1) (w.setCell ⟨g, o, none⟩ v)
theorem inv_setAll {w W : World} {Ps : List Fact} {g : Nat} {cs cs' : Array Value} {t : TypeId} (h : Inv w W Ps) (i : Nat) (hi : Ps[i]? = some (boxF g cs t)) (hs : cs'.size = cs.size) : Inv w (W.setCells g 0 cs'.toList) (Ps.set i (boxF g cs' t)) := by
  obtain ⟨S, h1, h2, h3⟩ := h.write i hi
  obtain ⟨hg, hb⟩ := h2.now
  obtain ⟨e1, e2, e3⟩ := same_setCells g cs'.toList 0 W
  refine h3 _ _ (h.bel.trans ⟨e1, e2, e3, by rw [size_setCells]; exact Nat.le_refl _, fun k hk => far_setCells (fun e => ?_) _ _ _⟩) ⟨by rw [size_setCells]; exact Nat.le_refl _, fun k _ hn => far_setCells (fun e => hn (by rw [e]; exact hg)) _ _ _⟩ (foot_box hg (by rw [blk_setCells _ 0 W cs hb, setAll_all cs cs' hs]))
  have := (h1 g hg).1
  omega
/-- A store of a whole record into its variable. -/
theorem store {i : Nat} {r : List St} {F F' : List Fact} {a : Act} {o : Oper} (j : Nat) {g : Nat} {cs : Array Value} {t : TypeId} (cs' : Array Value) (hj : F[j]? = some (boxF g cs t)) (hF : F' = F.set j (boxF g cs' t)) (ho : ops[i]? = some o) (hd : o.dst = none) (ty : TypeId) (x y : Operand) (hop : o.op = .store ty x y)
    (hx : a.eval x = .pointer (some ⟨g, 0, none⟩)) (hy : a.eval y = .agg cs') (hw : Region.wanted o (yielded ops a.tmps) = true) (hs : cs'.size = cs.size) (hi : (P.info? ty).map (·.size) = some cs'.size) (h1 : cs'.all (·.oneCell') = true) (h : CW P ops Q w0 Ps Fin r F' a) : CW P ops Q w0 Ps Fin (.one i :: r) F a := by
  intro E W hE hinv
  have hj2 : (F ++ E)[j]? = some (boxF g cs t) := by
    have hlt : j < F.length := (List.getElem?_eq_some_iff.1 hj).1
    rw [List.getElem?_append_left hlt]
    exact hj
  have hblk := hinv.blk j hj2
  unfold wpOp
  simp only [ho, hw, if_true]
  refine .inl (wp_store_mid ty x y hop g 0 cs' hx hy (fun k hk => ?_) hi h1 ?_)
  · rw [Nat.zero_add, blk_cell hblk k]
    exact ⟨by rw [Array.getElem?_eq_getElem (by omega)]; rfl, blk_frozen hblk k⟩
  · rw [hd]
    refine ⟨F', ?_, h⟩
    rw [hF, ← List.set_append_left _ _ (List.getElem?_eq_some_iff.1 hj).1]
    exact inv_setAll hinv j hj2 hs
/-- A load of a whole record. -/
theorem ld {a : Act} {o : Oper} (j : Nat) {g : Nat} {cs : Array Value} {t : TypeId} {d : TypeDesc} (hj : Ps[j]? = some (boxF g cs t)) (hw : Region.wanted o (yielded ops a.tmps) = true) (ty : TypeId) (x : Operand) (ho : o.op = .load ty x)
    (hx : a.eval x = .pointer (some ⟨g, 0, none⟩)) (hu : P.underlying ty = some d) (hd : d.isRow = true) (hi : (P.info? ty).map (·.size) = some cs.size) : YieldsIf P ops (fun W => Inv w0 W Ps) o (.agg cs) a := by
  have := yieldsIf_load_mid (P := P) (ops := ops) (S := fun W => Inv w0 W Ps) hw ty x ho g 0 hx cs.toList d (fun W hW k v hk => by rw [Nat.zero_add]; exact hW.cell j hj k (by simpa using hk)) hu hd (by simpa using hi)
  simpa using this
/-- What a call leaves. -/
theorem keep {r : List St} {F E : List Fact} {a : Act} {N : Option Tmp} {v : Value} {W W' : World} (hi : Inv w0 W (F ++ E)) (hb : Below W.heap.size W W') (h : CW P ops Q w0 Ps Fin r F (a.put N v)) : ∃ v' F', Ending.returned v = .returned v' ∧ Inv w0 W' (F' ++ E) ∧ CW P ops Q w0 Ps Fin r F' (a.put N v') := ⟨v, F, rfl, hi.below hb, h⟩
theorem keepI {r : List St} {F F' E : List Fact} {a : Act} {N : Option Tmp} {v : Value} {W' : World} (hi : Inv w0 W' (F' ++ E)) (h : CW P ops Q w0 Ps Fin r F' (a.put N v)) : ∃ v' F', Ending.returned v = .returned v' ∧ Inv w0 W' (F' ++ E) ∧ CW P ops Q w0 Ps Fin r F' (a.put N v') := ⟨v, F', rfl, hi, h⟩
theorem addR {α : Type} {d : Kd α} {e : Nat} {x : Value} {xs : List α} {r : List St} {F E : List Fact} {a : Act} {N : Option Tmp} {v : Value} {W W' : World} (hi : Inv w0 W (F ++ E)) (hr : Kd.R d e W' W.heap.size (fun _ => True) x xs) (hb : Below W.heap.size W W') (h : CW P ops Q w0 Ps Fin r (rowF d e w0.heap.size x xs :: F) (a.put N v)) : ∃ v' F', Ending.returned v = .returned v' ∧ Inv w0 W' (F' ++ E) ∧ CW P ops Q w0 Ps Fin r F' (a.put N v') := ⟨v, rowF d e w0.heap.size x xs :: F, rfl, hi.row hr hb, h⟩
theorem addS {α : Type} {d : Kd α} {e : Nat} {x : Value} {xs : List α} {r : List St} {F E : List Fact} {a : Act} {N : Option Tmp} {v : Value} {W W' : World} (hi : Inv w0 W (F ++ E)) (hr : Kd.S d e W' W.heap.size (fun _ => True) x xs) (hb : Below W.heap.size W W') (h : CW P ops Q w0 Ps Fin r (rowsF d e w0.heap.size x xs :: F) (a.put N v)) : ∃ v' F', Ending.returned v = .returned v' ∧ Inv w0 W' (F' ++ E) ∧ CW P ops Q w0 Ps Fin r F' (a.put N v') := ⟨v, rowsF d e w0.heap.size x xs :: F, rfl, hi.rows hr hb, h⟩
/-- A call that writes a row that it was handed. -/
theorem markS {α : Type} {d : Kd α} {e : Nat} {v u : Value} {xs : List α} {f : FuncId} {args : Array Value} {r : List St} {F E : List Fact} {a : Act} {N : Option Tmp} {W : World} (i : Nat) (hF : F[i]? = some (rowsF d e w0.heap.size v xs)) (hi : Inv w0 W (F ++ E))
    (hc : ∀ S, Kd.S d e W w0.heap.size S v xs → Calls P f args W fun en w' => en = .returned u ∧ Below w0.heap.size w0 w' ∧ Kept W w' (fun k => S k)) (h : CW P ops Q w0 Ps Fin r (F.set i noF) (a.put N u)) : Calls P f args W fun e W' => ∃ v F', e = .returned v ∧ Inv w0 W' (F' ++ E) ∧ CW P ops Q w0 Ps Fin r F' (a.put N v) := by
  have hlt : i < F.length := (List.getElem?_eq_some_iff.1 hF).1
  refine (hi.marks i (by rw [List.getElem?_append_left hlt]; exact hF) hc).mono ?_
  rintro en w' ⟨rfl, h2⟩
  exact ⟨u, F.set i noF, rfl, by rw [← List.set_append_left _ _ hlt]; exact h2, h⟩
theorem markR {α : Type} {d : Kd α} {e : Nat} {v u : Value} {xs ys : List α} {f : FuncId} {args : Array Value} {r : List St} {F E : List Fact} {a : Act} {N : Option Tmp} {W : World} (i : Nat) (hF : F[i]? = some (rowF d e w0.heap.size v xs)) (hi : Inv w0 W (F ++ E)) (hE : d.E = [])
    (hc : ∀ S, Kd.R d e W w0.heap.size S v xs → Calls P f args W fun en w' => en = .returned u ∧ Kd.R d e w' w0.heap.size (fun k => S k ∨ W.heap.size ≤ k) v ys ∧ Below w0.heap.size w0 w' ∧ Kept W w' (fun k => S k)) (h : CW P ops Q w0 Ps Fin r (F.set i (rowF d e w0.heap.size v ys)) (a.put N u)) : Calls P f args W fun e W' => ∃ v F', e = .returned v ∧ Inv w0 W' (F' ++ E) ∧ CW P ops Q w0 Ps Fin r F' (a.put N v) := by
  have hlt : i < F.length := (List.getElem?_eq_some_iff.1 hF).1
  refine (hi.mark i (by rw [List.getElem?_append_left hlt]; exact hF) hE hc).mono ?_
  rintro en w' ⟨rfl, h2⟩
  exact ⟨u, F.set i (rowF d e w0.heap.size v ys), rfl, by rw [← List.set_append_left _ _ hlt]; exact h2, h⟩
/-- A region that does not draw, with a call that writes: all facts are at hand. -/
theorem startW {id : Nat} {a : Act} {w : World} {F : List Fact} (chain : List St) (hr : chain.map idx = List.range ops.size) (hS : Inv w0 w F) (h : CW P ops Q w0 [] (End Q w0 []) chain F a) : (Code.region id ops false).wp P Q a w := by
  have h1 : Inv w0 w (F ++ []) := by rw [List.append_nil]; exact hS
  exact Rg.startL chain hr (inv_drop h1) (seq_of chain F a w h h1)
theorem stopW {F : List Fact} {a : Act} (h : ∀ W, Inv w0 W F → Q .normal a W) : CW P ops Q w0 [] (End Q w0 []) [] F a := fun W hi => h W (by rw [List.append_nil] at hi; exact hi)
theorem ldF {i : Nat} {r : List St} {F : List Fact} {a : Act} {o : Oper} (N : Option Tmp) (j : Nat) {g : Nat} {cs : Array Value} {t : TypeId} {d : TypeDesc} (hj : F[j]? = some (boxF g cs t)) (hi2 : ops[i]? = some o) (hN : o.dst = N) (hw : Region.wanted o (yielded ops a.tmps) = true) (ty : TypeId) (x : Operand) (ho : o.op = .load ty x)
    (hx : a.eval x = .pointer (some ⟨g, 0, none⟩)) (hu : P.underlying ty = some d) (hd : d.isRow = true) (hi : (P.info? ty).map (·.size) = some cs.size) (h : CW P ops Q w0 Ps Fin r F (a.put N (.agg cs))) : CW P ops Q w0 Ps Fin (.one i :: r) F a := by
  subst hN
  intro E W hE hinv
  have hlt : j < F.length := (List.getElem?_eq_some_iff.1 hj).1
  have := yieldsIf_load_mid (P := P) (ops := ops) (S := fun W => Inv w0 W (F ++ E)) hw ty x ho g 0 hx cs.toList d (fun W hW k v hk => by rw [Nat.zero_add]; exact hW.cell j (by rw [List.getElem?_append_left hlt]; exact hj) k (by simpa using hk)) hu hd (by simpa using hi)
  exact this.wpOp hi2 hinv ⟨F, hinv, h⟩
/-- Some of the facts, in an order of their own. -/
def Apart (W : World) (Ps : List Fact) (U : Nat → Prop) : Prop := ∃ Sf : Nat → Nat → Prop, (∀ i P, Ps[i]? = some P → (∀ k, Sf i k → U k) ∧ Foot (P (Sf i)) W (Sf i)) ∧ ∀ i j, i ≠ j → i < Ps.length → j < Ps.length → ∀ k, Sf i k → ¬ Sf j k
theorem apart_of_live {W : World} : ∀ {Ps : List Fact} {U : Nat → Prop}, Live W Ps U → Apart W Ps U
  | [], _, _ => ⟨fun _ _ => False, fun i P h => by simp at h, fun i j _ h => by simp at h⟩
  | P :: Ps, U, ⟨S, h1, h2, h3⟩ => by
    obtain ⟨Sf, h4, h5⟩ := apart_of_live h3
    refine ⟨fun i => match i with | 0 => S | i + 1 => Sf i, fun i Q hQ => ?_, fun i j hij hi hj => ?_⟩
    · cases i with
      | zero =>
        obtain rfl : P = Q := by simpa using hQ
        exact ⟨h1, h2⟩
      | succ i => exact ⟨fun k hk => ((h4 i Q (by simpa using hQ)).1 k hk).1, (h4 i Q (by simpa using hQ)).2⟩
    · cases i with
      | zero =>
        cases j with
        | zero => exact absurd rfl hij
        | succ j =>
          intro k hk hk2
          have hj2 : j < Ps.length := by simpa using hj
          exact ((h4 j Ps[j] (List.getElem?_eq_getElem hj2)).1 k hk2).2 hk
      | succ i =>
        have hi2 : i < Ps.length := by simpa using hi
        cases j with
        | zero => intro k hk hk2; exact ((h4 i Ps[i] (List.getElem?_eq_getElem hi2)).1 k hk).2 hk2
        | succ j => exact h5 i j (fun e => hij (by rw [e])) hi2 (by simpa using hj)
def sel (is : List Nat) (Ps : List Fact) : List Fact := is.filterMap (fun i => Ps[i]?)
theorem live_sel {W : World} {Ps : List Fact} {Sf : Nat → Nat → Prop} {U0 : Nat → Prop} (h1 : ∀ i P, Ps[i]? = some P → (∀ k, Sf i k → U0 k) ∧ Foot (P (Sf i)) W (Sf i)) (h2 : ∀ i j, i ≠ j → i < Ps.length → j < Ps.length → ∀ k, Sf i k → ¬ Sf j k) : ∀ (is : List Nat) {U : Nat → Prop}, is.Nodup → (∀ i ∈ is, i < Ps.length → ∀ k, Sf i k → U k) → Live W (sel is Ps) U
  | [], _, _, _ => trivial
  | i :: is, U, hn, hU => by
    by_cases hi : i < Ps.length
    · have e : sel (i :: is) Ps = Ps[i] :: sel is Ps := by simp [sel, List.getElem?_eq_getElem hi]
      rw [e]
      refine ⟨Sf i, hU i List.mem_cons_self hi, (h1 i _ (List.getElem?_eq_getElem hi)).2, ?_⟩
      refine live_sel h1 h2 is (List.nodup_cons.1 hn).2 (fun j hj hjl k hk => ⟨hU j (List.mem_cons_of_mem _ hj) hjl k hk, h2 j i (fun e => (List.nodup_cons.1 hn).1 (e ▸ hj)) hjl hi k hk⟩)
    · have e : sel (i :: is) Ps = sel is Ps := by simp [sel, List.getElem?_eq_none (Nat.le_of_not_lt hi)]
      rw [e]
      exact live_sel h1 h2 is (List.nodup_cons.1 hn).2 (fun j hj => hU j (List.mem_cons_of_mem _ hj))
theorem inv_sel {w W : World} {Ps : List Fact} (h : Inv w W Ps) (is : List Nat) (hn : is.Nodup) : Inv w W (sel is Ps) := by
  obtain ⟨Sf, h1, h2⟩ := apart_of_live h.live
  exact ⟨h.bel, live_sel h1 h2 is hn (fun i _ hi k hk => (h1 i _ (List.getElem?_eq_getElem hi)).1 k hk)⟩
/-- The beginning, where some facts may be written by the region. -/
theorem startF {id : Nat} {a : Act} {w0 w : World} {Ps F : List Fact} (T : Tab) (fs : List Var) (n : Nat) (chain rest : List St) (hT : rtab .any ops = (true, T)) (hm : P.follows .mixedOrders = true) (hl : chain.length + fs.length + rest.length ≤ T.length)
    (hn : (fs.map (·.N)).Nodup) (hap : apartB ops fs chain = true) (hok : okC T rest n chain (fs.map (·.i)) (List.replicate T.length false) = true) (hmk : ∀ f ∈ fs, Makes P ops f)
    (hS : Inv w0 w (F ++ Ps)) (h : CW P ops (NoPanic Q) w0 Ps (FinW P ops (NoPanic Q) w0 Ps fs rest) chain F a) : (Code.region id ops true).wp P Q a w := by
  have e1 : ∀ l : List Var, left l (l.map fun _ => none) = l.map (·.i) := fun l => by induction l with
    | nil => rfl
    | cons f l ih => simp [left, ih]
  have e2 : ∀ l : List Var, boxes l (l.map fun _ => none) = [] := fun l => by induction l with
    | nil => rfl
    | cons f l ih => simp [boxes, ih]
  have e3 : ∀ l : List Var, putD l (l.map fun _ => none) a = a := fun l => by induction l with
    | nil => rfl
    | cons f l ih => simp [putD, ih]
  have hs : Region.noSelect ops = true := congrArg Prod.fst hT
  have hT2 : (rtab .any ops).2 = T := congrArg Prod.snd hT
  rw [← hT2, rtab_length] at hok
  have hsz : T.length = ops.size := by rw [← hT2]; exact rtab_length
  refine wp_region_noPanic (wp_region_held_drew (S := fun W => Inv w0 W Ps) hm (inv_drop hS).drew (fun _ => ?_))
  have := any_ (P := P) (ops := ops) (Q := NoPanic Q) (w0 := w0) (Ps := Ps) (fs := fs) (rest := rest) hs (fun _ _ _ _ _ => Iff.rfl) hn hmk n chain F a (fs.map fun _ => none) (Array.replicate ops.size false) ops.size w.drew (by simp) hap (by rw [e1, Array.toList_replicate]; exact hok) (by rw [e1]; simp; omega) h (by rw [e2]; exact hS.drew)
  rw [e3] at this
  exact this
/-- A load of a part of a record. -/
theorem ldP {a : Act} {o : Oper} (j off : Nat) {g : Nat} {cs : Array Value} {t : TypeId} {d : TypeDesc} (sub : Array Value) (hj : Ps[j]? = some (boxF g cs t)) (hw : Region.wanted o (yielded ops a.tmps) = true) (ty : TypeId) (x : Operand) (ho : o.op = .load ty x)
    (hx : a.eval x = .pointer (some ⟨g, off, none⟩)) (hs : (cs.toList.drop off).take sub.size = sub.toList) (hu : P.underlying ty = some d) (hd : d.isRow = true) (hi : (P.info? ty).map (·.size) = some sub.size) : YieldsIf P ops (fun W => Inv w0 W Ps) o (.agg sub) a := by
  have := yieldsIf_load_mid (P := P) (ops := ops) (S := fun W => Inv w0 W Ps) hw ty x ho g off hx sub.toList d (fun W hW k v hk => hW.cell j hj (off + k) (by
    rw [← hs] at hk
    rw [List.getElem?_take] at hk
    split at hk
    · rw [List.getElem?_drop] at hk
      simpa using hk
    · cases hk)) hu hd (by simpa using hi)
  simpa using this
/-- A step that does nothing but compute, in a chain. -/
theorem lit {i : Nat} {N : Tmp} {cs : Array Value} {t : TypeId} {n : Nat} {r : List St} {F : List Fact} {a : Act} {o : Oper} (ho : ops[i]? = some o) (hd : o.dst = some N) (hw : Region.wanted o (yielded ops a.tmps) = true)
    (hrun : ∀ w, (execOp a.eval o).run P w = .ok (.value (.slice (some ⟨w.heap.size, 0, none⟩) n n)) (w.alloc (.cells cs t)))
    (h : ∀ g : Nat, CW P ops Q w0 Ps Fin r (boxF g cs t :: F) (a.put (some N) (.slice (some ⟨g, 0, none⟩) n n))) : CW P ops Q w0 Ps Fin (.one i :: r) F a := by
  intro E W hE hi
  unfold wpOp
  simp only [ho, hw, if_true]
  refine .inl ?_
  unfold Oper.wp
  rw [hrun, Oper.upon_value, hd]
  exact ⟨_, hi.box cs t, h W.heap.size⟩
/-- A block that is known whole reads as a row of one. -/
theorem c_one {α : Type} {d : Kd α} {W : World} {g : Nat} {cs : Array Value} {t : TypeId} {x : α} (hb : W.heap[g]? = some (.cells cs t (0, 0))) (hK : d.K W x cs.toList) : Kd.C d W (some ⟨g, 0, none⟩) [x].length [x] := by
  refine ⟨rfl, by simp, fun _ => ⟨⟨g, 0, none⟩, rfl, fun j p hj => ?_⟩⟩
  cases j with
  | succ j => simp at hj
  | zero =>
    obtain rfl : x = p := by simpa using hj
    refine ⟨cs.toList, d.K_len hK, hK, fun i u hu => ?_⟩
    have : (⟨g, 0, none⟩ : Addr).add (0 * d.sz + i) = ⟨g, i, none⟩ := by rw [Go.Addr.add_mid]; simp
    rw [this]
    exact (blk_cell hb i).trans (by simpa using hu)
/-- A call that leaves two rows apart. -/
theorem addRR {α : Type} {d : Kd α} {e : Nat} {x y : Value} {xs ys : List α} {ok : Nat → Prop} {r : List St} {F E : List Fact} {a : Act} {N : Option Tmp} {v : Value} {W W' : World} (hE : d.E = []) (hi : Inv w0 W (F ++ E)) (h1 : Kd.R d e W' W.heap.size ok x xs) (h2 : Kd.R d e W' W.heap.size (fun k => some k ≠ x.ownBlock) y ys) (hb : Below W.heap.size W W') (h : CW P ops Q w0 Ps Fin r (rowF d e w0.heap.size x xs :: rowF d e w0.heap.size y ys :: F) (a.put N v)) : ∃ v' F', Ending.returned v = .returned v' ∧ Inv w0 W' (F' ++ E) ∧ CW P ops Q w0 Ps Fin r F' (a.put N v') := by
  refine ⟨v, rowF d e w0.heap.size x xs :: rowF d e w0.heap.size y ys :: F, rfl, hi.push2 (P1 := rowF d e w0.heap.size x xs) (P2 := rowF d e w0.heap.size y ys) (S := fun k => some k = x.ownBlock) hb ?_ ?_, h⟩
  · exact foot_row (Kd.R_mono (Kd.R_lower (Kd.R_bound (Kd.R_tight hE h1)) hi.bel.size) (fun k hk => ⟨⟨hk.2.1, hk.2.2.1⟩, hk.1⟩))
  · exact foot_row (Kd.R_mono (Kd.R_lower (Kd.R_bound h2) hi.bel.size) (fun k hk => ⟨⟨hk.2.1, hk.2.2.1⟩, hk.1⟩))
theorem mk0 : ∀ f ∈ ([] : List Var), Makes P ops f := fun _ h => by simp at h
theorem mkc {f : Var} {fs : List Var} (h : Makes P ops f) (t : ∀ f ∈ fs, Makes P ops f) : ∀ g ∈ f :: fs, Makes P ops g := fun g hg => by
  rcases List.mem_cons.1 hg with rfl | hg
  · exact h
  · exact t g hg
end
end
end Go.Proofs.Ytkifenbcepicjab.Fl
