/- A region within a round, by the plain laws: what is walked as in a plain frame holds in a round's frame, too. And regions that draw their order, operation by operation. Nothing of the program is named here. -/
import Derived.Test.YtnkaegdnjfpliaaGreatDoorRange
import Derived.Deep.RegionHeld3
namespace Go.Proofs.YtnkaegdnjfpliaaGreatDoor
set_option linter.unusedSimpArgs false
set_option linter.unusedVariables false
open Go.RowKit

section
variable {P : Program} {ops : Array Oper} {Q : Exit → Act → World → Prop} {a : Act} {w : World} {l : Nat}

theorem callsIn_round {f : FuncId} {args : Array Value} {R : Ending → World → Prop} (h : Calls P f args w R) : CallsIn (FR l) 0 P f args w R := CallsIn.inRound l ((callsIn_wide (n := 0)).2 h)

theorem operIn_of_oper {o : Oper} {K : Act → World → Prop} (hd : ∀ c, o.op ≠ .defer c) (h : o.wp P a w K Q) : o.wpIn (FR l) 0 P a w K Q := by
  refine ⟨fun _ _ => trivial, ?_⟩
  rw [Oper.semAt_eq _ _ _ hd]
  unfold Oper.wp at h
  generalize (execOp a.eval o).run P w = r at *
  cases r with
  | ok n w' =>
    cases n <;> simp only [Oper.upon] at h <;> simp only [Oper.uponIn]
    case value => exact h
    case skip => exact h
    case defer => exact h
    case enter f args => exact ⟨fun h => by simp [Fence.wide, Fence.inRound] at h, callsIn_round h⟩
    case row row args =>
      refine ⟨fun h => by simp [Fence.wide, Fence.inRound] at h, fun c cs _ => ?_⟩
      obtain ⟨v, w'', hr, hs⟩ := h c cs
      exact ⟨v, w'', hr, stepsIn_wide.2 hs⟩
  | halt x w' => cases x <;> simp only [Oper.upon] at h <;> first | exact h.elim | (simp only [Oper.uponIn]; exact h)

theorem wpListIn_of_wpList (hq : ∀ a w, ¬ Q .outgrown a w) : ∀ (os : List Oper) (a : Act) (w : World), (∀ o ∈ os, ∀ c, o.op ≠ .defer c) → wpList P ops Q os a w → wpListIn (FR l) 0 P ops Q os a w
  | [], _, _, _, h => h
  | o :: os, a, w, hd, h => by
    unfold wpList at h
    unfold wpListIn
    split at h
    · rename_i hw
      rw [if_pos hw]
      rcases h with h | ⟨_, b, w', h⟩
      · exact operIn_of_oper (hd o (by simp)) (Oper.wp_mono (fun a w h => wpListIn_of_wpList hq os a w (fun o' h' => hd o' (by simp [h'])) h) h)
      · exact absurd h (hq _ _)
    · rename_i hw
      rw [if_neg hw]
      exact ⟨fun _ _ => trivial, wpListIn_of_wpList hq os _ w (fun o' h' => hd o' (by simp [h'])) h⟩

theorem wpAnyIn_of_wpAny (hq : ∀ a w, ¬ Q .outgrown a w) (hd : ∀ (i : Nat) (o : Oper), ops[i]? = some o → ∀ c, o.op ≠ .defer c) : ∀ (fuel : Nat) (listed : Array Bool) (a : Act) (w : World), wpAny P .any ops Q fuel listed a w → wpAnyIn (FR l) 0 P .any ops Q fuel listed a w
  | 0, _, _, _, h => h
  | fuel + 1, listed, a, w, h => by
    refine ⟨h.1, fun i hi => ?_⟩
    have h1 := h.2 i hi
    unfold wpOp at h1
    unfold wpOpIn
    split at h1
    · rename_i ho; simp only [ho]; exact wpAnyIn_of_wpAny hq hd fuel _ _ _ h1
    · rename_i o ho
      simp only [ho]
      split at h1
      · rename_i hw
        rw [if_pos hw]
        rcases h1 with h1 | ⟨_, b, w', h1⟩
        · exact operIn_of_oper (hd i o ho) (Oper.wp_mono (fun a w h => wpAnyIn_of_wpAny hq hd fuel _ a w h) h1)
        · exact absurd h1 (hq _ _)
      · rename_i hw
        rw [if_neg hw]
        exact ⟨fun _ _ => trivial, wpAnyIn_of_wpAny hq hd fuel _ _ _ h1⟩

/-- No operation of these is a defer statement. -/
def noDefer (ops : Array Oper) : Bool := ops.toList.all fun o => match o.op with | .defer _ => false | _ => true
theorem noDefer_spec (h : noDefer ops = true) : ∀ o ∈ ops.toList, ∀ c, o.op ≠ .defer c := fun o ho c e => by
  have := List.all_eq_true.1 h o ho
  rw [e] at this; cases this

/-- What follows a region, and no other way out of it. -/
def Only (K : Act → World → Prop) : Exit → Act → World → Prop
  | .normal, a, w => K a w
  | _, _, _ => False

/-- A region in a round, in the order of the text. -/
theorem round_region {id : Nat} {os : List Oper} (hd : noDefer os.toArray = true) (h : wpList P os.toArray (Only (Q .normal)) os a w) : (Code.region id os.toArray false).wpIn (FR l) 0 P Q a w := by
  refine wpIn_region_lit (wpListIn_mono ?_ (wpListIn_of_wpList (Q := Only (Q .normal)) (fun _ _ h => h) os a w (by simpa using noDefer_spec hd) h))
  intro e a w h; cases e <;> first | exact h | exact h.elim
where
  wpListIn_mono {F : Fence} {n : Nat} {Q Q' : Exit → Act → World → Prop} {ops : Array Oper} {os : List Oper} {a : Act} {w : World} (hq : ∀ e a w, Q e a w → Q' e a w) (h : wpListIn F n P ops Q os a w) : wpListIn F n P ops Q' os a w := by
    induction os generalizing a w with
    | nil => exact hq _ _ _ h
    | cons o os ih =>
      unfold wpListIn at h ⊢
      split at h
      · rename_i hw; rw [if_pos hw]; exact operIn_mono hq (fun a w h => ih h) h
      · rename_i hw; rw [if_neg hw]; exact ⟨h.1, ih h.2⟩
  operIn_mono {F : Fence} {n : Nat} {Q Q' : Exit → Act → World → Prop} {o : Oper} {a : Act} {w : World} {K K' : Act → World → Prop} (hq : ∀ e a w, Q e a w → Q' e a w) (hk : ∀ a w, K a w → K' a w) (h : o.wpIn F n P a w K Q) : o.wpIn F n P a w K' Q' := by
    refine ⟨h.1, ?_⟩
    have h2 := h.2
    have out : LetsOut Q → LetsOut Q' := fun ⟨a, w, h⟩ => ⟨a, w, hq _ _ _ h⟩
    generalize (o.semAt F.round a.eval).run P w = r at *
    cases r with
    | ok n w' =>
      cases n <;> simp only [Oper.uponIn] at h2 ⊢
      case value => exact hk _ _ h2
      case skip => exact hk _ _ h2
      case defer => exact hk _ _ h2
      case enter f args => exact ⟨h2.1, h2.2.1, fun cs hr => let ⟨e, w', fr, h, rest⟩ := h2.2.2 cs hr; ⟨e, w', fr, (by cases e <;> first | exact hk _ _ h | exact hq _ _ _ h | exact out h), rest⟩⟩
      case row row args => exact ⟨h2.1, h2.2.mono fun _ _ h => hk _ _ h⟩
      case round => exact ⟨h2.1, h2.2.mono fun e _ h => by cases e <;> first | exact hk _ _ h | exact hq _ _ _ h | exact out h⟩
    | halt x w' => cases x <;> simp only [Oper.uponIn] at h2 ⊢ <;> first | exact hq _ _ _ h2 | exact h2

/-- What operation k waits for. -/
def afters (ops : Array Oper) (k : Nat) : List Nat := match ops[k]? with
  | some o => (o.after.toList.filter fun e => Region.binds .any e).map (·.on)
  | none => []
def marks (ops : Array Oper) : Nat → List Nat → List Nat
  | 0, s => s
  | k + 1, s => marks ops k (if s.contains k then s ++ afters ops k else s)
/-- Operation j waits for every other one. -/
def lastly (ops : Array Oper) (j : Nat) : Bool :=
  (List.range ops.size).all fun i => i == j || (marks ops ops.size (afters ops j)).contains i

/-- What is listed waits for nothing that is not. -/
def Closed (ops : Array Oper) (listed : Array Bool) : Prop := ∀ k, listed.getD k false = true → ∀ i ∈ afters ops k, listed.getD i false = true
theorem marks_listed {listed : Array Bool} (hc : Closed ops listed) : ∀ (k : Nat) (s : List Nat), (∀ i ∈ s, listed.getD i false = true) → ∀ i ∈ marks ops k s, listed.getD i false = true
  | 0, _, h => h
  | k + 1, s, h => by
    unfold marks
    refine marks_listed hc k _ ?_
    split
    · rename_i hk
      intro i hi
      rcases List.mem_append.1 hi with hi | hi
      · exact h i hi
      · exact hc k (h k (by simpa using hk)) i hi
    · exact h
theorem afters_listed {listed : Array Bool} {j : Nat} (hj : j ∈ Region.ready .any ops listed) : ∀ i ∈ afters ops j, listed.getD i false = true := by
  obtain ⟨_, o, ho, hall⟩ := mem_ready.1 hj
  intro i hi
  unfold afters at hi
  rw [ho] at hi
  obtain ⟨e, he, rfl⟩ := List.mem_map.1 hi
  obtain ⟨he1, he2⟩ := List.mem_filter.1 he
  exact hall e (Array.mem_toList_iff.1 he1) he2
theorem Closed.set {listed : Array Bool} {j : Nat} (hc : Closed ops listed) (hj : j ∈ Region.ready .any ops listed) : Closed ops (listed.setIfInBounds j true) := by
  intro k hk i hi
  rcases Nat.decEq k j with h | h
  · rw [getD_set_ne false (Ne.symm h)] at hk
    exact getD_set_true (hc k hk i hi)
  · subst h
    exact getD_set_true (afters_listed hj i hi)
theorem closed_none (n : Nat) : Closed ops (Array.replicate n false) := by
  intro k hk
  exfalso
  rcases Nat.lt_or_ge k n with h | h
  · simp [h] at hk
  · simp [h] at hk

/-- The ways out at operation i: those of Q, if it waits for all others; else none but onward. -/
def outs (ops : Array Oper) (Q : Exit → Act → World → Prop) (i : Nat) : Exit → Act → World → Prop := if lastly ops i = true then Q else Only (Q .normal)

/-- Whatever order is picked from here on; S holds behind each operation but one that waits for all others. -/
def wpE (P : Program) (ops : Array Oper) (Q : Exit → Act → World → Prop) (S : World → Prop) : Nat → Array Bool → Act → World → Prop
  | 0, listed, a, w => Closed ops listed → Region.ready .any ops listed = [] ∧ Q .normal a w
  | fuel + 1, listed, a, w => Closed ops listed → (Region.ready .any ops listed = [] → Q .normal a w) ∧
    ∀ i ∈ Region.ready .any ops listed, wpOp P ops (outs ops Q i) i (fun a' w' => (lastly ops i = true ∨ S w') ∧ wpE P ops Q S fuel (listed.setIfInBounds i true) a' w') a w

theorem oper_out {Q Q' : Exit → Act → World → Prop} {o : Oper} {N : Act → World → Prop} (hq : ∀ e a w, Q e a w → Q' e a w) (h : o.wp P a w N Q) : o.wp P a w N Q' := by
  have out : LetsOut Q → LetsOut Q' := fun ⟨a, w, h⟩ => ⟨a, w, hq _ _ _ h⟩
  unfold Oper.wp at *
  generalize (execOp a.eval o).run P w = r at *
  cases r with
  | ok n w' =>
    cases n <;> simp only [Oper.upon] at h ⊢
    case value => exact h
    case skip => exact h
    case defer => exact h
    case enter f args => exact h.mono fun e w' h => by cases e <;> first | exact h | exact hq _ _ _ h | exact out h
    case row row args => exact h
  | halt x w' => cases x <;> simp only [Oper.upon] at h ⊢ <;> first | exact hq _ _ _ h | exact h

theorem outs_le (Q : Exit → Act → World → Prop) (i : Nat) : ∀ e a w, outs ops Q i e a w → Q e a w := by
  intro e a w h
  unfold outs at h
  split at h
  · exact h
  · cases e <;> first | exact h | exact h.elim

theorem wpOp_out {Q Q' : Exit → Act → World → Prop} {i : Nat} {N : Act → World → Prop} (hq : ∀ e a w, Q e a w → Q' e a w) (h : wpOp P ops Q i N a w) : wpOp P ops Q' i N a w := by
  unfold wpOp at *
  split
  · rename_i ho; simpa only [ho] using h
  · rename_i o ho
    simp only [ho] at h
    split at h
    · rename_i hw
      rw [if_pos hw]
      rcases h with h | ⟨h1, a', w', h2⟩
      · exact .inl (oper_out hq h)
      · exact .inr ⟨h1, a', w', hq _ _ _ h2⟩
    · rename_i hw
      rw [if_neg hw]; exact h

theorem wpAny_of_wpE {Q : Exit → Act → World → Prop} {S : World → Prop} : ∀ (fuel : Nat) (listed : Array Bool) (a : Act) (w : World), Closed ops listed → wpE P ops Q S fuel listed a w → wpAny P .any ops Q fuel listed a w
  | 0, _, _, _, hc, h => h hc
  | fuel + 1, _, _, _, hc, h => ⟨(h hc).1, fun i hi => wpOp_mono (fun a' w' h' => wpAny_of_wpE fuel _ a' w' (hc.set hi) h'.2) (wpOp_out (outs_le Q i) ((h hc).2 i hi))⟩

/-- A region in a round that draws its order. -/
theorem round_region_draws {id : Nat} (S : World → Prop) (hm : P.follows .mixedOrders = true) (hd : noDefer ops = true) (hS : S w.drew)
    (h : S w.drew → wpE P ops (Only (Q .normal)) S ops.size (Array.replicate ops.size false) a w.drew) : (Code.region id ops true).wpIn (FR l) 0 P Q a w := by
  have h1 := wpAny_of_wpE _ _ _ _ (closed_none _) (h hS)
  have h2 := wpIn_region_any (F := FR l) (n := 0) (id := id) hm (wpAnyIn_of_wpAny (l := l) (Q := Only (Q .normal)) (fun _ _ h => h) (fun i o ho => noDefer_spec hd o (by have := List.mem_of_getElem? (l := ops.toList) (i := i) (by simpa using ho); exact this)) _ _ _ _ h1)
  intro b k cs h3 h4 h5
  obtain ⟨e, a', w', hq, harr⟩ := h2 b k cs h3 h4 h5
  exact ⟨e, a', w', by cases e <;> first | exact hq | exact hq.elim, harr⟩

/-- A region in a plain frame that draws its order. -/
theorem plain_region_draws {id : Nat} (S : World → Prop) (hm : P.follows .mixedOrders = true) (hS : S w.drew)
    (h : S w.drew → wpE P ops (Only (Q .normal)) S ops.size (Array.replicate ops.size false) a w.drew) : (Code.region id ops true).wp P Q a w := by
  have h2 := wp_region_any (id := id) hm (wpAny_of_wpE _ _ _ _ (closed_none _) (h hS))
  exact Code.wp_mono (fun e a w h => by cases e <;> first | exact h | exact h.elim) h2
/-- The same, where the last operation may leave by another way. -/
theorem plain_region_draws_out {id : Nat} (S : World → Prop) (hm : P.follows .mixedOrders = true) (hS : S w.drew)
    (h : S w.drew → wpE P ops Q S ops.size (Array.replicate ops.size false) a w.drew) : (Code.region id ops true).wp P Q a w :=
  wp_region_any (id := id) hm (wpAny_of_wpE _ _ _ _ (closed_none _) (h hS))

variable {S : World → Prop} {fuel : Nat} {listed : Array Bool} {K : Exit → Act → World → Prop}

theorem listed_no {i : Nat} {listed : Array Bool} (h : listed.getD i true = false) : listed.getD i false ≠ true := by
  rcases Nat.lt_or_ge i listed.size with h' | h'
  · simp [h'] at h ⊢; exact h
  · simp [Array.getElem?_eq_none h']

theorem not_lastly {i j : Nat} (hc : Closed ops listed) (hi : i ∈ Region.ready .any ops listed) (hj : j ∈ Region.ready .any ops listed) (hne : j ≠ i) : lastly ops j = true → False := by
  intro hl
  obtain ⟨hi0, oi, hoi, _⟩ := mem_ready.1 hi
  have hlt : i < ops.size := (Array.getElem?_eq_some_iff.1 hoi).1
  have h1 := List.all_eq_true.1 hl i (List.mem_range.2 hlt)
  simp only [Bool.or_eq_true, beq_iff_eq] at h1
  rcases h1 with h1 | h1
  · exact hne h1.symm
  · exact listed_no hi0 (marks_listed hc _ _ (afters_listed hj) i (by simpa using h1))

theorem wpE_first {i : Nat} {oi : Oper} {v : Value} (hi : ops[i]? = some oi) (hsel : ∀ (j : Nat) (o : Oper) cs b, ops[j]? = some o → o.op ≠ .select cs b) :
    ∀ (fuel : Nat) (listed : Array Bool) (a : Act) (w : World),
      (∀ j oj, ops[j]? = some oj → j ≠ i → listed.getD j true = false → (∀ e ∈ oj.after, Region.binds .any e = true → e.on ≠ i) → oi.apart ops oj = true) →
      i ∈ Region.ready .any ops listed → YieldsIf P ops S oi v a → S w →
      wpE P ops K S fuel (listed.setIfInBounds i true) (a.put oi.dst v) w → wpE P ops K S (fuel + 1) listed a w := by
  intro fuel
  induction fuel with
  | zero =>
    intro listed a w _ hr hy hS H hc
    refine ⟨fun h => absurd hr (by rw [h]; simp), fun j hj => ?_⟩
    rcases Nat.decEq j i with hji | hji
    · exact absurd (ready_mono hj hji) (by rw [(H (hc.set hr)).1]; simp)
    · subst hji; exact hy.wpOp hi hS ⟨.inr hS, H⟩
  | succ fuel ih =>
    intro listed a w hfree hr hy hS H hc
    refine ⟨fun h => absurd hr (by rw [h]; simp), fun j hj => ?_⟩
    rcases Nat.decEq j i with hji | hji
    · have hrj := (H (hc.set hr)).2 j (ready_mono hj hji)
      obtain ⟨hj0, oj, hoj, hall⟩ := mem_ready.1 hj
      have hi0 := (mem_ready.1 hr).1
      have hfar : ∀ e ∈ oj.after, Region.binds .any e = true → e.on ≠ i := fun e he hb heq => listed_no hi0 (heq ▸ hall e he hb)
      have houts : outs ops K j = Only (K .normal) := if_neg (fun h => not_lastly hc hr hj hji h)
      rw [houts] at hrj ⊢
      have hswap := wpOp_putIf hoj (hfree j oj hoj hji hj0 hfar) (fun cs b => hsel i oi cs b hi) (fun cs b => hsel j oj cs b hoj) (fun _ _ _ h => h) hy hrj
      refine wpOp_mono (fun a' w' h3 => ?_) hswap
      have hS' : S w' := h3.2.1.resolve_left (not_lastly hc hr hj hji)
      refine ⟨.inr hS', ih _ a' w' (fun k ok hk hki hun hno => hfree k ok hk hki ?_ hno) (ready_mono hr (Ne.symm hji)) h3.1 hS' ?_⟩
      · rcases Nat.decEq j k with hjk | hjk
        · rw [getD_set_ne true hjk] at hun; exact hun
        · exact hjk ▸ hj0
      · rw [Array.setIfInBounds_comm _ _ hji]; exact h3.2.2
    · subst hji; exact hy.wpOp hi hS ⟨.inr hS, H⟩

/-- An operation that yields one value in every world that meets S is taken first. -/
theorem take (i d : Nat) {oi : Oper} {v : Value} (hi : ops[i]? = some oi) (hdst : oi.dst = some d) (hs : Region.noSelect ops = true) (hf : Region.free .any ops listed i = true) (hr : (Region.ready .any ops listed).contains i = true)
    (hw : Region.wanted oi (yielded ops a.tmps) = true) (hy : ∀ w, S w → (execOp a.eval oi).run P w = .ok (.value v) w) (hS : S w)
    (h : wpE P ops K S fuel (listed.setIfInBounds i true) (a.put (some d) v) w) : wpE P ops K S (fuel + 1) listed a w :=
  have h := hdst ▸ h
  wpE_first hi (Region.noSelect_spec hs) fuel listed a w (Region.free_spec hi hf) (by simpa using hr) (.inl ⟨hw, hy⟩) hS h

/-- An operation whose guard says no is passed over. -/
theorem takeNot (i d : Nat) {oi : Oper} (hi : ops[i]? = some oi) (hdst : oi.dst = some d) (hs : Region.noSelect ops = true) (hf : Region.free .any ops listed i = true) (hr : (Region.ready .any ops listed).contains i = true)
    (hw : Region.wanted oi (yielded ops a.tmps) = false) (hS : S w)
    (h : wpE P ops K S fuel (listed.setIfInBounds i true) (a.put (some d) undef) w) : wpE P ops K S (fuel + 1) listed a w :=
  have h := hdst ▸ h
  wpE_first hi (Region.noSelect_spec hs) fuel listed a w (Region.free_spec hi hf) (by simpa using hr) (.inr ⟨hw, rfl⟩) hS h

/-- The one operation that may come up is carried out. -/
theorem only (i : Nat) {oi : Oper} (hi : ops[i]? = some oi) (hr : Region.ready .any ops listed = [i]) (hw : Region.wanted oi (yielded ops a.tmps) = true)
    (h : oi.wp P a w (fun a' w' => (lastly ops i = true ∨ S w') ∧ wpE P ops K S fuel (listed.setIfInBounds i true) a' w') (outs ops K i)) : wpE P ops K S (fuel + 1) listed a w := by
  intro _
  refine ⟨fun h => (by rw [h] at hr; cases hr), fun j hj => ?_⟩
  rw [hr] at hj
  obtain rfl : j = i := by simpa using hj
  unfold wpOp
  simp only [hi, hw, if_true]
  exact .inl h
theorem onlyRun (i d : Nat) {oi : Oper} {v : Value} {w' : World} (hi : ops[i]? = some oi) (hdst : oi.dst = some d) (hr : Region.ready .any ops listed = [i]) (hw : Region.wanted oi (yielded ops a.tmps) = true)
    (hx : (execOp a.eval oi).run P w = .ok (.value v) w') (hS : lastly ops i = true ∨ S w') (h : wpE P ops K S fuel (listed.setIfInBounds i true) (a.put (some d) v) w') : wpE P ops K S (fuel + 1) listed a w :=
  only i hi hr hw (by unfold Oper.wp; rw [hx]; exact ⟨hS, hdst ▸ h⟩)
theorem onlySkip (i : Nat) {oi : Oper} {w' : World} (hi : ops[i]? = some oi) (hdst : oi.dst = none) (hr : Region.ready .any ops listed = [i]) (hw : Region.wanted oi (yielded ops a.tmps) = true)
    (hx : (execOp a.eval oi).run P w = .ok .skip w') (hS : lastly ops i = true ∨ S w') (h : wpE P ops K S fuel (listed.setIfInBounds i true) a w') : wpE P ops K S (fuel + 1) listed a w :=
  only i hi hr hw (by unfold Oper.wp; rw [hx]; refine ⟨hS, ?_⟩; rw [hdst]; exact h)
theorem done {K : Act → World → Prop} (hr : Region.ready .any ops listed = []) (h : K a w) : ∀ fuel, wpE P ops (Only K) S fuel listed a w
  | 0 => fun _ => ⟨hr, h⟩
  | _ + 1 => fun _ => ⟨fun _ => h, by rw [hr]; simp⟩
theorem doneQ (hr : Region.ready .any ops listed = []) (h : K .normal a w) : ∀ fuel, wpE P ops K S fuel listed a w
  | 0 => fun _ => ⟨hr, h⟩
  | _ + 1 => fun _ => ⟨fun _ => h, by rw [hr]; simp⟩
end

/-! Operations out of their runs. -/
section
variable {P : Program} {a : Act} {w w' : World} {o : Oper} {v : Value}
theorem exec_fieldAddr {s : TypeId} {x : Operand} {k : Nat} {u : Value} (ho : o.op = .fieldAddr s x k) (hx : a.eval x = u) (hr : (Instr.fieldAt s u k).run P w = .ok v w') : (execOp a.eval o).run P w = .ok (.value v) w' := by
  unfold execOp; rw [ho]; simp only [hx, Sem.run_bind, hr, Result.andThen_ok, Sem.run_pure]
theorem exec_lookup {t : TypeId} {x y : Operand} {m k : Value} {ok : Bool} (ho : o.op = .lookup t x y ok) (hx : a.eval x = m) (hy : a.eval y = k) (hr : (Instr.lookup t m k ok).run P w = .ok v w') : (execOp a.eval o).run P w = .ok (.value v) w' := by
  unfold execOp; rw [ho]; simp only [hx, hy, Sem.run_bind, hr, Result.andThen_ok, Sem.run_pure]
theorem exec_buildSlice {t : TypeId} {n : Nat} {ps : Array (Nat × Operand)} {vs : Array (Nat × Value)} (ho : o.op = .buildSlice t n ps) (hp : ps.map (fun p => (p.1, a.eval p.2)) = vs) (hr : (Instr.buildSlice t n vs).run P w = .ok v w') :
    (execOp a.eval o).run P w = .ok (.value v) w' := by
  unfold execOp; rw [ho]; simp only [hp, Sem.run_bind, hr, Result.andThen_ok, Sem.run_pure]
theorem exec_buildSlice1 {t : TypeId} {n i : Nat} {x : Operand} {u : Value} (ho : o.op = .buildSlice t n #[(i, x)]) (hx : a.eval x = u) (hr : (Instr.buildSlice t n #[(i, u)]).run P w = .ok v w') :
    (execOp a.eval o).run P w = .ok (.value v) w' := exec_buildSlice ho (by simp [hx]) hr
theorem exec_append {x y : Operand} {t u : TypeId} {vx vy : Value} (ho : o.op = .call { callee := .builtin .append, args := #[x, y], argTypes := #[t, u] }) (hx : a.eval x = vx) (hy : a.eval y = vy)
    (hr : (Builtin.append_ #[t, u] o.type #[vx, vy]).run P w = .ok v w') : (execOp a.eval o).run P w = .ok (.value v) w' := by
  unfold execOp
  simp only [ho, resolve, invoke, builtin, Sem.run_bind, Sem.run_pure, Result.andThen_ok, List.map_toArray, List.map_cons, List.map_nil, hx, hy, hr]
theorem wpList_append {ops : Array Oper} {rest : List Oper} {Q : Exit → Act → World → Prop} {x y : Operand} {t u : TypeId} {vx vy : Value} (hg : o.guard = none) (ho : o.op = .call { callee := .builtin .append, args := #[x, y], argTypes := #[t, u] }) (hx : a.eval x = vx) (hy : a.eval y = vy)
    (hr : (Builtin.append_ #[t, u] o.type #[vx, vy]).run P w = .ok v w') (h : wpList P ops Q rest (a.put o.dst v) w') : wpList P ops Q (o :: rest) a w := wpList_run hg (exec_append ho hx hy hr) h
theorem exec_mapUpdate {t : TypeId} {x y z : Operand} {m k u : Value} (ho : o.op = .mapUpdate t x y z) (hx : a.eval x = m) (hy : a.eval y = k) (hz : a.eval z = u) (hr : (Instr.mapUpdate t m k u).run P w = .ok () w') :
    (execOp a.eval o).run P w = .ok .skip w' := by
  unfold execOp; rw [ho]; simp only [hx, hy, hz, Sem.run_bind, hr, Result.andThen_ok, Sem.run_pure]
theorem run_load1 {ty : TypeId} {d : TypeDesc} {ad : Addr} (hu : P.underlying ty = some d) (hd : (match d with | .struct _ | .array _ _ => true | _ => false) = false) (hc : w.cell? ad = some v) : (loadVar ty ad).run P w = .ok v w := by
  have h : (isAgg ty).run P w = .ok false w := by
    unfold isAgg
    simp only [Sem.run_bind, run_underlying hu, Result.andThen_ok]
    cases d <;> first | rfl | cases hd
  unfold loadVar
  simp only [Sem.run_bind, h, Result.andThen_ok]
  simp [load, Sem.run, hc]
end
end Go.Proofs.YtnkaegdnjfpliaaGreatDoor
