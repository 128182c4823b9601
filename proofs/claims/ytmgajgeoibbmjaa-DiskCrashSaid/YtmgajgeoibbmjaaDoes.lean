/- What is refused by a disk; the law's below; a step on a disk and the document's. Printed by gen_does.py. -/
import Derived.Test.YtmgajgeoibbmjaaRf
namespace Go.Proofs.Ytmgajgeoibbmjaa
open Go.RowKit

section
variable {w : World} {F : Nat → Prop} {a : Nat} {d : DM}
set_option maxRecDepth 100000 in
set_option maxHeartbeats 1000000 in
theorem write_arg (h : Disk w F a d) (at_ : Int) (p : Option Addr) (n c : Nat) (hl : n % 512 ≠ 0) (hn : n ≤ 1000000) : Calls Try.prog 16 #[.pointer (some ⟨a, 0, none⟩), .int .i64 at_, .slice p n c] w fun e w' => e = .returned (.int .i64 2) ∧ Below w.heap.size w w' := by
  have hb : Below w.heap.size w (w.alloc (.cells #[.pointer (some ⟨a, 0, none⟩)] 25)) := (Below.refl _ _).alloc (Nat.le_refl _) _
  have Hn := Lib.hid (none_disk (h.below hb))
  have Hb := Lib.hid hb
  have c1 : ((((n : Int) % 512)) != 0) = true := by rw [bne_iff_ne]; omega
  have c2 : ((((n : Int) % 512)) == 0) = false := by rw [beq_eq_false_iff_ne]; omega
  clear h hb hl
  go_enter Try.func16, Try.ntmps16
  go_wp2_with (go_at_call 28; refine Hn.out.mono ?_; rintro e w' ⟨rfl, rfl⟩)
  go_ret
  exact ⟨rfl, Hb.out⟩
set_option maxRecDepth 100000 in
set_option maxHeartbeats 1000000 in
theorem write_range (h : Disk w F a d) (at_ : Int) (p : Option Addr) (n c m : Nat) (hl : n = 512 * m) (hn : n ≤ 1000000) (hbad : at_ < 0 ∨ (d.size : Int) < at_ + m) : Calls Try.prog 16 #[.pointer (some ⟨a, 0, none⟩), .int .i64 at_, .slice p n c] w fun e w' => e = .returned (.int .i64 4) ∧ Below w.heap.size w w' := by
  have hb : Below w.heap.size w (w.alloc (.cells #[.pointer (some ⟨a, 0, none⟩)] 25)) := (Below.refl _ _).alloc (Nat.le_refl _) _
  have Hn := Lib.hid (none_disk (h.below hb))
  have Hb := Lib.hid hb
  have hsz : (d.size : Int) ≤ 65536 := by have := h.1.most; omega
  have hc0 := h.c0
  have c0 : (w.alloc (.cells #[.pointer (some ⟨a, 0, none⟩)] 25)).cell? ⟨a, 0, none⟩ = some (.int .i64 (d.size : Int)) := belowCell hb (ltOf hc0) hc0
  have key : at_ < 0 ∨ (¬ at_ < 0 ∧ at_ > (d.size : Int)) ∨ (¬ at_ < 0 ∧ ¬ at_ > (d.size : Int) ∧ (m : Int) > (d.size : Int) - at_) := by omega
  have hmm : (m : Int) ≤ 1000000 := by omega
  subst hl
  clear h hb hbad hc0
  rcases key with h1 | ⟨h1, h2⟩ | ⟨h1, h2, h3⟩
  all_goals
    go_enter Try.func16, Try.ntmps16
    go_wp2_with (go_at_call 28; refine Hn.out.mono ?_; rintro e w' ⟨rfl, rfl⟩)
    go_ret
    exact ⟨rfl, Hb.out⟩
set_option maxRecDepth 100000 in
set_option maxHeartbeats 1000000 in
theorem read_no (h : Disk w F a d) (at_ n : Int) (hbad : at_ < 0 ∨ n < 0 ∨ (d.size : Int) < at_ ∨ (d.size : Int) - at_ < n) : Calls Try.prog 12 #[.pointer (some ⟨a, 0, none⟩), .int .i64 at_, .int .i64 n] w fun e w' => e = .returned (.tuple #[.slice none 0 0, .int .i64 4]) ∧ Below w.heap.size w w' := by
  have hb : Below w.heap.size w (w.alloc (.cells #[.pointer (some ⟨a, 0, none⟩)] 25)) := (Below.refl _ _).alloc (Nat.le_refl _) _
  have Hn := Lib.hid (none_disk (h.below hb))
  have Hn0 := Lib.hid (none_disk h)
  have Hb := Lib.hid hb
  have hsz : (d.size : Int) ≤ 65536 := by have := h.1.most; omega
  have hc0 := h.c0
  have c0 : (w.alloc (.cells #[.pointer (some ⟨a, 0, none⟩)] 25)).cell? ⟨a, 0, none⟩ = some (.int .i64 (d.size : Int)) := belowCell hb (ltOf hc0) hc0
  have key : at_ < 0 ∨ (¬ at_ < 0 ∧ n < 0) ∨ (¬ at_ < 0 ∧ ¬ n < 0 ∧ at_ > (d.size : Int)) ∨ (¬ at_ < 0 ∧ ¬ n < 0 ∧ ¬ at_ > (d.size : Int) ∧ n > (d.size : Int) - at_) := by omega
  clear h hb hbad
  rcases key with h1 | ⟨h1, h2⟩ | ⟨h1, h2, h3⟩ | ⟨h1, h2, h3, h4⟩
  all_goals
    go_enter Try.func12, Try.ntmps12
    go_wp2_with (first
      | (go_at_call 28; refine Hn.out.mono ?_; rintro e w' ⟨rfl, rfl⟩)
      | (go_at_call 28; refine Hn0.out.mono ?_; rintro e w' ⟨rfl, rfl⟩))
    go_ret2
    first
      | exact ⟨rfl, Hb.out⟩
      | exact ⟨rfl, Below.refl _ _⟩
theorem fail_neg (h : Disk w F a d) (p : Option Addr) (n c : Nat) (l : List Int) (hrd : RdI w (.slice p n c) l) (hlen : l.length ≤ 1000000) (hneg : anyNeg l = true) : Calls Try.prog 20 #[.pointer (some ⟨a, 0, none⟩), .slice p n c] w fun e w' => e = .returned (.int .i64 2) ∧ w = w' := by
  have Hn := Lib.hid (none_disk h)
  have hc0 := contains_neg 46 (.inr rfl) p n c l w hrd hlen
  rw [hneg] at hc0
  have Hc := Lib.hid hc0
  clear h hc0 hrd hneg
  go_enter Try.func20, Try.ntmps20
  go_wp2_with (first
    | (go_at_call 28; refine Hn.out.mono ?_; rintro e w' ⟨rfl, rfl⟩)
    | (go_at_call 29; refine Hc.out.mono ?_; rintro e w' ⟨rfl, rfl⟩))
  go_ret
  exact ⟨rfl, rfl⟩
end

set_option maxRecDepth 100000 in
set_option maxHeartbeats 1000000 in
theorem below_any {w : World} (p : Option Addr) (n c : Nat) (l : List Int) (hrd : RdI w (.slice p n c) l) (hlen : l.length ≤ 1000000) : Calls Try.prog 27 #[.slice p n c] w fun e w' => e = .returned (.bool (anyNeg l)) ∧ w = w' := by
  obtain ⟨_, _, heq, hnil, hcell⟩ := hrd
  cases heq
  have HX := Lib.hid (And.intro hnil hcell)
  have hlen2 : (l.length : Int) ≤ 1000000 := by omega
  clear hnil hcell
  go_enter Try.func27, Try.ntmps27
  go_wp2
  go_loop [3] (fun i => ∃ k : Nat, k ≤ l.length ∧ i = .int .i64 (k : Int) ∧ anyNeg (l.take k) = false) (fun i => l.length - (intOf i).toNat)
  case atStart => exact ⟨0, Nat.zero_le _, rfl, rfl⟩
  case round =>
    obtain ⟨k, hk, rfl, hno⟩ := hrel
    by_cases hlt : k < l.length
    · have hlt2 : k + 1 ≤ l.length := hlt
      obtain ⟨ad, rfl⟩ : ∃ ad, p = some ad := by
        cases p with
        | none => have := HX.out.1 rfl; subst this; simp at hlt
        | some ad => exact ⟨ad, rfl⟩
      obtain ⟨hspot, hcs⟩ := HX.out.2 ad rfl
      obtain ⟨ab, ao, asp⟩ := ad
      have hspot := hspot (fun e => by rw [e] at hlt; simp at hlt)
      simp only at hspot
      subst hspot
      have hc : w.cell? ⟨ab, ao + k, none⟩ = some (.int .i64 l[k]) := hcs k l[k] (by simp [hlt])
      have htk : anyNeg (l.take (k + 1)) = (anyNeg (l.take k) || decide (l[k] < 0)) := by
        unfold anyNeg
        rw [List.take_succ_eq_append_getElem hlt, List.any_append]; simp
      have hin : decide (l[k] < 0) = true → anyNeg l = true := fun h => List.any_eq_true.2 ⟨_, List.getElem_mem hlt, h⟩
      generalize l[k] = x at *
      by_cases hx : x < 0
      · have e : anyNeg l = true := hin (by simpa using hx)
        have He := Lib.hid e
        clear htk hin hno e hcs
        go_wp2
        go_ret
        exact ⟨ret_bool He.out.symm, rfl⟩
      · have e : anyNeg (l.take (k + 1)) = false := by rw [htk, hno]; simpa using hx
        have He := Lib.hid e
        clear htk hin hno e hcs
        go_wp2
        go_round
        case rel => exact ⟨k + 1, by omega, by go_num, He.out⟩
        case measure => simp [intOf]; omega
    · have e : anyNeg l = false := by rw [← hno, List.take_of_length_le (by omega)]
      have He := Lib.hid e
      clear hno e
      go_wp2
      go_ret
      exact ⟨ret_bool He.out.symm, rfl⟩

theorem put_ints {w : World} {ad : Addr} {p : Option Addr} {n c : Nat} {u : Value} (hc : w.cell? ad = some u) (hf : w.frozen? ad = false) : (storeVar 31 ad (.slice p n c)).run Try.prog w = .ok () (w.setCell ad (.slice p n c)) := by
  simp [storeVar, go_sem, hc, hf]
/-- Numbers are put behind numbers. -/
theorem append_ints {w : World} {X : Value} {F ks : List Int} (hown : w.ownsRow 0 3 1 X F.length (F.map (.int .i64))) (q : Option Addr) (m c : Nat) (hrd : RdI w (.slice q m c) ks) (hmc : q = none → c = 0) (hn : F.length + ks.length ≤ 1000000) (ty : TypeId) :
    ∃ p' n' c' w', (Builtin.append_ #[31, 31] ty #[X, .slice q m c]).run Try.prog w = .ok (.slice p' n' c') w' ∧ w'.ownsRow 0 3 1 (.slice p' n' c') (F ++ ks).length ((F ++ ks).map (.int .i64)) ∧ Touch (fun b => X.ownBlock = some b) w w' ∧ ∀ g, (Value.slice p' n' c').ownBlock = some g → X.ownBlock = some g ∨ w.heap.size ≤ g := by
  obtain ⟨i, i1, i2, i3, i4⟩ := info_int
  obtain ⟨_, _, heq, h1, h2⟩ := hrd
  cases heq
  have shape : ∀ {W : World} {v : Value} {n : Nat} {xs : List Value}, W.ownsRow 0 3 1 v n xs → ∃ p' n' c', v = .slice p' n' c' := by
    intro W v n xs h
    rcases h.2 with ⟨h, _⟩ | ⟨g, cap, cur, h, _⟩
    · exact ⟨_, _, _, h⟩
    · exact ⟨_, _, _, h⟩
  cases q with
  | none =>
    have hk : ks = [] := h1 rfl
    have hc : c = 0 := hmc rfl
    subst hk; subst hc
    obtain ⟨p', n', c', rfl⟩ := shape hown
    exact ⟨p', n', c', w, append_law_nil 31 ty 3 i 1 Try.underlying31 i1 i3 _ F.length _ hown, by rw [List.append_nil]; exact hown, Touch.refl _ _, fun g hg => .inl hg⟩
  | some ad =>
    obtain ⟨hs, hcell⟩ := h2 ad rfl
    obtain ⟨v', w', a1, a2, a3, a4, a5⟩ := append_law (P := Try.prog) 31 ty 3 i _ 1 8 Try.underlying31 i1 i2 i3 i4 rfl X F.length _ hown ad ks.length c (ks.map (.int .i64)) (by simp) (by
      intro j u hu
      rw [List.getElem?_map, Option.map_eq_some_iff] at hu
      obtain ⟨k, hk, rfl⟩ := hu
      have hsp := hs (fun e => by rw [e] at hk; simp at hk)
      obtain ⟨b, o, sp⟩ := ad
      simp only at hsp
      subst hsp
      rw [addr_add]; exact hcell j k hk) (by intro u hu; simp only [List.mem_map] at hu; obtain ⟨k, _, rfl⟩ := hu; rfl) (by unfold maxLen; omega) (by omega)
    obtain ⟨p', n', c', rfl⟩ := shape a2
    refine ⟨p', n', c', w', a1, by rw [List.length_append, List.map_append]; exact a2, a3, fun g hg => ?_⟩
    rcases a4 with e | e
    · exact .inl (by rw [← e]; exact hg)
    · right; rw [e] at hg; simp at hg; omega
/-- More steps fail. -/
theorem RefAt.putX {w W2 : World} {R : Nat → Prop} {r : Nat} {d : DM} {F ks : List Int} {X : Value} {L cL S cS Q cQ : Nat} {qs : List Value} (h : RefAt w R r d F X L cL S cS Q cQ qs) (hT : Touch (fun b => X.ownBlock = some b) w W2) (p : Option Addr) (n c : Nat)
    (hown : W2.ownsRow 0 3 1 (.slice p n c) (F ++ ks).length ((F ++ ks).map (.int .i64))) (hg : ∀ g, (Value.slice p n c).ownBlock = some g → X.ownBlock = some g ∨ w.heap.size ≤ g) :
    RefAt (W2.setCell ⟨r, 3, none⟩ (.slice p n c)) (fun b => R b ∨ w.heap.size ≤ b) r (d.failL ks) (F ++ ks) (.slice p n c) L cL S cS Q cQ qs := by
  have hn := h.nodup
  simp only [List.nodup_cons, List.mem_cons, List.not_mem_nil, or_false, not_or] at hn
  have hX : ∀ b, b ∈ [r, L, S, Q] → X.ownBlock ≠ some b := fun b hb e => (h.far b e).2 hb
  have ho : ∀ b, b ≠ r → (W2.setCell ⟨r, 3, none⟩ (.slice p n c)).heap[b]? = W2.heap[b]? := fun b hb => Below.heap_setCell W2 ⟨r, 3, none⟩ _ b hb
  have hne : ∀ b, b ∉ [r, L, S, Q] → b ≠ r := fun b hb e => hb (by simp [e])
  have hbig : ∀ b, w.heap.size ≤ b → b ∉ [r, L, S, Q] := fun b hb => by
    have a1 := h.lt
    have a2 := h.lasting.lt
    have a3 := h.seen.lt
    have a4 := h.since.lt
    simp only [List.mem_cons, List.not_mem_nil, or_false, not_or]
    omega
  have hout : ∀ b, (Value.slice p n c).ownBlock = some b → (R b ∨ w.heap.size ≤ b) ∧ b ∉ [r, L, S, Q] := fun b hb => by
    rcases hg b hb with e | e
    · exact ⟨.inl (h.far b e).1, (h.far b e).2⟩
    · exact ⟨.inr e, hbig b e⟩
  obtain ⟨s1, s2, s3, s4, s5⟩ := failL_size d ks
  refine ⟨?_, ?_, ?_, ?_, by rw [h.len, s1], fun i q hq => ?_, ownsRow_heap hown fun b hb => ho b (hne b (hout b hb).2), hout, h.nodup, fun b hb => .inl (h.foot b hb), fun k => ?_⟩
  · have hb : W2.heap[r]? = _ := hT.heap h.box (hX r (by simp))
    rw [heap_setCell_same W2 r 3 _ _ _ hb, s1, s2]; rfl
  · rw [s1, s3]; exact (h.lasting.touch hT (hX L (by simp))).of_heap (ho L fun e => hn.1.1 e.symm)
  · rw [s1, s4]; exact (h.seen.touch hT (hX S (by simp))).of_heap (ho S fun e => hn.1.2.1 e.symm)
  · exact (h.since.touch hT (hX Q (by simp))).of_heap (ho Q fun e => hn.1.2.2 e.symm)
  · obtain ⟨q1, q2⟩ := h.each i q hq
    rw [s5]
    refine ⟨ownsRow_heap (ownsRow_heap q1 fun b hb => hT.block b (q1.lt b hb).2 ((q2 b hb).2.2)) fun b hb => ho b (hne b (q2 b hb).2.1), fun b hb => ⟨.inl (q2 b hb).1, (q2 b hb).2.1, fun e => ?_⟩⟩
    rcases hg b e with e1 | e1
    · exact (q2 b hb).2.2 e1
    · have := (q1.lt b hb).2; omega
  · rw [failL_some, h.agree, List.contains_append]

theorem RefAt.cap {w : World} {R : Nat → Prop} {r : Nat} {d : DM} {F : List Int} {X : Value} {L cL S cS Q cQ : Nat} {qs : List Value} (h : RefAt w R r d F X L cL S cS Q cQ qs) : RefAt w (fun b => R b ∧ b < w.heap.size) r d F X L cL S cS Q cQ qs :=
  ⟨h.box, h.lasting, h.seen, h.since, h.len, fun i q hq => ⟨(h.each i q hq).1, fun b hb => ⟨⟨((h.each i q hq).2 b hb).1, ((h.each i q hq).1.lt b hb).2⟩, ((h.each i q hq).2 b hb).2⟩⟩, h.fails, fun b hb => ⟨⟨(h.far b hb).1, (h.fails.lt b hb).2⟩, (h.far b hb).2⟩, h.nodup, fun b hb => ⟨h.foot b hb, by
    simp only [List.mem_cons, List.not_mem_nil, or_false] at hb
    rcases hb with rfl | rfl | rfl | rfl
    · exact h.lt
    · exact h.lasting.lt
    · exact h.seen.lt
    · exact h.since.lt⟩, h.agree⟩

/-- A disk of ours and the document's, alike; their blocks are of G. -/
structure Pair (w : World) (a r : Nat) (d : DM) (F : List Int) (N : Nat) (G : Nat → Prop) : Prop where
  ex : ∃ F1 R1, Disk w F1 a d ∧ Ref w R1 r d F ∧ (∀ x, F1 x → ¬ R1 x) ∧ ∀ x, F1 x ∨ R1 x → G x
  lt : ∀ x, G x → x < w.heap.size
  fb : FailB d N
/-- What they are behind a step. -/
def Nxt (w w' : World) (a r : Nat) (d : DM) (F : List Int) (N : Nat) (G : Nat → Prop) (n : Nat) : Prop :=
  ∃ d' F' G', Pair w' a r d' F' (N + n) G' ∧ (∀ x, G' x → G x ∨ w.heap.size ≤ x) ∧ d'.size = d.size ∧ d'.steps ≤ d.steps + 1 ∧ F'.length ≤ F.length + n ∧ Touch G w w'
section
variable {w w1 w2 w3 : World} {a r : Nat} {d d' : DM} {F F' : List Int} {N n : Nat} {G : Nat → Prop}
theorem Pair.below (h : Pair w a r d F N G) (g : Below w.heap.size w w1) : Pair w1 a r d F N G := by
  obtain ⟨F1, R1, h1, ⟨X, L, cL, S, cS, Q, cQ, qs, h2⟩, h3, h4⟩ := h.ex
  exact ⟨⟨F1, R1, h1.below g, ⟨X, L, cL, S, cS, Q, cQ, qs, h2.below g⟩, h3, h4⟩, fun x hx => Nat.lt_of_lt_of_le (h.lt x hx) g.size, h.fb⟩
theorem Pair.touch {T : Nat → Prop} (h : Pair w a r d F N G) (g : Touch T w w1) (hs : ∀ x, G x → ¬ T x) : Pair w1 a r d F N G := by
  obtain ⟨F1, R1, h1, h2, h3, h4⟩ := h.ex
  exact ⟨⟨F1, R1, h1.touch g fun b hb => hs b (h4 b (.inl hb)), h2.touch g fun b hb => hs b (h4 b (.inr hb)), h3, h4⟩, fun x hx => Nat.lt_of_lt_of_le (h.lt x hx) g.size, h.fb⟩
/-- Nothing has come of it. -/
theorem Pair.same (h : Pair w a r d F N G) (g : Touch G w w1) (h1 : Pair w1 a r d F N G) : Nxt w w1 a r d F N G n :=
  ⟨d, F, G, ⟨h1.ex, h1.lt, h1.fb.mono (by omega)⟩, fun x hx => .inl hx, rfl, by omega, by omega, g⟩
/-- Ours has gone a step, then the document's. -/
theorem Pair.both (h : Pair w a r d F N G) {F1 R1 F1' : Nat → Prop} (hg : ∀ x, F1 x ∨ R1 x → G x) (hd : ∀ x, F1 x → ¬ R1 x) (h1 : Disk w2 F1' a d') (k1 : Touch F1 w w2) (hf : ∀ x, F1' x → F1 x ∨ w.heap.size ≤ x)
    (h2 : Ref w3 (fun b => R1 b ∨ w2.heap.size ≤ b) r d' F') (k2 : Touch R1 w2 w3) (hs : d'.size = d.size) (hst : d'.steps ≤ d.steps + 1) (hF : F'.length ≤ F.length + n) (hB : FailB d' (N + n)) : Nxt w w3 a r d F N G n := by
  have c1 := h1.cap
  obtain ⟨X, L, cL, S, cS, Q, cQ, qs, h2⟩ := h2
  have hno : ∀ b, F1' b ∧ b < w2.heap.size → ¬ R1 b := fun b hb hr => by
    rcases hf b hb.1 with e | e
    · exact hd b e hr
    · have := h.lt b (hg b (.inr hr)); omega
  have hsz := k1.size
  refine ⟨d', F', fun x => (F1' x ∧ x < w2.heap.size) ∨ ((R1 x ∨ w2.heap.size ≤ x) ∧ x < w3.heap.size), ⟨⟨_, _, c1.touch k2 hno, ⟨X, L, cL, S, cS, Q, cQ, qs, h2.cap⟩, ?_, fun x hx => hx⟩, ?_, hB⟩, ?_, hs, hst, hF, ?_⟩
  · rintro x hx ⟨h3 | h3, _⟩
    · exact hno x hx h3
    · have := hx.2; omega
  · rintro x (hx | hx)
    · exact Nat.lt_of_lt_of_le hx.2 k2.size
    · exact hx.2
  · rintro x (hx | ⟨hx | hx, _⟩)
    · rcases hf x hx.1 with e | e
      · exact .inl (hg x (.inl e))
      · exact .inr e
    · exact .inl (hg x (.inr hx))
    · right; omega
  · exact (k1.mono fun b _ hb => hg b (.inl hb)).step k2 fun b _ hb => hg b (.inr hb)

/-- Both are written. -/
theorem Pair.write (h : Pair w a r d F N G) (hst : d.steps ≤ 100000) (hF : F.length ≤ 1000000) (at_ : Int) (p : Option Addr) (m c : Nat) (l : List UInt8) (hrd : RdB w (.slice p m c) l) (hlen : l.length ≤ 1000000) (hoff : l ≠ [] → ∀ g, (Value.slice p m c).ownBlock = some g → ¬ G g) :
    ∃ code : Int, Calls Try.prog 16 #[.pointer (some ⟨a, 0, none⟩), .int .i64 at_, .slice p m c] w fun e w2 => e = .returned (.int .i64 code) ∧ Touch G w w2 ∧
      Calls Try.prog 24 #[.pointer (some ⟨r, 0, none⟩), .int .i64 at_, .string (strB l)] w2 fun e w3 => e = .returned (.int .i64 code) ∧ Nxt w w3 a r d F N G n := by
  have hm : m = l.length := by obtain ⟨_, _, e, _⟩ := hrd; cases e; rfl
  obtain ⟨F1, R1, h1, h2, h3, h4⟩ := h.ex
  have hsz := h1.1.most
  by_cases e1 : l.length % 512 ≠ 0
  · refine ⟨2, (write_arg h1 at_ p m c (by rw [hm]; exact e1) (by omega)).mono ?_⟩
    rintro e w2 ⟨rfl, hb⟩
    have hT : Touch G w w2 := Touch.of_below hb fun b x y => by omega
    refine ⟨rfl, hT, (ref_write_arg at_ _ l e1).mono ?_⟩
    rintro e w3 ⟨rfl, rfl⟩
    exact ⟨rfl, h.same hT (h.below hb)⟩
  · obtain ⟨k, hk⟩ : ∃ k, l.length = 512 * k := ⟨l.length / 512, by omega⟩
    by_cases e2 : at_ < 0 ∨ (d.size : Int) < at_ + k
    · refine ⟨4, (write_range h1 at_ p m c k (by omega) (by omega) e2).mono ?_⟩
      rintro e w2 ⟨rfl, hb⟩
      have hT : Touch G w w2 := Touch.of_below hb fun b x y => by omega
      obtain ⟨_, _, _, ⟨X, L, cL, S, cS, Q, cQ, qs, j2⟩, _⟩ := (h.below hb).ex
      refine ⟨rfl, hT, (ref_write_range j2 (by omega) at_ l k hk hlen e2).mono ?_⟩
      rintro e w3 ⟨rfl, rfl⟩
      exact ⟨rfl, h.same hT (h.below hb)⟩
    · obtain ⟨i, rfl⟩ : ∃ i : Nat, at_ = (i : Int) := ⟨at_.toNat, by omega⟩
      refine ⟨(if d.failing then 300 else 0), (write_ok h1 (fun b hb => h.lt b (h4 b (.inl hb))) (by omega) p m c l hrd (fun hl0 g hg hb => hoff hl0 g hg (h4 g (.inl hb))) i k hk (by omega)).mono ?_⟩
      rintro e w2 ⟨rfl, k1, k2⟩
      obtain ⟨X, L, cL, S, cS, Q, cQ, qs, j2⟩ := h2
      have j2' := j2.touch k2 (fun b hb hb2 => h3 b hb2 hb)
      refine ⟨rfl, k2.mono fun b _ hb => h4 b (.inl hb), (ref_write j2' (fun b hb => Nat.lt_of_lt_of_le (h.lt b (h4 b (.inr hb))) k2.size) h1.1 h.fb hst hF i k l hk (by omega)).mono ?_⟩
      rintro e w3 ⟨rfl, q1, q2⟩
      exact ⟨rfl, h.both h4 h3 k1 k2 (fun x hx => hx) q1 q2 rfl (Nat.le_refl _) (by omega) (fun j v hv => by have := h.fb j v hv; omega)⟩
/-- Both are flushed. -/
theorem Pair.flush (h : Pair w a r d F N G) (hst : d.steps ≤ 100000) (hF : F.length ≤ 1000000) :
    ∃ code : Int, Calls Try.prog 19 #[.pointer (some ⟨a, 0, none⟩)] w fun e w2 => e = .returned (.int .i64 code) ∧ Touch G w w2 ∧
      Calls Try.prog 26 #[.pointer (some ⟨r, 0, none⟩)] w2 fun e w3 => e = .returned (.int .i64 code) ∧ Nxt w w3 a r d F N G n := by
  obtain ⟨F1, R1, h1, h2, h3, h4⟩ := h.ex
  refine ⟨(if d.failing then 300 else 0), (flush_ok h1 (by omega)).mono ?_⟩
  rintro e w2 ⟨rfl, k1, k2⟩
  obtain ⟨X, L, cL, S, cS, Q, cQ, qs, j2⟩ := h2
  have j2' := j2.touch k2 (fun b hb hb2 => h3 b hb2 hb)
  refine ⟨rfl, k2.mono fun b _ hb => h4 b (.inl hb), (ref_flush j2' h1.1 h.fb hst hF).mono ?_⟩
  rintro e w3 ⟨rfl, q1, q2⟩
  refine ⟨rfl, h.both h4 h3 (d' := d.flush.1) k1 k2 (fun x hx => hx) (q1.mono fun b hb => .inl hb) q2 ?_ ?_ (by omega) ?_⟩
  · unfold DM.flush; cases d.failing <;> rfl
  · unfold DM.flush; cases d.failing <;> exact Nat.le_refl _
  · have e : d.flush.1.fails = d.fails := by unfold DM.flush; cases d.failing <;> rfl
    intro j v hv
    rw [e] at hv
    have := h.fb j v hv
    omega
/-- Both are read. -/
theorem Pair.read (h : Pair w a r d F N G) (at_ m : Int) :
    ∃ (l : List UInt8) (code : Int), Calls Try.prog 12 #[.pointer (some ⟨a, 0, none⟩), .int .i64 at_, .int .i64 m] w fun e w2 => ∃ p c, e = .returned (.tuple #[.slice p l.length c, .int .i64 code]) ∧ RdB w2 (.slice p l.length c) l ∧ Below w.heap.size w w2 ∧
      Calls Try.prog 25 #[.pointer (some ⟨r, 0, none⟩), .int .i64 at_, .int .i64 m] w2 fun e w3 => e = .returned (.tuple #[.string (strB l), .int .i64 code]) ∧ w2 = w3 := by
  obtain ⟨F1, R1, h1, h2, h3, h4⟩ := h.ex
  have hsz := h1.1.most
  by_cases e2 : at_ < 0 ∨ m < 0 ∨ (d.size : Int) < at_ ∨ (d.size : Int) - at_ < m
  · refine ⟨[], 4, (read_no h1 at_ m e2).mono ?_⟩
    rintro e w2 ⟨rfl, hb⟩
    obtain ⟨_, _, _, ⟨X, L, cL, S, cS, Q, cQ, qs, j2⟩, _⟩ := (h.below hb).ex
    exact ⟨none, 0, rfl, (OwnB.nil w2).rd, hb, ref_read_no j2 (by omega) at_ m e2⟩
  · obtain ⟨i, rfl⟩ : ∃ i : Nat, at_ = (i : Int) := ⟨at_.toNat, by omega⟩
    obtain ⟨j, rfl⟩ : ∃ j : Nat, m = (j : Int) := ⟨m.toNat, by omega⟩
    refine ⟨readB d i j, 0, (read_ok h1 i j (by omega)).mono ?_⟩
    rintro e w2 ⟨v, rfl, hown, hb, _⟩
    obtain ⟨p, c, rfl⟩ := hown.shape
    obtain ⟨_, _, _, ⟨X, L, cL, S, cS, Q, cQ, qs, j2⟩, _⟩ := (h.below hb).ex
    exact ⟨p, c, rfl, hown.rd, hb, ref_read j2 h1.1 (by omega) i j (by omega)⟩
end
end Go.Proofs.Ytmgajgeoibbmjaa
