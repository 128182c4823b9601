/- DiskSame's walk. Printed by gen_dsame.py. -/
import Derived.Test.YtmgajgeoibbmjaaDsame
namespace Go.Proofs.Ytmgajgeoibbmjaa
open Go.RowKit

theorem RowAt.below {w w' : World} {b c : Nat} {e : TypeId} {xs : List Value} (h : RowAt w b c e xs) (g : Below w.heap.size w w') : RowAt w' b c e xs := h.of_heap (g.block b h.lt)
/-- Both pairs as they begin. -/
theorem two_start {w w1 w2 w3 w4 : World} {n a b L cL S cS Q cQ L' cL' S' cS' Q' cQ' : Nat} (h1 : Dd w w1 a (DM.new n)) (b1 : Below w.heap.size w w1) (h2 : Dd w1 w2 b (DM.new n)) (b2 : Below w1.heap.size w1 w2)
    (h3 : RowAt w3 L cL 9 (List.replicate n (strV zblk)) ∧ RowAt w3 S cS 9 (List.replicate n (strV zblk)) ∧ RowAt w3 Q cQ 29 (List.replicate n (.slice none 0 0)) ∧ [L, S, Q].Nodup ∧ ∀ x ∈ [L, S, Q], w2.heap.size ≤ x) (b3 : Below w2.heap.size w2 w3)
    (h4 : RowAt w4 L' cL' 9 (List.replicate n (strV zblk)) ∧ RowAt w4 S' cS' 9 (List.replicate n (strV zblk)) ∧ RowAt w4 Q' cQ' 29 (List.replicate n (.slice none 0 0)) ∧ [L', S', Q'].Nodup ∧ ∀ x ∈ [L', S', Q'], w3.heap.size ≤ x) (b4 : Below w3.heap.size w3 w4) :
    TwoI w ((w4.alloc (.cells #[.slice (some ⟨L, 0, none⟩) n cL, .slice (some ⟨S, 0, none⟩) n cS, .slice (some ⟨Q, 0, none⟩) n cQ, .slice none 0 0, .int .i64 0] 33)).alloc (.cells #[.slice (some ⟨L', 0, none⟩) n cL', .slice (some ⟨S', 0, none⟩) n cS', .slice (some ⟨Q', 0, none⟩) n cQ', .slice none 0 0, .int .i64 0] 33)) n 0 0 a b w4.heap.size (w4.heap.size + 1) := by
  obtain ⟨⟨F1, d1, f1⟩, _⟩ := h1
  obtain ⟨⟨F2, d2, f2⟩, _⟩ := h2
  obtain ⟨p1, p2, p3, p4, p5⟩ := h3
  obtain ⟨q1, q2, q3, q4, q5⟩ := h4
  have z1 := b1.size
  have z2 := b2.size
  have z3 := b3.size
  have z4 := b4.size
  have l1 := p1.lt
  have l2 := p2.lt
  have l3 := p3.lt
  have m1 := q1.lt
  have m2 := q2.lt
  have m3 := q3.lt
  have x1 := p5 L (by simp)
  have x2 := p5 S (by simp)
  have x3 := p5 Q (by simp)
  have y1 := q5 L' (by simp)
  have y2 := q5 S' (by simp)
  have y3 := q5 Q' (by simp)
  have hbox1 : ((w4.alloc (.cells #[.slice (some ⟨L, 0, none⟩) n cL, .slice (some ⟨S, 0, none⟩) n cS, .slice (some ⟨Q, 0, none⟩) n cQ, .slice none 0 0, .int .i64 0] 33)).alloc (.cells #[.slice (some ⟨L', 0, none⟩) n cL', .slice (some ⟨S', 0, none⟩) n cS', .slice (some ⟨Q', 0, none⟩) n cQ', .slice none 0 0, .int .i64 0] 33)).heap[w4.heap.size]? = some (.cells #[.slice (some ⟨L, 0, none⟩) n cL, .slice (some ⟨S, 0, none⟩) n cS, .slice (some ⟨Q, 0, none⟩) n cQ, .slice none 0 0, .int .i64 0] 33 (0, 0)) := by
    simp only [heap_get_alloc, World.size_alloc]; rw [if_neg (by omega), if_pos trivial]
  have hbox2 : ((w4.alloc (.cells #[.slice (some ⟨L, 0, none⟩) n cL, .slice (some ⟨S, 0, none⟩) n cS, .slice (some ⟨Q, 0, none⟩) n cQ, .slice none 0 0, .int .i64 0] 33)).alloc (.cells #[.slice (some ⟨L', 0, none⟩) n cL', .slice (some ⟨S', 0, none⟩) n cS', .slice (some ⟨Q', 0, none⟩) n cQ', .slice none 0 0, .int .i64 0] 33)).heap[w4.heap.size + 1]? = some (.cells #[.slice (some ⟨L', 0, none⟩) n cL', .slice (some ⟨S', 0, none⟩) n cS', .slice (some ⟨Q', 0, none⟩) n cQ', .slice none 0 0, .int .i64 0] 33 (0, 0)) := by
    simp only [heap_get_alloc, World.size_alloc]; rw [if_pos trivial]
  have b5 : Below w4.heap.size w4 ((w4.alloc (.cells #[.slice (some ⟨L, 0, none⟩) n cL, .slice (some ⟨S, 0, none⟩) n cS, .slice (some ⟨Q, 0, none⟩) n cQ, .slice none 0 0, .int .i64 0] 33)).alloc (.cells #[.slice (some ⟨L', 0, none⟩) n cL', .slice (some ⟨S', 0, none⟩) n cS', .slice (some ⟨Q', 0, none⟩) n cQ', .slice none 0 0, .int .i64 0] 33)) := ((Below.refl _ _).alloc (Nat.le_refl _) _).alloc (by simp) _
  have zs : ((w4.alloc (.cells #[.slice (some ⟨L, 0, none⟩) n cL, .slice (some ⟨S, 0, none⟩) n cS, .slice (some ⟨Q, 0, none⟩) n cQ, .slice none 0 0, .int .i64 0] 33)).alloc (.cells #[.slice (some ⟨L', 0, none⟩) n cL', .slice (some ⟨S', 0, none⟩) n cS', .slice (some ⟨Q', 0, none⟩) n cQ', .slice none 0 0, .int .i64 0] 33)).heap.size = w4.heap.size + 2 := by simp
  generalize (w4.alloc (.cells #[.slice (some ⟨L, 0, none⟩) n cL, .slice (some ⟨S, 0, none⟩) n cS, .slice (some ⟨Q, 0, none⟩) n cQ, .slice none 0 0, .int .i64 0] 33)).alloc (.cells #[.slice (some ⟨L', 0, none⟩) n cL', .slice (some ⟨S', 0, none⟩) n cS', .slice (some ⟨Q', 0, none⟩) n cQ', .slice none 0 0, .int .i64 0] 33) = W at *
  have b35 := b4.trans (b5.mono z4)
  have b25 := b3.trans (b35.mono z3)
  have b15 := b2.trans (b25.mono z2)
  have r1 := ref_start hbox1 (p1.below b35) (p2.below b35) (p3.below b35) (by
    simp only [List.nodup_cons, List.mem_cons, List.not_mem_nil, or_false, not_or] at p4 ⊢
    exact ⟨⟨by omega, by omega, by omega⟩, p4⟩)
  have r2 := ref_start hbox2 (q1.below b5) (q2.below b5) (q3.below b5) (by
    simp only [List.nodup_cons, List.mem_cons, List.not_mem_nil, or_false, not_or] at q4 ⊢
    exact ⟨⟨by omega, by omega, by omega⟩, q4⟩)
  refine ⟨DM.new n, DM.new n, [], [], 0, 0, fun x => F1 x ∨ x ∈ [w4.heap.size, L, S, Q], fun x => F2 x ∨ x ∈ [w4.heap.size + 1, L', S', Q'], ⟨⟨F1, _, d1.below b15, ⟨_, _, _, _, _, _, _, _, r1⟩, ?_, fun x hx => hx⟩, ?_, FailB.none fun _ => rfl⟩, ⟨⟨F2, _, d2.below b25, ⟨_, _, _, _, _, _, _, _, r2⟩, ?_, fun x hx => hx⟩, ?_, FailB.none fun _ => rfl⟩, ?_, ?_, rfl, rfl, Nat.le_refl _, Nat.le_refl _, Nat.le_refl _, Nat.le_refl _, Nat.le_refl _, Nat.le_refl _, b1.trans (b15.mono z1)⟩
  · intro x hx hr
    have := f1 x hx
    simp only [List.mem_cons, List.not_mem_nil, or_false] at hr
    omega
  · rintro x (hx | hr)
    · have := f1 x hx; omega
    · simp only [List.mem_cons, List.not_mem_nil, or_false] at hr; omega
  · intro x hx hr
    have := f2 x hx
    simp only [List.mem_cons, List.not_mem_nil, or_false] at hr
    omega
  · rintro x (hx | hr)
    · have := f2 x hx; omega
    · simp only [List.mem_cons, List.not_mem_nil, or_false] at hr; omega
  · rintro x (hx | hx) (hy | hy)
    · have := f1 x hx; have := f2 x hy; omega
    · have := f1 x hx
      simp only [List.mem_cons, List.not_mem_nil, or_false] at hy; omega
    · have := f2 x hy
      simp only [List.mem_cons, List.not_mem_nil, or_false] at hx; omega
    · simp only [List.mem_cons, List.not_mem_nil, or_false] at hx hy; omega
  · rintro x ((hx | hx) | (hx | hx))
    · exact (f1 x hx).1
    · simp only [List.mem_cons, List.not_mem_nil, or_false] at hx; omega
    · have := f2 x hx; omega
    · simp only [List.mem_cons, List.not_mem_nil, or_false] at hx; omega

set_option maxRecDepth 100000 in
set_option maxHeartbeats 8000000 in
theorem dsame_main (n : Nat) (v1 v2 : Value) (s1 s2 : List StpM) (w : World) (hs1 : ScrAt w v1 s1) (hs2 : ScrAt w v2 s2) (hv1 : vastD (n : Int) (s1.map StpM.sz) = false) (hv2 : vastD (n : Int) (s2.map StpM.sz) = false) (hn1 : 1 ≤ n) (hn8 : n ≤ 8) (hl1 : s1.length ≤ 25) (hl2 : s2.length ≤ 25)
    (hb1 : ∀ s ∈ s1, s.bs.length ≤ 2048 ∧ s.ks.length ≤ 30) (hb2 : ∀ s ∈ s2, s.bs.length ≤ 2048 ∧ s.ks.length ≤ 30) :
    Calls Try.prog 4 #[.int .i64 (n : Int), v1, v2] w fun e w' => e = .returned (.bool true) ∧ Below w.heap.size w w' := by
  have hvv1 := vast_any n v1 _ w hs1.steps
  have hvv2 := vast_any n v2 _ w hs2.steps
  rw [hv1] at hvv1
  rw [hv2] at hvv2
  have Hs1 := Lib.hid hs1
  have Hs2 := Lib.hid hs2
  obtain ⟨a1, c1, rfl, _⟩ := hs1
  obtain ⟨a2, c2, rfl, _⟩ := hs2
  have Hv1 := Lib.hid hvv1
  have Hv2 := Lib.hid hvv2
  have Hk := Lib.hid known_any
  have HN1 := Lib.hid (Dd.new n hn1 (by omega) w)
  have HN := Lib.hid (fun w => Dd.new n hn1 (by omega) w)
  have HR := Lib.hid (fun w => refNew_any n hn1 (by omega) w)
  have k1 : decide ((n : Int) < 1) = false := by simp; omega
  have k2 : decide ((n : Int) > 65536) = false := by simp; omega
  have HB12 := Lib.hid (And.intro hb1 hb2)
  have hl1I : (s1.length : Int) ≤ 25 := by omega
  have hl2I : (s2.length : Int) ≤ 25 := by omega
  clear hvv1 hvv2 hv1 hv2 hb1 hb2
  go_enter Try.func4, Try.ntmps4
  go_wp2_with (first
    | (go_at_call 6; ((with_reducible refine Hv1.out.mono ?_); rintro e w1 ⟨rfl, rfl⟩; clear Hv1))
    | (go_at_call 6; ((with_reducible refine Hv2.out.mono ?_); rintro e w1 ⟨rfl, rfl⟩; clear Hv2))
    | (go_at_call 8; ((with_reducible refine HN1.out.mono ?_); rintro e w1 ⟨rfl, hd1, hbw1⟩; have HD1 := Lib.hid (And.intro hd1 hbw1); have HN2 := Lib.hid (HN.out w1); clear hd1 hbw1 HN1))
    | (go_at_call 8; ((with_reducible refine HN2.out.mono ?_); rintro e w2 ⟨rfl, hd2, hbw2⟩; have HD2 := Lib.hid (And.intro hd2 hbw2); have HR1 := Lib.hid (HR.out w2); clear hd2 hbw2 HN2))
    | (go_at_call 9; ((with_reducible refine HR1.out.mono ?_); rintro e w3 ⟨_, rfl, ⟨L, cL, S, cS, Q, cQ, rfl, hr3⟩, hbw3⟩; have HD3 := Lib.hid (And.intro hr3 hbw3); have HR2 := Lib.hid (HR.out w3); clear hr3 hbw3 HR1))
    | (go_at_call 9; ((with_reducible refine HR2.out.mono ?_); rintro e w4 ⟨_, rfl, ⟨L', cL', S', cS', Q', cQ', rfl, hr4⟩, hbw4⟩; have HD4 := Lib.hid (And.intro hr4 hbw4); clear hr4 hbw4 HR2)))
  have hI0 := two_start HD1.out.1 HD1.out.2 HD2.out.1 HD2.out.2 HD3.out.1 HD3.out.2 HD4.out.1 HD4.out.2
  have HI := Lib.hid hI0
  clear hI0
  generalize (w4.alloc _).alloc _ = W5 at *
  generalize w.heap.size + 4 = a at *
  generalize w1.heap.size + 4 = b at *
  generalize w4.heap.size + 1 = s at *
  generalize w4.heap.size = r at *
  clear HD1 HD2 HD3 HD4 HR HN
  go_loopw [13] (fun i wr => ∃ k : Nat, k ≤ s1.length ∧ i = .int .i64 (k : Int) ∧ TwoI w wr n k 0 a b r s) (fun i _ => s1.length - (intOf i).toNat)
  case atStart => exact ⟨0, Nat.zero_le _, rfl, HI.out⟩
  case round =>
    obtain ⟨k, hk, rfl, hI⟩ := hrel
    by_cases hlt : k < s1.length
    · have hlt2 : k + 1 ≤ s1.length := hlt
      obtain ⟨_, _, heq, hnil, hcw⟩ := Hs1.out
      cases heq
      obtain ⟨ad, rfl⟩ : ∃ ad, a1 = some ad := by
        cases a1 with
        | none => have := hnil rfl; rw [this] at hlt; simp at hlt
        | some ad => exact ⟨ad, rfl⟩
      obtain ⟨hspot, hcw⟩ := hcw ad rfl
      obtain ⟨ab, ao, asp⟩ := ad
      simp only at hspot
      subst hspot
      obtain ⟨_, _, _, _, _, hrb, hri, hq0⟩ := hcw k s1[k] (by simp [hlt])
      obtain ⟨_, _, heq, _, hcs⟩ := Hs1.out.below hI.below
      cases heq
      obtain ⟨j0, j1, j2, j3, j4, _⟩ := (hcs _ rfl).2 k s1[k] (by simp [hlt])
      have hmem := HB12.out.1 s1[k] (List.getElem_mem hlt)
      generalize s1[k] = st at *
      have hD := hI.does (by omega) st hrb hri hq0 (by omega) (by omega)
      obtain ⟨kd, at_, num, q2, m2, d2, q, m, d1, bs, ks⟩ := st
      simp only at j0 j1 j2 j3 j4 hD
      have HD := Lib.hid hD
      have HIb := Lib.hid hI.below
      by_cases h4 : kd > 4
      · have e4 : decide (kd > 4) = true := by simpa using h4
        clear hnil hcw hcs hrb hri hq0 hmem hD hI h4
        go_wp2_with (go_at_call 7; refine (Hk.out _).mono ?_; rintro e w7 ⟨rfl, hb⟩; have HB := Lib.hid hb; clear hb)
        go_ret
        exact ⟨rfl, HIb.out.trans (HB.out.mono HIb.out.size)⟩
      · have e4 : decide (kd > 4) = false := by simpa using h4
        clear hnil hcw hcs hrb hri hq0 hmem hD hI h4
        go_wp2_with (go_at_call 10; refine HD.out.mono ?_; rintro e w7 ⟨rfl, hI7⟩; have H7 := Lib.hid hI7; clear hI7)
        go_roundw
        case rel => exact ⟨k + 1, by omega, by go_num, H7.out⟩
        case measure => simp [intOf]; omega
    · obtain rfl : k = s1.length := by omega
      have HI := Lib.hid hI
      clear hI hk
      go_wp2
      go_loopw [14] (fun i wr => ∃ k : Nat, k ≤ s2.length ∧ i = .int .i64 (k : Int) ∧ TwoI w wr n s1.length k a b r s) (fun i _ => s2.length - (intOf i).toNat)
      case atStart => exact ⟨0, Nat.zero_le _, rfl, HI.out⟩
      case round =>
        obtain ⟨k, hk, rfl, hI⟩ := hrel
        by_cases hlt : k < s2.length
        · have hlt2 : k + 1 ≤ s2.length := hlt
          obtain ⟨_, _, heq, hnil, hcw⟩ := Hs2.out
          cases heq
          obtain ⟨ad, rfl⟩ : ∃ ad, a2 = some ad := by
            cases a2 with
            | none => have := hnil rfl; rw [this] at hlt; simp at hlt
            | some ad => exact ⟨ad, rfl⟩
          obtain ⟨hspot, hcw⟩ := hcw ad rfl
          obtain ⟨ab, ao, asp⟩ := ad
          simp only at hspot
          subst hspot
          obtain ⟨_, _, _, _, _, hrb, hri, hq0⟩ := hcw k s2[k] (by simp [hlt])
          obtain ⟨_, _, heq, _, hcs⟩ := Hs2.out.below hI.below
          cases heq
          obtain ⟨j0, j1, j2, j3, j4, _⟩ := (hcs _ rfl).2 k s2[k] (by simp [hlt])
          have hmem := HB12.out.2 s2[k] (List.getElem_mem hlt)
          generalize s2[k] = st at *
          have hD := hI.symm.does (by omega) st hrb hri hq0 (by omega) (by omega)
          obtain ⟨kd, at_, num, q2, m2, d2, q, m, d1, bs, ks⟩ := st
          simp only at j0 j1 j2 j3 j4 hD
          have HD := Lib.hid hD
          have HIb := Lib.hid hI.below
          by_cases h4 : kd > 4
          · have e4 : decide (kd > 4) = true := by simpa using h4
            clear hnil hcw hcs hrb hri hq0 hmem hD hI h4
            go_wp2_with (go_at_call 7; refine (Hk.out _).mono ?_; rintro e w7 ⟨rfl, hb⟩; have HB := Lib.hid hb; clear hb)
            go_ret
            exact ⟨rfl, HIb.out.trans (HB.out.mono HIb.out.size)⟩
          · have e4 : decide (kd > 4) = false := by simpa using h4
            clear hnil hcw hcs hrb hri hq0 hmem hD hI h4
            go_wp2_with (go_at_call 10; refine HD.out.mono ?_; rintro e w7 ⟨rfl, hI7⟩; have H7 := Lib.hid hI7; clear hI7)
            go_roundw
            case rel => exact ⟨k + 1, by omega, by go_num, H7.out.symm⟩
            case measure => simp [intOf]; omega
        · obtain rfl : k = s2.length := by omega
          have HI := Lib.hid hI
          clear hI hk
          go_wp2
          obtain ⟨v, C1, C2, _, hsame, hsame2, hld1, hld2, halike⟩ := HI.out.last (by omega) (by omega)
          have heqv : ∀ W : World, (binOp .eql 4 (.bool v) (.bool v)).run Try.prog W = .ok (.bool true) W := by intro W; cases v <;> simp [go_sem]
          have hknown : ∀ W, Below wr.heap.size wr W → Calls Try.prog 7 #[] W (fun e w' => e = .returned (.bool true) ∧ Below W.heap.size W w') := fun W _ => Hk.out W
          have hU00 : Below wr.heap.size wr wr.drew := (Below.refl _ _).drew
          refine plain_region_draws (fun W => Below wr.heap.size wr W) (by kernel_rfl) hU00 (fun hU0 => ?_)
          refine take 0 120 (v := .pointer (some ⟨a, 0, none⟩)) rfl rfl (by kernel_rfl) (by kernel_rfl) (by kernel_rfl) rfl (fun W hW => exec_move rfl rfl) (by assumption) ?_
          simp only [Act.put, List.setIfInBounds_toArray, List.set_cons_zero, List.set_cons_succ]
          refine take 1 121 (v := .pointer (some ⟨b, 0, none⟩)) rfl rfl (by kernel_rfl) (by kernel_rfl) (by kernel_rfl) rfl (fun W hW => exec_move rfl rfl) (by assumption) ?_
          simp only [Act.put, List.setIfInBounds_toArray, List.set_cons_zero, List.set_cons_succ]
          refine take 3 123 (v := .agg C1) rfl rfl (by kernel_rfl) (by kernel_rfl) (by kernel_rfl) rfl (fun W hW => exec_load rfl rfl (hld1 W hW)) (by assumption) ?_
          simp only [Act.put, List.setIfInBounds_toArray, List.set_cons_zero, List.set_cons_succ]
          refine take 4 124 (v := .agg C2) rfl rfl (by kernel_rfl) (by kernel_rfl) (by kernel_rfl) rfl (fun W hW => exec_load rfl rfl (hld2 W hW)) (by assumption) ?_
          simp only [Act.put, List.setIfInBounds_toArray, List.set_cons_zero, List.set_cons_succ]
          refine onlyCall 2 122 rfl rfl (by kernel_rfl) rfl (exec_call [.pointer (some ⟨a, 0, none⟩), .pointer (some ⟨b, 0, none⟩)] rfl rfl Try.func13 (by kernel_rfl) (by kernel_rfl)) ?_
          refine (hsame _ hU0).mono ?_
          rintro e w3 ⟨rfl, hb3⟩
          have hU1 := hU0.trans (hb3.mono hU0.size)
          clear hb3
          refine ⟨_, rfl, .inr hU1, ?_⟩
          simp only [Act.put, List.setIfInBounds_toArray, List.set_cons_zero, List.set_cons_succ]
          refine onlyCall 5 125 rfl rfl (by kernel_rfl) rfl (exec_call [.agg C1, .agg C2] rfl rfl Try.func14 (by kernel_rfl) (by kernel_rfl)) ?_
          refine (halike _ hU1).mono ?_
          rintro e w3 ⟨rfl, hb3⟩
          have hU2 := hU1.trans (hb3.mono hU1.size)
          clear hb3
          refine ⟨_, rfl, .inr hU2, ?_⟩
          simp only [Act.put, List.setIfInBounds_toArray, List.set_cons_zero, List.set_cons_succ]
          refine take 6 126 (v := .bool true) rfl rfl (by kernel_rfl) (by kernel_rfl) (by kernel_rfl) rfl (fun W hW => exec_binbb rfl rfl rfl (heqv W)) (by assumption) ?_
          simp only [Act.put, List.setIfInBounds_toArray, List.set_cons_zero, List.set_cons_succ]
          refine take 7 127 (v := .bool true) rfl rfl (by kernel_rfl) (by kernel_rfl) (by kernel_rfl) rfl (fun W hW => exec_move rfl rfl) (by assumption) ?_
          simp only [Act.put, List.setIfInBounds_toArray, List.set_cons_zero, List.set_cons_succ]
          refine take 8 128 (v := .pointer (some ⟨b, 0, none⟩)) rfl rfl (by kernel_rfl) (by kernel_rfl) (by kernel_rfl) rfl (fun W hW => exec_move rfl rfl) (by assumption) ?_
          simp only [Act.put, List.setIfInBounds_toArray, List.set_cons_zero, List.set_cons_succ]
          refine take 9 129 (v := .pointer (some ⟨a, 0, none⟩)) rfl rfl (by kernel_rfl) (by kernel_rfl) (by kernel_rfl) rfl (fun W hW => exec_move rfl rfl) (by assumption) ?_
          simp only [Act.put, List.setIfInBounds_toArray, List.set_cons_zero, List.set_cons_succ]
          refine take 11 131 (v := .pointer (some ⟨a, 0, none⟩)) rfl rfl (by kernel_rfl) (by kernel_rfl) (by kernel_rfl) rfl (fun W hW => exec_move rfl rfl) (by assumption) ?_
          simp only [Act.put, List.setIfInBounds_toArray, List.set_cons_zero, List.set_cons_succ]
          refine take 12 132 (v := .pointer (some ⟨b, 0, none⟩)) rfl rfl (by kernel_rfl) (by kernel_rfl) (by kernel_rfl) rfl (fun W hW => exec_move rfl rfl) (by assumption) ?_
          simp only [Act.put, List.setIfInBounds_toArray, List.set_cons_zero, List.set_cons_succ]
          refine onlyCall 10 130 rfl rfl (by kernel_rfl) rfl (exec_call [.pointer (some ⟨b, 0, none⟩), .pointer (some ⟨a, 0, none⟩)] rfl rfl Try.func13 (by kernel_rfl) (by kernel_rfl)) ?_
          refine (hsame2 _ hU2).mono ?_
          rintro e w3 ⟨rfl, hb3⟩
          have hU3 := hU2.trans (hb3.mono hU2.size)
          clear hb3
          refine ⟨_, rfl, .inr hU3, ?_⟩
          simp only [Act.put, List.setIfInBounds_toArray, List.set_cons_zero, List.set_cons_succ]
          refine onlyCall 13 133 rfl rfl (by kernel_rfl) rfl (exec_call [.pointer (some ⟨a, 0, none⟩), .pointer (some ⟨b, 0, none⟩)] rfl rfl Try.func13 (by kernel_rfl) (by kernel_rfl)) ?_
          refine (hsame _ hU3).mono ?_
          rintro e w3 ⟨rfl, hb3⟩
          have hU4 := hU3.trans (hb3.mono hU3.size)
          clear hb3
          refine ⟨_, rfl, .inr hU4, ?_⟩
          simp only [Act.put, List.setIfInBounds_toArray, List.set_cons_zero, List.set_cons_succ]
          refine take 14 134 (v := .bool true) rfl rfl (by kernel_rfl) (by kernel_rfl) (by kernel_rfl) rfl (fun W hW => exec_binbb rfl rfl rfl (heqv W)) (by assumption) ?_
          simp only [Act.put, List.setIfInBounds_toArray, List.set_cons_zero, List.set_cons_succ]
          refine take 15 135 (v := .bool true) rfl rfl (by kernel_rfl) (by kernel_rfl) (by kernel_rfl) rfl (fun W hW => rfl) (by assumption) ?_
          simp only [Act.put, List.setIfInBounds_toArray, List.set_cons_zero, List.set_cons_succ]
          refine take 16 136 (v := .bool true) rfl rfl (by kernel_rfl) (by kernel_rfl) (by kernel_rfl) rfl (fun W hW => exec_move rfl rfl) (by assumption) ?_
          simp only [Act.put, List.setIfInBounds_toArray, List.set_cons_zero, List.set_cons_succ]
          refine onlyCall 17 137 rfl rfl (by kernel_rfl) rfl (exec_call [] rfl rfl Try.func7 (by kernel_rfl) (by kernel_rfl)) ?_
          refine (hknown _ hU4).mono ?_
          rintro e w3 ⟨rfl, hb3⟩
          have hU5 := hU4.trans (hb3.mono hU4.size)
          clear hb3
          refine ⟨_, rfl, .inr hU5, ?_⟩
          simp only [Act.put, List.setIfInBounds_toArray, List.set_cons_zero, List.set_cons_succ]
          refine take 18 138 (v := .bool true) rfl rfl (by kernel_rfl) (by kernel_rfl) (by kernel_rfl) rfl (fun W hW => rfl) (by assumption) ?_
          simp only [Act.put, List.setIfInBounds_toArray, List.set_cons_zero, List.set_cons_succ]
          refine take 19 6 (v := .bool true) rfl rfl (by kernel_rfl) (by kernel_rfl) (by kernel_rfl) rfl (fun W hW => exec_assign rfl rfl) (by assumption) ?_
          simp only [Act.put, List.setIfInBounds_toArray, List.set_cons_zero, List.set_cons_succ]
          refine done (by kernel_rfl) ?_ _
          have HF := Lib.hid (HI.out.below.trans (hU5.mono HI.out.below.size))
          clear hsame hsame2 hld1 hld2 halike heqv hknown hU00 hU0 hU1 hU2 hU3 hU4 hU5
          go_wp2
          go_ret
          exact ⟨rfl, HF.out⟩
end Go.Proofs.Ytmgajgeoibbmjaa
