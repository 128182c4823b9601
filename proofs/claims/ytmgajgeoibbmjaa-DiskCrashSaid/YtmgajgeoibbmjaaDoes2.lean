/- The law's does: a step on a disk and the document's. Printed by gen_does2.py. -/
import Derived.Test.YtmgajgeoibbmjaaDoes
namespace Go.Proofs.Ytmgajgeoibbmjaa
open Go.RowKit

theorem Pair.fail {w : World} {a r : Nat} {d : DM} {F ks : List Int} {N : Nat} {G : Nat → Prop} (h : Pair w a r d F N G) (hF : F.length + ks.length ≤ 1000000) (hN : N + ks.length ≤ 1000000000) (q : Option Addr) (m c : Nat) (hrd : RdI w (.slice q m c) ks) (hmc : q = none → c = 0) (hoff : ks ≠ [] → ∀ g, (Value.slice q m c).ownBlock = some g → ¬ G g) (hneg : anyNeg ks = false) (ty : TypeId) (B : Nat) (hB : ¬ G B) (hBl : B < w.heap.size) (hc : w.cell? ⟨B, 4, none⟩ = some (.slice q m c)) :
    Calls Try.prog 20 #[.pointer (some ⟨a, 0, none⟩), .slice q m c] w fun e w2 => e = .returned (.int .i64 0) ∧ Touch G w w2 ∧ RdI w2 (.slice q m c) ks ∧
      ∃ X p n' c' W2, (w2.cell? ⟨r, 3, none⟩ = some X ∧ w2.cell? ⟨B, 4, none⟩ = some (.slice q m c)) ∧ (Builtin.append_ #[31, 31] ty #[X, .slice q m c]).run Try.prog w2.drew = .ok (.slice p n' c') W2 ∧ (W2.cell? ⟨r, 3, none⟩ = some X ∧ W2.cell? ⟨B, 4, none⟩ = some (.slice q m c)) ∧
        (storeVar 31 ⟨r, 3, none⟩ (.slice p n' c')).run Try.prog W2 = .ok () (W2.setCell ⟨r, 3, none⟩ (.slice p n' c')) ∧ Nxt w (W2.setCell ⟨r, 3, none⟩ (.slice p n' c')) a r d F N G ks.length := by
  obtain ⟨F1, R1, h1, ⟨X, L, cL, S, cS, Q, cQ, qs, h2⟩, h3, h4⟩ := h.ex
  have hrd0 := hrd
  refine (fail_any h1 q m c ks hrd (fun hk0 g hg hf => hoff hk0 g hg (h4 g (.inl hf))) (by omega) h.fb hN hneg).mono ?_
  rintro e w2 ⟨rfl, k1, k2⟩
  have hT : Touch G w w2 := k2.mono fun b _ hb => h4 b (.inl hb)
  have j2 := h2.touch k2 (fun b hb hb2 => h3 b hb2 hb)
  have hrd2 : RdI w2 (.slice q m c) ks := by
    obtain ⟨a', c', heq, q1, q2⟩ := hrd0
    refine ⟨a', c', heq, q1, fun ad had => ⟨(q2 ad had).1, fun i k hi => hT.cell ((q2 ad had).2 i k hi) (hoff (fun e => by rw [e] at hi; simp at hi) _ ?_)⟩⟩
    cases heq; rw [had]; rfl
  obtain ⟨p, n', c', W2, a1, a2, a3, a4⟩ := append_ints (w := w2.drew) (ownsRow_heap j2.fails fun _ _ => rfl) q m c (by obtain ⟨x1, x2, x3, x4, x5⟩ := hrd2; exact ⟨x1, x2, x3, x4, x5⟩) hmc hF ty
  have hr : ¬ X.ownBlock = some r := fun e => (j2.far r e).2 (by simp)
  have hBX : ¬ X.ownBlock = some B := fun e => hB (h4 B (.inr (j2.far B e).1))
  have hb3 := a3.heap (show w2.drew.heap[r]? = _ from j2.box) hr
  have jx := (j2.touch ((Touch.refl (fun _ => False) w2).drew) (fun _ _ h => h)).putX a3 p n' c' a2 a4
  refine ⟨rfl, hT, hrd2, X, p, n', c', W2, ⟨cellOf j2.box rfl, hT.cell hc hB⟩, a1, ⟨cellOf hb3 rfl, a3.cell (show w2.drew.cell? _ = _ from hT.cell hc hB) hBX⟩, put_ints (cellOf hb3 rfl) (freeOf hb3), ?_⟩
  have hTW : Touch R1 w2 (W2.setCell ⟨r, 3, none⟩ (.slice p n' c')) := (((Touch.refl R1 w2).drew).step a3 fun b _ e => (j2.far b e).1).setCell (.inl (j2.foot r (by simp))) _
  obtain ⟨s1, s2, s3, s4, s5⟩ := failL_size d ks
  exact h.both h4 h3 (d' := d.failL ks) k1 k2 (fun x hx => .inl hx) ⟨_, _, _, _, _, _, _, _, jx⟩ hTW s1 (by omega) (by rw [List.length_append]; omega) (h.fb.failL ks)

/-- A step, as it lies in memory. -/
structure StepV (w : World) (q2 : Option Addr) (m2 c2 : Nat) (q : Option Addr) (m c : Nat) (bs : List UInt8) (ks : List Int) (G : Nat → Prop) : Prop where
  bytes : RdB w (.slice q2 m2 c2) bs
  nums : RdI w (.slice q m c) ks
  few : bs.length ≤ 1000000
  some_ : ks.length ≤ 1000
  capn : q = none → c = 0
  off2 : bs ≠ [] → ∀ g, (Value.slice q2 m2 c2).ownBlock = some g → ¬ G g
  off : ks ≠ [] → ∀ g, (Value.slice q m c).ownBlock = some g → ¬ G g
theorem RdB.keep {w w' : World} {T : Nat → Prop} {p : Option Addr} {m c : Nat} {l : List UInt8} (h : RdB w (.slice p m c) l) (g : Touch T w w') (hoff : l ≠ [] → ∀ b, (Value.slice p m c).ownBlock = some b → ¬ T b) : RdB w' (.slice p m c) l := h.touch g hoff

set_option maxRecDepth 100000 in
set_option maxHeartbeats 4000000 in
theorem does_any {w : World} {a r : Nat} {d : DM} {F ks : List Int} {N : Nat} {G : Nat → Prop} (h : Pair w a r d F N G) (hst : d.steps ≤ 100000) (hF : F.length + ks.length ≤ 1000000) (hN : N + ks.length ≤ 1000000000)
    (kd at_ num : Int) (q2 : Option Addr) (m2 c2 : Nat) (q : Option Addr) (m c : Nat) (bs : List UInt8) (hv : StepV w q2 m2 c2 q m c bs ks G) :
    Calls Try.prog 10 #[.pointer (some ⟨a, 0, none⟩), .pointer (some ⟨r, 0, none⟩), .agg #[.int .i64 kd, .int .i64 at_, .int .i64 num, .slice q2 m2 c2, .slice q m c]] w fun e w' => e = .returned (.bool true) ∧ Nxt w w' a r d F N G ks.length := by
  have hb0 : Below w.heap.size w (w.alloc (.cells #[.int .i64 kd, .int .i64 at_, .int .i64 num, .slice q2 m2 c2, .slice q m c] 37)) := (Below.refl _ _).alloc (Nat.le_refl _) _
  have hbox : (w.alloc (.cells #[.int .i64 kd, .int .i64 at_, .int .i64 num, .slice q2 m2 c2, .slice q m c] 37)).heap[w.heap.size]? = some (.cells #[.int .i64 kd, .int .i64 at_, .int .i64 num, .slice q2 m2 c2, .slice q m c] 37 (0, 0)) := heap_alloc_new _ _
  have hs0 : (w.alloc (.cells #[.int .i64 kd, .int .i64 at_, .int .i64 num, .slice q2 m2 c2, .slice q m c] 37)).heap.size = w.heap.size + 1 := by simp
  have hB : ¬ G w.heap.size := fun hg => by have := h.lt _ hg; omega
  have hp1 := h.below hb0
  have hbs := hv.bytes.below hb0
  have hks : RdI (w.alloc (.cells #[.int .i64 kd, .int .i64 at_, .int .i64 num, .slice q2 m2 c2, .slice q m c] 37)) (.slice q m c) ks := by
    obtain ⟨a', c', heq, x1, x2⟩ := hv.nums
    refine ⟨a', c', heq, x1, fun ad had => ⟨(x2 ad had).1, fun i k hi => belowCell hb0 (ltOf ((x2 ad had).2 i k hi)) ((x2 ad had).2 i k hi)⟩⟩
  have hfrom : ∀ W, Nxt (w.alloc (.cells #[.int .i64 kd, .int .i64 at_, .int .i64 num, .slice q2 m2 c2, .slice q m c] 37)) W a r d F N G ks.length → Nxt w W a r d F N G ks.length := by
    rintro W ⟨d', F', G', x1, x2, x3, x4, x5, x6⟩
    exact ⟨d', F', G', x1, fun x hx => (x2 x hx).imp id (fun h => by rw [hs0] at h; omega), x3, x4, x5, (Touch.of_below hb0 fun b y1 y2 => absurd y1 (by omega)).trans x6⟩
  have Hfrom := Lib.hid hfrom
  have hF1 : F.length ≤ 1000000 := by omega
  have k0 := cellOf (o := 0) hbox rfl
  have k1 := cellOf (o := 1) hbox rfl
  have k2 := cellOf (o := 2) hbox rfl
  have k3 := cellOf (o := 3) hbox rfl
  have k4 := cellOf (o := 4) hbox rfl
  have HBX := Lib.hid (And.intro hbox hB)
  have Hv := Lib.hid hv
  have c11 : ((1 : Int) == 1) = true := rfl
  by_cases e1 : kd = 1
  · subst e1
    obtain ⟨code, hW⟩ := hp1.write (n := ks.length) hst hF1 at_ q2 m2 c2 bs hbs hv.few hv.off2
    have HW := Lib.hid hW
    have HC1 := Lib.hid (run_str hbs)
    have Hbs := Lib.hid hbs
    clear hW hbs hks hfrom hbox hv h hp1 hb0 hs0 hN hB
    go_enter Try.func10, Try.ntmps10
    go_wp2_with (first
      | (refine wpList_run rfl (exec_convert rfl rfl HC1.out) ?_; clear HC1)
      | (go_at_call 16; refine HW.out.mono ?_; rintro e w2 ⟨rfl, hT2, hR2⟩
         have HR2 := Lib.hid hR2
         have hbox2 := hT2.heap HBX.out.1 HBX.out.2
         have j1 := cellOf (o := 1) hbox2 rfl
         clear hR2 hT2 hbox2 HW k0 k1 k2 k3 k4)
      | (go_at_call 24; refine HR2.out.mono ?_; rintro e w3 ⟨rfl, hN3⟩
         have HN3 := Lib.hid hN3
         obtain ⟨_, _, _, _, _, _, _, _, hT3⟩ := hN3
         have hbox3 := hT3.heap HBX.out.1 HBX.out.2
         have l3 := cellOf (o := 3) hbox3 rfl
         have hc3 := run_str (Hbs.out.keep hT3 Hv.out.off2)
         clear hT3 hbox3 j1 HR2))
    go_ret
    exact ⟨rfl, Hfrom.out _ HN3.out⟩
  by_cases e2 : kd = 2
  · subst e2
    obtain ⟨l, code, hR⟩ := hp1.read at_ num
    have HR := Lib.hid hR
    have Hp1 := Lib.hid hp1
    clear hR hbs hks hfrom hbox hv h hp1 hb0 hs0 hN hB
    go_enter Try.func10, Try.ntmps10
    go_wp2_with (first
      | (go_at_call 12; refine HR.out.mono ?_; rintro e w2 ⟨p, cc, rfl, hrd2, hb2, hR2⟩
         have HR2 := Lib.hid hR2
         have Hb2 := Lib.hid hb2
         have hc2' := run_str hrd2
         have hbox2 := belowBlk hb2 (Array.getElem?_eq_some_iff.1 HBX.out.1).1 HBX.out.1
         have j1 := cellOf (o := 1) hbox2 rfl
         have j2 := cellOf (o := 2) hbox2 rfl
         clear hR2 hb2 hrd2 hbox2 HR k0 k1 k2 k3 k4)
      | (go_at_call 25; refine HR2.out.mono ?_; rintro e w3 ⟨rfl, rfl⟩; clear HR2))
    go_ret
    exact ⟨rfl, Hfrom.out _ (Hp1.out.same (Touch.of_below Hb2.out fun b x y => absurd x (by omega)) (Hp1.out.below Hb2.out))⟩
  by_cases e3 : kd = 3
  · subst e3
    obtain ⟨code, hW⟩ := hp1.flush (n := ks.length) hst hF1
    have HW := Lib.hid hW
    clear hW hbs hks hfrom hbox hv h hp1 hb0 hs0 hN hB
    go_enter Try.func10, Try.ntmps10
    go_wp2_with (first
      | (go_at_call 19; refine HW.out.mono ?_; rintro e w2 ⟨rfl, hT2, hR2⟩; have HR2 := Lib.hid hR2; clear hR2 hT2 HW k0 k1 k2 k3 k4)
      | (go_at_call 26; refine HR2.out.mono ?_; rintro e w3 ⟨rfl, hN3⟩; have HN3 := Lib.hid hN3; clear hN3 HR2))
    go_ret
    exact ⟨rfl, Hfrom.out _ HN3.out⟩
  have d1 : (kd == 1) = false := by simpa using e1
  have d2 : (kd == 2) = false := by simpa using e2
  have d3 : (kd == 3) = false := by simpa using e3
  by_cases e4 : kd = 4
  · subst e4
    cases hneg : anyNeg ks with
    | true =>
      obtain ⟨F1, R1, y1, _⟩ := hp1.ex
      have hfl := fail_neg y1 q m c ks hks (by have := hv.some_; omega) hneg
      have hbl := below_any q m c ks hks (by have := hv.some_; omega)
      rw [hneg] at hbl
      have HFl := Lib.hid hfl
      have HBl := Lib.hid hbl
      have Hfin := Lib.hid (hfrom _ (hp1.same (Touch.refl _ _) hp1))
      clear hfl hbl hbs hks hfrom hbox hv h hp1 hb0 hs0 hN hB y1 Hfrom
      go_enter Try.func10, Try.ntmps10
      go_wp2_with (first
        | (go_at_call 20; refine HFl.out.mono ?_; rintro e w2 ⟨rfl, rfl⟩)
        | (go_at_call 27; refine HBl.out.mono ?_; rintro e w2 ⟨rfl, rfl⟩))
      go_ret
      exact ⟨rfl, Hfin.out⟩
    | false =>
      have hfl := hp1.fail hF hN q m c hks hv.capn hv.off hneg 31 w.heap.size hB (by rw [hs0]; omega) k4
      have HFl := Lib.hid hfl
      have Hneg := Lib.hid hneg
      clear hfl hbs hks hfrom hbox hv h hp1 hb0 hs0 hN hB hneg
      go_enter Try.func10, Try.ntmps10
      go_wp2_with (first
        | (go_at_call 20; refine HFl.out.mono ?_; rintro e w2 ⟨rfl, hT2, hks2, hrest⟩
           have hbl := below_any q m c ks hks2 (by have := Hv.out.some_; omega)
           rw [Hneg.out] at hbl
           have HBl := Lib.hid hbl
           have Hrest := Lib.hid hrest
           have hbox2 := hT2.heap HBX.out.1 HBX.out.2
           have j4 := cellOf (o := 4) hbox2 rfl
           clear hbl hrest hT2 hks2 hbox2 HFl k0 k1 k2 k3 k4)
        | (go_at_call 27; refine HBl.out.mono ?_; rintro e w3 ⟨rfl, rfl⟩; clear HBl))
      obtain ⟨X, p, n', c', W2, hS0, hap, hS2, hst2, hN2⟩ := Hrest.out
      have hS0' : w2.drew.cell? ⟨r, 3, none⟩ = some X ∧ w2.drew.cell? ⟨w.heap.size, 4, none⟩ = some (.slice q m c) := hS0
      have hf3 : ∀ W : World, (Instr.fieldAt 33 (.pointer (some ⟨r, 0, none⟩)) 3).run Try.prog W = .ok (.pointer (some ⟨r, 3, none⟩)) W := by intro W; simp [go_sem]
      have hf4 : ∀ W : World, (Instr.fieldAt 37 (.pointer (some ⟨w.heap.size, 0, none⟩)) 4).run Try.prog W = .ok (.pointer (some ⟨w.heap.size, 4, none⟩)) W := by intro W; simp [go_sem]
      refine plain_region_draws (fun W => W.cell? ⟨r, 3, none⟩ = some X ∧ W.cell? ⟨w.heap.size, 4, none⟩ = some (.slice q m c)) (by kernel_rfl) hS0' (fun hS => ?_)
      refine take 0 90 (v := .pointer (some ⟨r, 0, none⟩)) rfl rfl (by kernel_rfl) (by kernel_rfl) (by kernel_rfl) rfl (fun W hW => exec_move rfl rfl) (by assumption) ?_
      simp only [Act.put, List.setIfInBounds_toArray, List.set_cons_zero, List.set_cons_succ]
      refine take 1 91 (v := .pointer (some ⟨r, 0, none⟩)) rfl rfl (by kernel_rfl) (by kernel_rfl) (by kernel_rfl) rfl (fun W hW => exec_move rfl rfl) (by assumption) ?_
      simp only [Act.put, List.setIfInBounds_toArray, List.set_cons_zero, List.set_cons_succ]
      refine take 2 92 (v := .pointer (some ⟨r, 0, none⟩)) rfl rfl (by kernel_rfl) (by kernel_rfl) (by kernel_rfl) rfl (fun W hW => rfl) (by assumption) ?_
      simp only [Act.put, List.setIfInBounds_toArray, List.set_cons_zero, List.set_cons_succ]
      refine take 3 93 (v := .pointer (some ⟨r, 3, none⟩)) rfl rfl (by kernel_rfl) (by kernel_rfl) (by kernel_rfl) rfl (fun W hW => exec_fieldAddr rfl rfl (hf3 W)) (by assumption) ?_
      simp only [Act.put, List.setIfInBounds_toArray, List.set_cons_zero, List.set_cons_succ]
      refine take 4 94 (v := X) rfl rfl (by kernel_rfl) (by kernel_rfl) (by kernel_rfl) rfl (fun W hW => exec_load rfl rfl (run_load1 (w := W) Try.underlying31 rfl hW.1)) (by assumption) ?_
      simp only [Act.put, List.setIfInBounds_toArray, List.set_cons_zero, List.set_cons_succ]
      refine take 5 95 (v := .pointer (some ⟨w.heap.size, 4, none⟩)) rfl rfl (by kernel_rfl) (by kernel_rfl) (by kernel_rfl) rfl (fun W hW => exec_fieldAddr rfl rfl (hf4 W)) (by assumption) ?_
      simp only [Act.put, List.setIfInBounds_toArray, List.set_cons_zero, List.set_cons_succ]
      refine take 6 96 (v := .slice q m c) rfl rfl (by kernel_rfl) (by kernel_rfl) (by kernel_rfl) rfl (fun W hW => exec_load rfl rfl (run_load1 (w := W) Try.underlying31 rfl hW.2)) (by assumption) ?_
      simp only [Act.put, List.setIfInBounds_toArray, List.set_cons_zero, List.set_cons_succ]
      refine onlyRun 7 97 (v := .slice p n' c') rfl rfl (by kernel_rfl) rfl (exec_append rfl rfl rfl hap) (.inr hS2) ?_
      simp only [Act.put, List.setIfInBounds_toArray, List.set_cons_zero, List.set_cons_succ]
      refine take 8 98 (v := .pointer (some ⟨r, 0, none⟩)) rfl rfl (by kernel_rfl) (by kernel_rfl) (by kernel_rfl) rfl (fun W hW => rfl) (by assumption) ?_
      simp only [Act.put, List.setIfInBounds_toArray, List.set_cons_zero, List.set_cons_succ]
      refine take 9 99 (v := .pointer (some ⟨r, 3, none⟩)) rfl rfl (by kernel_rfl) (by kernel_rfl) (by kernel_rfl) rfl (fun W hW => exec_fieldAddr rfl rfl (hf3 W)) (by assumption) ?_
      simp only [Act.put, List.setIfInBounds_toArray, List.set_cons_zero, List.set_cons_succ]
      refine onlySkip 10 rfl rfl (by kernel_rfl) rfl (exec_store rfl rfl rfl hst2) (.inl (by kernel_rfl)) ?_
      refine done (by kernel_rfl) ?_ _
      have HN2 := Lib.hid hN2
      generalize hW3 : W2.setCell _ _ = W3 at *
      clear hW3 hS0 hap hS2 hst2 hN2 hS0' hf3 hf4 hS Hrest
      go_wp2
      go_ret
      exact ⟨rfl, Hfrom.out _ HN2.out⟩
  have d4 : (kd == 4) = false := by simpa using e4
  have Hfin := Lib.hid (hfrom _ (hp1.same (Touch.refl _ _) hp1))
  clear hbs hks hfrom hbox hv h hp1 hb0 hs0 hN hB Hfrom e1 e2 e3 e4
  go_enter Try.func10, Try.ntmps10
  go_wp2
  go_ret
  exact ⟨rfl, Hfin.out⟩
end Go.Proofs.Ytmgajgeoibbmjaa
