/- ValueOne: two values have one text just if they are the same. Printed by gen_onel.py. -/
import Derived.Test.YtnkaegdnjfpliaaGreatDoorVequal
import Derived.Test.YtnkaegdnjfpliaaGreatDoorVtotal
import Derived.Test.YtnkaegdnjfpliaaGreatDoorVonce
import Derived.Test.YtnkaegdnjfpliaaGreatDoorInj
namespace Go.Proofs.YtnkaegdnjfpliaaGreatDoor
set_option linter.unusedSimpArgs false
set_option linter.unusedVariables false
open Go.RowKit

theorem text_same {a b : V} (oa : okV a = true) (ob : okV b = true) (ra : rngV a) (rb : rngV b) : textV a = textV b ↔ cmpV a b = 0 := by
  constructor
  · intro h
    have := text_inj (okV_may oa) (okV_may ob) h
    subst this
    exact (ord_cmpV a).self
  · intro h
    rw [cmpV_zero a (okV_may oa) b (okV_may ob) h]
theorem once_same {a b : V} (h : textV a = textV b) : onceL [a, b, a] = [a] := by
  simp [onceL, stepO, h]
theorem once_other {a b : V} (h : ¬ textV a = textV b) : onceL [a, b, a] = [a, b] := by
  have h' : ¬ textV b = textV a := fun e => h e.symm
  simp [onceL, stepO, h, h']
/-- What lies while the law asks: two boxes and the first of what was told once. -/
structure OneU (w : World) (X Y : Array Value) (a : V) (g o : Nat) (c0 c1 c2 c3 c4 c5 : Value) (W : World) : Prop where
  two : TwoV w W X Y
  h0 : W.cell? ⟨g, o, none⟩ = some c0
  h1 : W.cell? ⟨g, o + 1, none⟩ = some c1
  h2 : W.cell? ⟨g, o + 2, none⟩ = some c2
  h3 : W.cell? ⟨g, o + 3, none⟩ = some c3
  h4 : W.cell? ⟨g, o + 4, none⟩ = some c4
  h5 : W.cell? ⟨g, o + 5, none⟩ = some c5
  rd : VRd W a #[c0, c1, c2, c3, c4, c5]
theorem OneU.keep {w W W' : World} {X Y : Array Value} {a : V} {g o : Nat} {c0 c1 c2 c3 c4 c5 : Value} (h : OneU w X Y a g o c0 c1 c2 c3 c4 c5 W) (b : Below W.heap.size W W') : OneU w X Y a g o c0 c1 c2 c3 c4 c5 W' :=
  ⟨h.two.below b, belowCell b (ltOf h.h0) h.h0, belowCell b (ltOf h.h1) h.h1, belowCell b (ltOf h.h2) h.h2, belowCell b (ltOf h.h3) h.h3, belowCell b (ltOf h.h4) h.h4, belowCell b (ltOf h.h5) h.h5, h.rd.below b⟩
theorem TwoV.text {w W : World} {x y u : Array Value} {v : V} (h : TwoV w W x y) (hE : Env w) (hv : VRd w v u) (hr : rngV v) (ht : totV v ≤ 1000000) {T : List UInt8} (hn : textF v = (T, 0)) : Calls Tryz.prog 27 #[.agg u] W fun e w' => e = .returned (.tuple #[.string (strB T), .int .i64 0]) ∧ TwoV w w' x y :=
  (text_any (hE.b h.2.2) (hv.below h.2.2) hr ht).mono fun _ _ h' => by
    rw [hn] at h'
    exact ⟨h'.1, h.below h'.2⟩
theorem TwoV.once {w W : World} {x0 x1 x2 x3 x4 x5 y0 y1 y2 y3 y4 y5 : Value} {a b : V} (h : TwoV w W #[x0, x1, x2, x3, x4, x5] #[y0, y1, y2, y3, y4, y5]) (hE : Env w) (ha : VRd w a #[x0, x1, x2, x3, x4, x5]) (hb : VRd w b #[y0, y1, y2, y3, y4, y5]) (oa : okV a = true) (ob : okV b = true) (ra : rngV a) (rb : rngV b) (ht : totV a + totV b ≤ 2000) {L : List V} (hn : onceL [a, b, a] = a :: L) :
    Calls Tryz.prog 49 #[.slice (some ⟨W.heap.size, 0, none⟩) 3 3] (W.alloc (.cells #[x0, x1, x2, x3, x4, x5, y0, y1, y2, y3, y4, y5, x0, x1, x2, x3, x4, x5] 26)) fun e w' =>
      ∃ g o c pk ck pl cl, e = .returned (.slice (some ⟨g, o, none⟩) (L.length + 1) c) ∧ OneU w #[x0, x1, x2, x3, x4, x5] #[y0, y1, y2, y3, y4, y5] a g o (.int .i64 a.kind) (.bool a.b) (.int .i64 a.n) (.string (strB a.text)) (.slice pk a.keys.length ck) (.slice pl a.list.length cl) w' := by
  have hb1 := below_new (w := W) (.cells #[x0, x1, x2, x3, x4, x5, y0, y1, y2, y3, y4, y5, x0, x1, x2, x3, x4, x5] 26)
  have hT := h.below hb1
  have hL := LRd.three (heap_alloc_new W (.cells #[x0, x1, x2, x3, x4, x5, y0, y1, y2, y3, y4, y5, x0, x1, x2, x3, x4, x5] 26)) (ha.below hT.2.2) (hb.below hT.2.2) (ha.below hT.2.2)
  have hts : totVs [a, b, a] ≤ 4000 := by simp [totVs]; omega
  have hf : fineL [a, b, a] = true := by simp [fineL, oa, ob]
  have hln : totVs (a :: L) ≤ 900000 := by
    by_cases e : textV a = textV b
    · rw [once_same e] at hn; cases hn; simp [totVs]; omega
    · rw [once_other e] at hn; cases hn; simp [totVs]; omega
  refine (once_any (hE.b hT.2.2) hL (by simp [ra, rb]) (by omega)).mono ?_
  rintro e w' ⟨vl, rfl, hl, hb2⟩
  rw [hf, if_pos rfl, hn] at hl
  obtain ⟨p, c, rfl, hrd⟩ := hl.rd hln
  obtain ⟨g, o, pk, ck, pl, cl, rfl, ⟨a0, a1, a2, a3, a4, a5⟩, hv⟩ := hrd.at (i := 0) (by simp)
  simp only [Nat.zero_mul, Nat.add_zero] at a0 a1 a2 a3 a4 a5
  exact ⟨g, o, c, pk, ck, pl, cl, rfl, hT.below hb2, a0, a1, a2, a3, a4, a5, hv⟩
theorem OneU.same {w W : World} {X Y : Array Value} {a : V} {g o : Nat} {c0 c1 c2 c3 c4 c5 : Value} (h : OneU w X Y a g o c0 c1 c2 c3 c4 c5 W) (hE : Env w) (ha : VRd w a X) (oa : okV a = true) (ht : totV a ≤ 2000) : Calls Tryz.prog 21 #[.agg #[c0, c1, c2, c3, c4, c5], .agg X] W fun e w' => e = .returned (.bool true) ∧ OneU w X Y a g o c0 c1 c2 c3 c4 c5 w' :=
  (same_any (hE.b h.two.2.2) h.rd (ha.below h.two.2.2) (by omega)).mono fun _ _ h' => by
    rw [oa, (ord_cmpV a).self] at h'
    exact ⟨by simpa using h'.1, h.keep h'.2⟩
theorem OneU.works {w W : World} {X Y : Array Value} {a : V} {g o : Nat} {c0 c1 c2 c3 c4 c5 : Value} (h : OneU w X Y a g o c0 c1 c2 c3 c4 c5 W) (hE : Env w) : Calls Tryz.prog 16 #[] W fun e w' => e = .returned (.bool true) ∧ OneU w X Y a g o c0 c1 c2 c3 c4 c5 w' :=
  (works_any (hE.b h.two.2.2)).mono fun _ _ h' => ⟨h'.1, h.keep h'.2⟩
set_option maxRecDepth 100000 in
set_option maxHeartbeats 8000000 in
theorem one_law {w : World} {a b : V} {x y : Array Value} (hE : Env w) (ha : VRd w a x) (hb : VRd w b y) (ra : rngV a) (rb : rngV b) :
    Calls Tryz.prog 10 #[.agg x, .agg y] w fun e w' => e = .returned (.bool true) ∧ Below w.heap.size w w' := by
  have hT := TwoV.start w x y
  obtain ⟨pk, ck, pl, cl, rfl, _⟩ := ha.open
  obtain ⟨pk', ck', pl', cl', rfl, _⟩ := hb.open
  have hb1 := below_new (w := (w.alloc (.cells #[.int .i64 a.kind, .bool a.b, .int .i64 a.n, .string (strB a.text), .slice pk a.keys.length ck, .slice pl a.list.length cl] 26)).alloc (.cells #[.int .i64 b.kind, .bool b.b, .int .i64 b.n, .string (strB b.text), .slice pk' b.keys.length ck', .slice pl' b.list.length cl'] 26)) (.cells #[.int .i64 a.kind, .bool a.b, .int .i64 a.n, .string (strB a.text), .slice pk a.keys.length ck, .slice pl a.list.length cl, .int .i64 b.kind, .bool b.b, .int .i64 b.n, .string (strB b.text), .slice pk' b.keys.length ck', .slice pl' b.list.length cl'] 26)
  have hbb := below_trans hT.2.2 hb1
  have hh := heap_alloc_new ((w.alloc (.cells #[.int .i64 a.kind, .bool a.b, .int .i64 a.n, .string (strB a.text), .slice pk a.keys.length ck, .slice pl a.list.length cl] 26)).alloc (.cells #[.int .i64 b.kind, .bool b.b, .int .i64 b.n, .string (strB b.text), .slice pk' b.keys.length ck', .slice pl' b.list.length cl'] 26)) (.cells #[.int .i64 a.kind, .bool a.b, .int .i64 a.n, .string (strB a.text), .slice pk a.keys.length ck, .slice pl a.list.length cl, .int .i64 b.kind, .bool b.b, .int .i64 b.n, .string (strB b.text), .slice pk' b.keys.length ck', .slice pl' b.list.length cl'] 26)
  simp only [World.size_alloc] at hh
  have HSM := Lib.hid ((small_any (LRd.two hh (ha.below hbb) (hb.below hbb))).mono (R' := fun e w' => e = .returned (.bool (decide (totVs [a, b] ≤ 2000))) ∧ TwoV w w' #[.int .i64 a.kind, .bool a.b, .int .i64 a.n, .string (strB a.text), .slice pk a.keys.length ck, .slice pl a.list.length cl] #[.int .i64 b.kind, .bool b.b, .int .i64 b.n, .string (strB b.text), .slice pk' b.keys.length ck', .slice pl' b.list.length cl']) fun _ _ h' => ⟨h'.1, (hT.below hb1).below h'.2⟩)
  have HW := Lib.hid (fun (W : World) (h : TwoV w W #[.int .i64 a.kind, .bool a.b, .int .i64 a.n, .string (strB a.text), .slice pk a.keys.length ck, .slice pl a.list.length cl] #[.int .i64 b.kind, .bool b.b, .int .i64 b.n, .string (strB b.text), .slice pk' b.keys.length ck', .slice pl' b.list.length cl']) => h.works hE)
  have hts : totVs [a, b] = totV a + totV b := by simp [totVs]
  clear hh hbb hb1
  by_cases hs : totVs [a, b] ≤ 2000
  · rw [decide_eq_true hs] at HSM
    have HCA := Lib.hid (fun (W : World) (h : TwoV w W #[.int .i64 a.kind, .bool a.b, .int .i64 a.n, .string (strB a.text), .slice pk a.keys.length ck, .slice pl a.list.length cl] #[.int .i64 b.kind, .bool b.b, .int .i64 b.n, .string (strB b.text), .slice pk' b.keys.length ck', .slice pl' b.list.length cl']) => h.check hE ha (by omega))
    have HCB := Lib.hid (fun (W : World) (h : TwoV w W #[.int .i64 a.kind, .bool a.b, .int .i64 a.n, .string (strB a.text), .slice pk a.keys.length ck, .slice pl a.list.length cl] #[.int .i64 b.kind, .bool b.b, .int .i64 b.n, .string (strB b.text), .slice pk' b.keys.length ck', .slice pl' b.list.length cl']) => h.check hE hb (by omega))
    by_cases ka : checkV Lib.validD a = 0
    · by_cases kb : checkV Lib.validD b = 0
      · rw [ka] at HCA
        rw [kb] at HCB
        have oa : okV a = true := by unfold okV; rw [ka]; rfl
        have ob : okV b = true := by unfold okV; rw [kb]; rfl
        have ht : totV a + totV b ≤ 2000 := by omega
        have hfa : textF a = (textV a, 0) := by unfold textF; rw [if_pos ka]
        have hfb : textF b = (textV b, 0) := by unfold textF; rw [if_pos kb]
        have HTA := Lib.hid (fun (W : World) (h : TwoV w W #[.int .i64 a.kind, .bool a.b, .int .i64 a.n, .string (strB a.text), .slice pk a.keys.length ck, .slice pl a.list.length cl] #[.int .i64 b.kind, .bool b.b, .int .i64 b.n, .string (strB b.text), .slice pk' b.keys.length ck', .slice pl' b.list.length cl']) => h.text hE ha ra (by omega) hfa)
        have HTB := Lib.hid (fun (W : World) (h : TwoV w W #[.int .i64 a.kind, .bool a.b, .int .i64 a.n, .string (strB a.text), .slice pk a.keys.length ck, .slice pl a.list.length cl] #[.int .i64 b.kind, .bool b.b, .int .i64 b.n, .string (strB b.text), .slice pk' b.keys.length ck', .slice pl' b.list.length cl']) => h.text hE hb rb (by omega) hfb)
        have hts2 := text_same oa ob ra rb
        have HOA := Lib.hid oa
        have HTT := Lib.hid (show totV a ≤ 2000 by omega)
        have HEE := Lib.hid (And.intro hE ha)
        have e1 : ∀ W : World, (binOp .add 3 (.int .i64 0) (.int .i64 0)).run Tryz.prog W = .ok (.int .i64 0) W := fun W => by simp [go_sem, IntKind.wrap, IntKind.signed, IntKind.bits]
        have e2 : ∀ W : World, (binOp .eql 3 (.int .i64 0) (.int .i64 0)).run Tryz.prog W = .ok (.bool true) W := fun W => by simp [go_sem]
        by_cases hq : textV a = textV b
        · have HSA := Lib.hid (fun (W : World) (h : TwoV w W #[.int .i64 a.kind, .bool a.b, .int .i64 a.n, .string (strB a.text), .slice pk a.keys.length ck, .slice pl a.list.length cl] #[.int .i64 b.kind, .bool b.b, .int .i64 b.n, .string (strB b.text), .slice pk' b.keys.length ck', .slice pl' b.list.length cl']) => h.same hE ha hb oa ob (by omega) (n := true) (decide_eq_true (hts2.1 hq)))
          have HON := Lib.hid (fun (W : World) (h : TwoV w W #[.int .i64 a.kind, .bool a.b, .int .i64 a.n, .string (strB a.text), .slice pk a.keys.length ck, .slice pl a.list.length cl] #[.int .i64 b.kind, .bool b.b, .int .i64 b.n, .string (strB b.text), .slice pk' b.keys.length ck', .slice pl' b.list.length cl']) => h.once hE ha hb oa ob ra rb ht (L := []) (once_same hq))
          have e3 : ∀ W : World, (binOp .eql 9 (.string (strB (textV a))) (.string (strB (textV b)))).run Tryz.prog W = .ok (.bool true) W := fun W => by simp [go_sem, strB_toList, hq]
          have e4 : ∀ W : World, (binOp .eql 4 (.bool true) (.bool true)).run Tryz.prog W = .ok (.bool true) W := fun W => by simp [go_sem]
          have e5 : ∀ W : World, (binOp .eql 3 (.int .i64 ((1 : Nat) : Int)) (.int .i64 1)).run Tryz.prog W = .ok (.bool true) W := fun W => by simp [go_sem]
          have e7 : ∀ W : World, (binOp .geq 3 (.int .i64 ((1 : Nat) : Int)) (.int .i64 1)).run Tryz.prog W = .ok (.bool true) W := fun W => by simp [go_sem]
          clear hE ha hb hT hts hs ka kb oa ob ht hfa hfb hts2 hq ra rb
          go_enter Tryz.func10, Tryz.ntmps10
          go_wp2_with (first
            | (go_at_call 15
               (refine (HSM.out).mono ?_
                rintro e w1 ⟨rfl, hT1⟩
                have px0 := cellOf (o := 0) hT1.1 rfl; have px1 := cellOf (o := 1) hT1.1 rfl; have px2 := cellOf (o := 2) hT1.1 rfl; have px3 := cellOf (o := 3) hT1.1 rfl; have px4 := cellOf (o := 4) hT1.1 rfl; have px5 := cellOf (o := 5) hT1.1 rfl
                have py0 := cellOf (o := 0) hT1.2.1 rfl; have py1 := cellOf (o := 1) hT1.2.1 rfl; have py2 := cellOf (o := 2) hT1.2.1 rfl; have py3 := cellOf (o := 3) hT1.2.1 rfl; have py4 := cellOf (o := 4) hT1.2.1 rfl; have py5 := cellOf (o := 5) hT1.2.1 rfl
                have HT := Lib.hid hT1
                clear hT1))
            | (go_at_call 45
               (refine (HCA.out _ HT.out).mono ?_
                rintro e w2 ⟨rfl, hT1⟩
                have px0 := cellOf (o := 0) hT1.1 rfl; have px1 := cellOf (o := 1) hT1.1 rfl; have px2 := cellOf (o := 2) hT1.1 rfl; have px3 := cellOf (o := 3) hT1.1 rfl; have px4 := cellOf (o := 4) hT1.1 rfl; have px5 := cellOf (o := 5) hT1.1 rfl
                have py0 := cellOf (o := 0) hT1.2.1 rfl; have py1 := cellOf (o := 1) hT1.2.1 rfl; have py2 := cellOf (o := 2) hT1.2.1 rfl; have py3 := cellOf (o := 3) hT1.2.1 rfl; have py4 := cellOf (o := 4) hT1.2.1 rfl; have py5 := cellOf (o := 5) hT1.2.1 rfl
                have HT := Lib.hid hT1
                clear hT1 HCA))
            | (go_at_call 45
               (refine (HCB.out _ HT.out).mono ?_
                rintro e w3 ⟨rfl, hT1⟩
                have px0 := cellOf (o := 0) hT1.1 rfl; have px1 := cellOf (o := 1) hT1.1 rfl; have px2 := cellOf (o := 2) hT1.1 rfl; have px3 := cellOf (o := 3) hT1.1 rfl; have px4 := cellOf (o := 4) hT1.1 rfl; have px5 := cellOf (o := 5) hT1.1 rfl
                have py0 := cellOf (o := 0) hT1.2.1 rfl; have py1 := cellOf (o := 1) hT1.2.1 rfl; have py2 := cellOf (o := 2) hT1.2.1 rfl; have py3 := cellOf (o := 3) hT1.2.1 rfl; have py4 := cellOf (o := 4) hT1.2.1 rfl; have py5 := cellOf (o := 5) hT1.2.1 rfl
                have HT := Lib.hid hT1
                clear hT1 HCB))
            | (go_at_call 33; refine (num_any _ _).mono ?_; rintro e w' ⟨rfl, rfl⟩)
            | (go_at_call 27
               (refine (HTA.out _ HT.out).mono ?_
                rintro e w4 ⟨rfl, hT1⟩
                have px0 := cellOf (o := 0) hT1.1 rfl; have px1 := cellOf (o := 1) hT1.1 rfl; have px2 := cellOf (o := 2) hT1.1 rfl; have px3 := cellOf (o := 3) hT1.1 rfl; have px4 := cellOf (o := 4) hT1.1 rfl; have px5 := cellOf (o := 5) hT1.1 rfl
                have py0 := cellOf (o := 0) hT1.2.1 rfl; have py1 := cellOf (o := 1) hT1.2.1 rfl; have py2 := cellOf (o := 2) hT1.2.1 rfl; have py3 := cellOf (o := 3) hT1.2.1 rfl; have py4 := cellOf (o := 4) hT1.2.1 rfl; have py5 := cellOf (o := 5) hT1.2.1 rfl
                have HT := Lib.hid hT1
                clear hT1 HTA))
            | (go_at_call 27
               (refine (HTB.out _ HT.out).mono ?_
                rintro e w5 ⟨rfl, hT1⟩
                have px0 := cellOf (o := 0) hT1.1 rfl; have px1 := cellOf (o := 1) hT1.1 rfl; have px2 := cellOf (o := 2) hT1.1 rfl; have px3 := cellOf (o := 3) hT1.1 rfl; have px4 := cellOf (o := 4) hT1.1 rfl; have px5 := cellOf (o := 5) hT1.1 rfl
                have py0 := cellOf (o := 0) hT1.2.1 rfl; have py1 := cellOf (o := 1) hT1.2.1 rfl; have py2 := cellOf (o := 2) hT1.2.1 rfl; have py3 := cellOf (o := 3) hT1.2.1 rfl; have py4 := cellOf (o := 4) hT1.2.1 rfl; have py5 := cellOf (o := 5) hT1.2.1 rfl
                have HT := Lib.hid hT1
                clear hT1 HTB))
            | (go_at_call 21
               (refine (HSA.out _ HT.out).mono ?_
                rintro e w6 ⟨rfl, hT1⟩
                have px0 := cellOf (o := 0) hT1.1 rfl; have px1 := cellOf (o := 1) hT1.1 rfl; have px2 := cellOf (o := 2) hT1.1 rfl; have px3 := cellOf (o := 3) hT1.1 rfl; have px4 := cellOf (o := 4) hT1.1 rfl; have px5 := cellOf (o := 5) hT1.1 rfl
                have py0 := cellOf (o := 0) hT1.2.1 rfl; have py1 := cellOf (o := 1) hT1.2.1 rfl; have py2 := cellOf (o := 2) hT1.2.1 rfl; have py3 := cellOf (o := 3) hT1.2.1 rfl; have py4 := cellOf (o := 4) hT1.2.1 rfl; have py5 := cellOf (o := 5) hT1.2.1 rfl
                have HT := Lib.hid hT1
                clear hT1 HSA))
            | (go_at_call 49
               (
                refine (HON.out _ HT.out).mono ?_
                rintro e w7 ⟨g3, o3, c3, pk3, ck3, pl3, cl3, rfl, hU⟩
                have HU := Lib.hid hU
                clear hU)))
          have hU : OneU w #[.int .i64 a.kind, .bool a.b, .int .i64 a.n, .string (strB a.text), .slice pk a.keys.length ck, .slice pl a.list.length cl] #[.int .i64 b.kind, .bool b.b, .int .i64 b.n, .string (strB b.text), .slice pk' b.keys.length ck', .slice pl' b.list.length cl'] a g3 o3 (.int .i64 a.kind) (.bool a.b) (.int .i64 a.n) (.string (strB a.text)) (.slice pk3 a.keys.length ck3) (.slice pl3 a.list.length cl3) w7.drew := HU.out.keep (Below.refl _ _).drew
          refine plain_region_draws (fun W => OneU w #[.int .i64 a.kind, .bool a.b, .int .i64 a.n, .string (strB a.text), .slice pk a.keys.length ck, .slice pl a.list.length cl] #[.int .i64 b.kind, .bool b.b, .int .i64 b.n, .string (strB b.text), .slice pk' b.keys.length ck', .slice pl' b.list.length cl'] a g3 o3 (.int .i64 a.kind) (.bool a.b) (.int .i64 a.n) (.string (strB a.text)) (.slice pk3 a.keys.length ck3) (.slice pl3 a.list.length cl3) W) (by kernel_rfl) hU (fun hU => ?_)
          generalize w7.drew = W0 at *
          refine take 0 47 (v := .int .i64 0) rfl rfl (by kernel_rfl) (by kernel_rfl) (by kernel_rfl) rfl (fun W hW => exec_move rfl rfl) (by assumption) ?_
          simp only [Act.put, List.setIfInBounds_toArray, List.set_cons_zero, List.set_cons_succ]
          refine take 2 49 (v := .int .i64 0) rfl rfl (by kernel_rfl) (by kernel_rfl) (by kernel_rfl) rfl (fun W hW => exec_move rfl rfl) (by assumption) ?_
          simp only [Act.put, List.setIfInBounds_toArray, List.set_cons_zero, List.set_cons_succ]
          refine onlyCall 1 48 rfl rfl (by kernel_rfl) rfl (exec_call [.int .i64 0] rfl rfl Tryz.func33 (by kernel_rfl) (by kernel_rfl)) ?_
          refine (num_any 0 _).mono ?_
          rintro e w' ⟨rfl, rfl⟩
          refine ⟨_, rfl, .inr (by assumption), ?_⟩
          simp only [Act.put, List.setIfInBounds_toArray, List.set_cons_zero, List.set_cons_succ]
          refine onlyCall 3 50 rfl rfl (by kernel_rfl) rfl (exec_call [.int .i64 0] rfl rfl Tryz.func33 (by kernel_rfl) (by kernel_rfl)) ?_
          refine (num_any 0 _).mono ?_
          rintro e w' ⟨rfl, rfl⟩
          refine ⟨_, rfl, .inr (by assumption), ?_⟩
          simp only [Act.put, List.setIfInBounds_toArray, List.set_cons_zero, List.set_cons_succ]
          refine take 4 51 (v := .int .i64 0) rfl rfl (by kernel_rfl) (by kernel_rfl) (by kernel_rfl) rfl (fun W hW => exec_bini rfl rfl rfl (e1 W)) (by assumption) ?_
          simp only [Act.put, List.setIfInBounds_toArray, List.set_cons_zero, List.set_cons_succ]
          refine take 5 52 (v := .bool true) rfl rfl (by kernel_rfl) (by kernel_rfl) (by kernel_rfl) rfl (fun W hW => exec_bini rfl rfl rfl (e2 W)) (by assumption) ?_
          simp only [Act.put, List.setIfInBounds_toArray, List.set_cons_zero, List.set_cons_succ]
          refine take 6 53 (v := .bool true) rfl rfl (by kernel_rfl) (by kernel_rfl) (by kernel_rfl) rfl (fun W hW => exec_move rfl rfl) (by assumption) ?_
          simp only [Act.put, List.setIfInBounds_toArray, List.set_cons_zero, List.set_cons_succ]
          refine take 7 54 (v := .string (strB (textV a))) rfl rfl (by kernel_rfl) (by kernel_rfl) (by kernel_rfl) rfl (fun W hW => exec_move rfl rfl) (by assumption) ?_
          simp only [Act.put, List.setIfInBounds_toArray, List.set_cons_zero, List.set_cons_succ]
          refine take 8 55 (v := .string (strB (textV b))) rfl rfl (by kernel_rfl) (by kernel_rfl) (by kernel_rfl) rfl (fun W hW => exec_move rfl rfl) (by assumption) ?_
          simp only [Act.put, List.setIfInBounds_toArray, List.set_cons_zero, List.set_cons_succ]
          refine take 9 56 (v := .bool true) rfl rfl (by kernel_rfl) (by kernel_rfl) (by kernel_rfl) rfl (fun W hW => exec_bins rfl rfl rfl (e3 W)) (by assumption) ?_
          simp only [Act.put, List.setIfInBounds_toArray, List.set_cons_zero, List.set_cons_succ]
          refine take 10 57 (v := .bool true) rfl rfl (by kernel_rfl) (by kernel_rfl) (by kernel_rfl) rfl (fun W hW => exec_move rfl rfl) (by assumption) ?_
          simp only [Act.put, List.setIfInBounds_toArray, List.set_cons_zero, List.set_cons_succ]
          refine take 11 58 (v := .bool true) rfl rfl (by kernel_rfl) (by kernel_rfl) (by kernel_rfl) rfl (fun W hW => exec_binbb rfl rfl rfl (e4 W)) (by assumption) ?_
          simp only [Act.put, List.setIfInBounds_toArray, List.set_cons_zero, List.set_cons_succ]
          refine take 12 59 (v := .bool true) rfl rfl (by kernel_rfl) (by kernel_rfl) (by kernel_rfl) rfl (fun W hW => rfl) (by assumption) ?_
          simp only [Act.put, List.setIfInBounds_toArray, List.set_cons_zero, List.set_cons_succ]
          refine take 13 60 (v := .bool true) rfl rfl (by kernel_rfl) (by kernel_rfl) (by kernel_rfl) rfl (fun W hW => exec_move rfl rfl) (by assumption) ?_
          simp only [Act.put, List.setIfInBounds_toArray, List.set_cons_zero, List.set_cons_succ]
          refine take 14 61 (v := .slice (some ⟨g3, o3, none⟩) 1 c3) rfl rfl (by kernel_rfl) (by kernel_rfl) (by kernel_rfl) rfl (fun W hW => exec_move rfl rfl) (by assumption) ?_
          simp only [Act.put, List.setIfInBounds_toArray, List.set_cons_zero, List.set_cons_succ]
          refine take 15 62 (v := .int .i64 ((1 : Nat) : Int)) rfl rfl (by kernel_rfl) (by kernel_rfl) (by kernel_rfl) rfl (fun W hW => exec_lenV rfl rfl) (by assumption) ?_
          simp only [Act.put, List.setIfInBounds_toArray, List.set_cons_zero, List.set_cons_succ]
          refine take 16 63 (v := .bool true) rfl rfl (by kernel_rfl) (by kernel_rfl) (by kernel_rfl) rfl (fun W hW => exec_bini rfl rfl rfl (e5 W)) (by assumption) ?_
          simp only [Act.put, List.setIfInBounds_toArray, List.set_cons_zero, List.set_cons_succ]
          refine take 17 64 (v := .bool true) rfl rfl (by kernel_rfl) (by kernel_rfl) (by kernel_rfl) rfl (fun W hW => exec_move rfl rfl) (by assumption) ?_
          simp only [Act.put, List.setIfInBounds_toArray, List.set_cons_zero, List.set_cons_succ]
          refine take 18 65 (v := .bool true) rfl rfl (by kernel_rfl) (by kernel_rfl) (by kernel_rfl) rfl (fun W hW => exec_binbb rfl rfl rfl (e4 W)) (by assumption) ?_
          simp only [Act.put, List.setIfInBounds_toArray, List.set_cons_zero, List.set_cons_succ]
          refine take 19 66 (v := .bool true) rfl rfl (by kernel_rfl) (by kernel_rfl) (by kernel_rfl) rfl (fun W hW => rfl) (by assumption) ?_
          simp only [Act.put, List.setIfInBounds_toArray, List.set_cons_zero, List.set_cons_succ]
          refine take 20 67 (v := .bool true) rfl rfl (by kernel_rfl) (by kernel_rfl) (by kernel_rfl) rfl (fun W hW => exec_move rfl rfl) (by assumption) ?_
          simp only [Act.put, List.setIfInBounds_toArray, List.set_cons_zero, List.set_cons_succ]
          refine take 21 68 (v := .slice (some ⟨g3, o3, none⟩) 1 c3) rfl rfl (by kernel_rfl) (by kernel_rfl) (by kernel_rfl) rfl (fun W hW => exec_move rfl rfl) (by assumption) ?_
          simp only [Act.put, List.setIfInBounds_toArray, List.set_cons_zero, List.set_cons_succ]
          refine take 22 69 (v := .int .i64 ((1 : Nat) : Int)) rfl rfl (by kernel_rfl) (by kernel_rfl) (by kernel_rfl) rfl (fun W hW => exec_lenV rfl rfl) (by assumption) ?_
          simp only [Act.put, List.setIfInBounds_toArray, List.set_cons_zero, List.set_cons_succ]
          refine take 23 70 (v := .bool true) rfl rfl (by kernel_rfl) (by kernel_rfl) (by kernel_rfl) rfl (fun W hW => exec_bini rfl rfl rfl (e7 W)) (by assumption) ?_
          simp only [Act.put, List.setIfInBounds_toArray, List.set_cons_zero, List.set_cons_succ]
          refine take 24 71 (v := .bool true) rfl rfl (by kernel_rfl) (by kernel_rfl) (by kernel_rfl) rfl (fun W hW => rfl) (by assumption) ?_
          simp only [Act.put, List.setIfInBounds_toArray, List.set_cons_zero, List.set_cons_succ]
          refine take 25 72 (v := .bool true) rfl rfl (by kernel_rfl) (by kernel_rfl) (by kernel_rfl) rfl (fun W hW => exec_move rfl rfl) (by assumption) ?_
          simp only [Act.put, List.setIfInBounds_toArray, List.set_cons_zero, List.set_cons_succ]
          refine take 26 73 (v := .slice (some ⟨g3, o3, none⟩) 1 c3) rfl rfl (by kernel_rfl) (by kernel_rfl) (by kernel_rfl) rfl (fun W hW => exec_move rfl rfl) (by assumption) ?_
          simp only [Act.put, List.setIfInBounds_toArray, List.set_cons_zero, List.set_cons_succ]
          refine take 27 74 (v := .pointer (some ⟨g3, o3, none⟩)) rfl rfl (by kernel_rfl) (by kernel_rfl) (by kernel_rfl) rfl (fun W hW => exec_indexAddr rfl rfl rfl (ia_first _ _ _ _ (by decide) W)) (by assumption) ?_
          simp only [Act.put, List.setIfInBounds_toArray, List.set_cons_zero, List.set_cons_succ]
          refine take 28 75 (v := .agg #[.int .i64 a.kind, .bool a.b, .int .i64 a.n, .string (strB a.text), .slice pk3 a.keys.length ck3, .slice pl3 a.list.length cl3]) rfl rfl (by kernel_rfl) (by kernel_rfl) (by kernel_rfl) rfl (fun W hW => exec_load rfl rfl (get_six hW.h0 hW.h1 hW.h2 hW.h3 hW.h4 hW.h5)) (by assumption) ?_
          simp only [Act.put, List.setIfInBounds_toArray, List.set_cons_zero, List.set_cons_succ]
          refine take 29 76 (v := .agg #[.int .i64 a.kind, .bool a.b, .int .i64 a.n, .string (strB a.text), .slice pk a.keys.length ck, .slice pl a.list.length cl]) rfl rfl (by kernel_rfl) (by kernel_rfl) (by kernel_rfl) rfl (fun W hW => exec_load rfl rfl (get_val hW.two.1)) (by assumption) ?_
          simp only [Act.put, List.setIfInBounds_toArray, List.set_cons_zero, List.set_cons_succ]
          refine onlyCall 30 77 rfl rfl (by kernel_rfl) rfl (exec_call [.agg #[.int .i64 a.kind, .bool a.b, .int .i64 a.n, .string (strB a.text), .slice pk3 a.keys.length ck3, .slice pl3 a.list.length cl3], .agg #[.int .i64 a.kind, .bool a.b, .int .i64 a.n, .string (strB a.text), .slice pk a.keys.length ck, .slice pl a.list.length cl]] rfl rfl Tryz.func21 (by kernel_rfl) (by kernel_rfl)) ?_
          refine (hU.same HEE.out.1 HEE.out.2 HOA.out HTT.out).mono ?_
          rintro e w' ⟨rfl, hU⟩
          refine ⟨_, rfl, .inr (by assumption), ?_⟩
          simp only [Act.put, List.setIfInBounds_toArray, List.set_cons_zero, List.set_cons_succ]
          refine take 31 78 (v := .bool true) rfl rfl (by kernel_rfl) (by kernel_rfl) (by kernel_rfl) rfl (fun W hW => rfl) (by assumption) ?_
          simp only [Act.put, List.setIfInBounds_toArray, List.set_cons_zero, List.set_cons_succ]
          refine take 32 79 (v := .bool true) rfl rfl (by kernel_rfl) (by kernel_rfl) (by kernel_rfl) rfl (fun W hW => exec_move rfl rfl) (by assumption) ?_
          simp only [Act.put, List.setIfInBounds_toArray, List.set_cons_zero, List.set_cons_succ]
          refine onlyCall 33 80 rfl rfl (by kernel_rfl) rfl (exec_call [] rfl rfl Tryz.func16 (by kernel_rfl) (by kernel_rfl)) ?_
          refine (hU.works HEE.out.1).mono ?_
          rintro e w' ⟨rfl, hU⟩
          refine ⟨_, rfl, .inr (by assumption), ?_⟩
          simp only [Act.put, List.setIfInBounds_toArray, List.set_cons_zero, List.set_cons_succ]
          refine take 34 81 (v := .bool true) rfl rfl (by kernel_rfl) (by kernel_rfl) (by kernel_rfl) rfl (fun W hW => rfl) (by assumption) ?_
          simp only [Act.put, List.setIfInBounds_toArray, List.set_cons_zero, List.set_cons_succ]
          refine take 35 4 (v := .bool true) rfl rfl (by kernel_rfl) (by kernel_rfl) (by kernel_rfl) rfl (fun W hW => exec_assign rfl rfl) (by assumption) ?_
          simp only [Act.put, List.setIfInBounds_toArray, List.set_cons_zero, List.set_cons_succ]
          refine done (by kernel_rfl) ?_ _
          go_wp2
          go_ret
          exact ⟨rfl, hU.two.2.2⟩
        · have HSA := Lib.hid (fun (W : World) (h : TwoV w W #[.int .i64 a.kind, .bool a.b, .int .i64 a.n, .string (strB a.text), .slice pk a.keys.length ck, .slice pl a.list.length cl] #[.int .i64 b.kind, .bool b.b, .int .i64 b.n, .string (strB b.text), .slice pk' b.keys.length ck', .slice pl' b.list.length cl']) => h.same hE ha hb oa ob (by omega) (n := false) (decide_eq_false fun e => hq (hts2.2 e)))
          have HON := Lib.hid (fun (W : World) (h : TwoV w W #[.int .i64 a.kind, .bool a.b, .int .i64 a.n, .string (strB a.text), .slice pk a.keys.length ck, .slice pl a.list.length cl] #[.int .i64 b.kind, .bool b.b, .int .i64 b.n, .string (strB b.text), .slice pk' b.keys.length ck', .slice pl' b.list.length cl']) => h.once hE ha hb oa ob ra rb ht (L := [b]) (once_other hq))
          have e3 : ∀ W : World, (binOp .eql 9 (.string (strB (textV a))) (.string (strB (textV b)))).run Tryz.prog W = .ok (.bool false) W := fun W => by simp [go_sem, strB_toList, hq]
          have e4 : ∀ W : World, (binOp .eql 4 (.bool false) (.bool false)).run Tryz.prog W = .ok (.bool true) W := fun W => by simp [go_sem]
          have e5 : ∀ W : World, (binOp .eql 3 (.int .i64 ((2 : Nat) : Int)) (.int .i64 1)).run Tryz.prog W = .ok (.bool false) W := fun W => by simp [go_sem]
          have e7 : ∀ W : World, (binOp .geq 3 (.int .i64 ((2 : Nat) : Int)) (.int .i64 1)).run Tryz.prog W = .ok (.bool true) W := fun W => by simp [go_sem]
          clear hE ha hb hT hts hs ka kb oa ob ht hfa hfb hts2 hq ra rb
          go_enter Tryz.func10, Tryz.ntmps10
          go_wp2_with (first
            | (go_at_call 15
               (refine (HSM.out).mono ?_
                rintro e w1 ⟨rfl, hT1⟩
                have px0 := cellOf (o := 0) hT1.1 rfl; have px1 := cellOf (o := 1) hT1.1 rfl; have px2 := cellOf (o := 2) hT1.1 rfl; have px3 := cellOf (o := 3) hT1.1 rfl; have px4 := cellOf (o := 4) hT1.1 rfl; have px5 := cellOf (o := 5) hT1.1 rfl
                have py0 := cellOf (o := 0) hT1.2.1 rfl; have py1 := cellOf (o := 1) hT1.2.1 rfl; have py2 := cellOf (o := 2) hT1.2.1 rfl; have py3 := cellOf (o := 3) hT1.2.1 rfl; have py4 := cellOf (o := 4) hT1.2.1 rfl; have py5 := cellOf (o := 5) hT1.2.1 rfl
                have HT := Lib.hid hT1
                clear hT1))
            | (go_at_call 45
               (refine (HCA.out _ HT.out).mono ?_
                rintro e w2 ⟨rfl, hT1⟩
                have px0 := cellOf (o := 0) hT1.1 rfl; have px1 := cellOf (o := 1) hT1.1 rfl; have px2 := cellOf (o := 2) hT1.1 rfl; have px3 := cellOf (o := 3) hT1.1 rfl; have px4 := cellOf (o := 4) hT1.1 rfl; have px5 := cellOf (o := 5) hT1.1 rfl
                have py0 := cellOf (o := 0) hT1.2.1 rfl; have py1 := cellOf (o := 1) hT1.2.1 rfl; have py2 := cellOf (o := 2) hT1.2.1 rfl; have py3 := cellOf (o := 3) hT1.2.1 rfl; have py4 := cellOf (o := 4) hT1.2.1 rfl; have py5 := cellOf (o := 5) hT1.2.1 rfl
                have HT := Lib.hid hT1
                clear hT1 HCA))
            | (go_at_call 45
               (refine (HCB.out _ HT.out).mono ?_
                rintro e w3 ⟨rfl, hT1⟩
                have px0 := cellOf (o := 0) hT1.1 rfl; have px1 := cellOf (o := 1) hT1.1 rfl; have px2 := cellOf (o := 2) hT1.1 rfl; have px3 := cellOf (o := 3) hT1.1 rfl; have px4 := cellOf (o := 4) hT1.1 rfl; have px5 := cellOf (o := 5) hT1.1 rfl
                have py0 := cellOf (o := 0) hT1.2.1 rfl; have py1 := cellOf (o := 1) hT1.2.1 rfl; have py2 := cellOf (o := 2) hT1.2.1 rfl; have py3 := cellOf (o := 3) hT1.2.1 rfl; have py4 := cellOf (o := 4) hT1.2.1 rfl; have py5 := cellOf (o := 5) hT1.2.1 rfl
                have HT := Lib.hid hT1
                clear hT1 HCB))
            | (go_at_call 33; refine (num_any _ _).mono ?_; rintro e w' ⟨rfl, rfl⟩)
            | (go_at_call 27
               (refine (HTA.out _ HT.out).mono ?_
                rintro e w4 ⟨rfl, hT1⟩
                have px0 := cellOf (o := 0) hT1.1 rfl; have px1 := cellOf (o := 1) hT1.1 rfl; have px2 := cellOf (o := 2) hT1.1 rfl; have px3 := cellOf (o := 3) hT1.1 rfl; have px4 := cellOf (o := 4) hT1.1 rfl; have px5 := cellOf (o := 5) hT1.1 rfl
                have py0 := cellOf (o := 0) hT1.2.1 rfl; have py1 := cellOf (o := 1) hT1.2.1 rfl; have py2 := cellOf (o := 2) hT1.2.1 rfl; have py3 := cellOf (o := 3) hT1.2.1 rfl; have py4 := cellOf (o := 4) hT1.2.1 rfl; have py5 := cellOf (o := 5) hT1.2.1 rfl
                have HT := Lib.hid hT1
                clear hT1 HTA))
            | (go_at_call 27
               (refine (HTB.out _ HT.out).mono ?_
                rintro e w5 ⟨rfl, hT1⟩
                have px0 := cellOf (o := 0) hT1.1 rfl; have px1 := cellOf (o := 1) hT1.1 rfl; have px2 := cellOf (o := 2) hT1.1 rfl; have px3 := cellOf (o := 3) hT1.1 rfl; have px4 := cellOf (o := 4) hT1.1 rfl; have px5 := cellOf (o := 5) hT1.1 rfl
                have py0 := cellOf (o := 0) hT1.2.1 rfl; have py1 := cellOf (o := 1) hT1.2.1 rfl; have py2 := cellOf (o := 2) hT1.2.1 rfl; have py3 := cellOf (o := 3) hT1.2.1 rfl; have py4 := cellOf (o := 4) hT1.2.1 rfl; have py5 := cellOf (o := 5) hT1.2.1 rfl
                have HT := Lib.hid hT1
                clear hT1 HTB))
            | (go_at_call 21
               (refine (HSA.out _ HT.out).mono ?_
                rintro e w6 ⟨rfl, hT1⟩
                have px0 := cellOf (o := 0) hT1.1 rfl; have px1 := cellOf (o := 1) hT1.1 rfl; have px2 := cellOf (o := 2) hT1.1 rfl; have px3 := cellOf (o := 3) hT1.1 rfl; have px4 := cellOf (o := 4) hT1.1 rfl; have px5 := cellOf (o := 5) hT1.1 rfl
                have py0 := cellOf (o := 0) hT1.2.1 rfl; have py1 := cellOf (o := 1) hT1.2.1 rfl; have py2 := cellOf (o := 2) hT1.2.1 rfl; have py3 := cellOf (o := 3) hT1.2.1 rfl; have py4 := cellOf (o := 4) hT1.2.1 rfl; have py5 := cellOf (o := 5) hT1.2.1 rfl
                have HT := Lib.hid hT1
                clear hT1 HSA))
            | (go_at_call 49
               (
                refine (HON.out _ HT.out).mono ?_
                rintro e w7 ⟨g3, o3, c3, pk3, ck3, pl3, cl3, rfl, hU⟩
                have HU := Lib.hid hU
                clear hU)))
          have hU : OneU w #[.int .i64 a.kind, .bool a.b, .int .i64 a.n, .string (strB a.text), .slice pk a.keys.length ck, .slice pl a.list.length cl] #[.int .i64 b.kind, .bool b.b, .int .i64 b.n, .string (strB b.text), .slice pk' b.keys.length ck', .slice pl' b.list.length cl'] a g3 o3 (.int .i64 a.kind) (.bool a.b) (.int .i64 a.n) (.string (strB a.text)) (.slice pk3 a.keys.length ck3) (.slice pl3 a.list.length cl3) w7.drew := HU.out.keep (Below.refl _ _).drew
          refine plain_region_draws (fun W => OneU w #[.int .i64 a.kind, .bool a.b, .int .i64 a.n, .string (strB a.text), .slice pk a.keys.length ck, .slice pl a.list.length cl] #[.int .i64 b.kind, .bool b.b, .int .i64 b.n, .string (strB b.text), .slice pk' b.keys.length ck', .slice pl' b.list.length cl'] a g3 o3 (.int .i64 a.kind) (.bool a.b) (.int .i64 a.n) (.string (strB a.text)) (.slice pk3 a.keys.length ck3) (.slice pl3 a.list.length cl3) W) (by kernel_rfl) hU (fun hU => ?_)
          generalize w7.drew = W0 at *
          refine take 0 47 (v := .int .i64 0) rfl rfl (by kernel_rfl) (by kernel_rfl) (by kernel_rfl) rfl (fun W hW => exec_move rfl rfl) (by assumption) ?_
          simp only [Act.put, List.setIfInBounds_toArray, List.set_cons_zero, List.set_cons_succ]
          refine take 2 49 (v := .int .i64 0) rfl rfl (by kernel_rfl) (by kernel_rfl) (by kernel_rfl) rfl (fun W hW => exec_move rfl rfl) (by assumption) ?_
          simp only [Act.put, List.setIfInBounds_toArray, List.set_cons_zero, List.set_cons_succ]
          refine onlyCall 1 48 rfl rfl (by kernel_rfl) rfl (exec_call [.int .i64 0] rfl rfl Tryz.func33 (by kernel_rfl) (by kernel_rfl)) ?_
          refine (num_any 0 _).mono ?_
          rintro e w' ⟨rfl, rfl⟩
          refine ⟨_, rfl, .inr (by assumption), ?_⟩
          simp only [Act.put, List.setIfInBounds_toArray, List.set_cons_zero, List.set_cons_succ]
          refine onlyCall 3 50 rfl rfl (by kernel_rfl) rfl (exec_call [.int .i64 0] rfl rfl Tryz.func33 (by kernel_rfl) (by kernel_rfl)) ?_
          refine (num_any 0 _).mono ?_
          rintro e w' ⟨rfl, rfl⟩
          refine ⟨_, rfl, .inr (by assumption), ?_⟩
          simp only [Act.put, List.setIfInBounds_toArray, List.set_cons_zero, List.set_cons_succ]
          refine take 4 51 (v := .int .i64 0) rfl rfl (by kernel_rfl) (by kernel_rfl) (by kernel_rfl) rfl (fun W hW => exec_bini rfl rfl rfl (e1 W)) (by assumption) ?_
          simp only [Act.put, List.setIfInBounds_toArray, List.set_cons_zero, List.set_cons_succ]
          refine take 5 52 (v := .bool true) rfl rfl (by kernel_rfl) (by kernel_rfl) (by kernel_rfl) rfl (fun W hW => exec_bini rfl rfl rfl (e2 W)) (by assumption) ?_
          simp only [Act.put, List.setIfInBounds_toArray, List.set_cons_zero, List.set_cons_succ]
          refine take 6 53 (v := .bool true) rfl rfl (by kernel_rfl) (by kernel_rfl) (by kernel_rfl) rfl (fun W hW => exec_move rfl rfl) (by assumption) ?_
          simp only [Act.put, List.setIfInBounds_toArray, List.set_cons_zero, List.set_cons_succ]
          refine take 7 54 (v := .string (strB (textV a))) rfl rfl (by kernel_rfl) (by kernel_rfl) (by kernel_rfl) rfl (fun W hW => exec_move rfl rfl) (by assumption) ?_
          simp only [Act.put, List.setIfInBounds_toArray, List.set_cons_zero, List.set_cons_succ]
          refine take 8 55 (v := .string (strB (textV b))) rfl rfl (by kernel_rfl) (by kernel_rfl) (by kernel_rfl) rfl (fun W hW => exec_move rfl rfl) (by assumption) ?_
          simp only [Act.put, List.setIfInBounds_toArray, List.set_cons_zero, List.set_cons_succ]
          refine take 9 56 (v := .bool false) rfl rfl (by kernel_rfl) (by kernel_rfl) (by kernel_rfl) rfl (fun W hW => exec_bins rfl rfl rfl (e3 W)) (by assumption) ?_
          simp only [Act.put, List.setIfInBounds_toArray, List.set_cons_zero, List.set_cons_succ]
          refine take 10 57 (v := .bool false) rfl rfl (by kernel_rfl) (by kernel_rfl) (by kernel_rfl) rfl (fun W hW => exec_move rfl rfl) (by assumption) ?_
          simp only [Act.put, List.setIfInBounds_toArray, List.set_cons_zero, List.set_cons_succ]
          refine take 11 58 (v := .bool true) rfl rfl (by kernel_rfl) (by kernel_rfl) (by kernel_rfl) rfl (fun W hW => exec_binbb rfl rfl rfl (e4 W)) (by assumption) ?_
          simp only [Act.put, List.setIfInBounds_toArray, List.set_cons_zero, List.set_cons_succ]
          refine take 12 59 (v := .bool true) rfl rfl (by kernel_rfl) (by kernel_rfl) (by kernel_rfl) rfl (fun W hW => rfl) (by assumption) ?_
          simp only [Act.put, List.setIfInBounds_toArray, List.set_cons_zero, List.set_cons_succ]
          refine take 13 60 (v := .bool true) rfl rfl (by kernel_rfl) (by kernel_rfl) (by kernel_rfl) rfl (fun W hW => exec_move rfl rfl) (by assumption) ?_
          simp only [Act.put, List.setIfInBounds_toArray, List.set_cons_zero, List.set_cons_succ]
          refine take 14 61 (v := .slice (some ⟨g3, o3, none⟩) 2 c3) rfl rfl (by kernel_rfl) (by kernel_rfl) (by kernel_rfl) rfl (fun W hW => exec_move rfl rfl) (by assumption) ?_
          simp only [Act.put, List.setIfInBounds_toArray, List.set_cons_zero, List.set_cons_succ]
          refine take 15 62 (v := .int .i64 ((2 : Nat) : Int)) rfl rfl (by kernel_rfl) (by kernel_rfl) (by kernel_rfl) rfl (fun W hW => exec_lenV rfl rfl) (by assumption) ?_
          simp only [Act.put, List.setIfInBounds_toArray, List.set_cons_zero, List.set_cons_succ]
          refine take 16 63 (v := .bool false) rfl rfl (by kernel_rfl) (by kernel_rfl) (by kernel_rfl) rfl (fun W hW => exec_bini rfl rfl rfl (e5 W)) (by assumption) ?_
          simp only [Act.put, List.setIfInBounds_toArray, List.set_cons_zero, List.set_cons_succ]
          refine take 17 64 (v := .bool false) rfl rfl (by kernel_rfl) (by kernel_rfl) (by kernel_rfl) rfl (fun W hW => exec_move rfl rfl) (by assumption) ?_
          simp only [Act.put, List.setIfInBounds_toArray, List.set_cons_zero, List.set_cons_succ]
          refine take 18 65 (v := .bool true) rfl rfl (by kernel_rfl) (by kernel_rfl) (by kernel_rfl) rfl (fun W hW => exec_binbb rfl rfl rfl (e4 W)) (by assumption) ?_
          simp only [Act.put, List.setIfInBounds_toArray, List.set_cons_zero, List.set_cons_succ]
          refine take 19 66 (v := .bool true) rfl rfl (by kernel_rfl) (by kernel_rfl) (by kernel_rfl) rfl (fun W hW => rfl) (by assumption) ?_
          simp only [Act.put, List.setIfInBounds_toArray, List.set_cons_zero, List.set_cons_succ]
          refine take 20 67 (v := .bool true) rfl rfl (by kernel_rfl) (by kernel_rfl) (by kernel_rfl) rfl (fun W hW => exec_move rfl rfl) (by assumption) ?_
          simp only [Act.put, List.setIfInBounds_toArray, List.set_cons_zero, List.set_cons_succ]
          refine take 21 68 (v := .slice (some ⟨g3, o3, none⟩) 2 c3) rfl rfl (by kernel_rfl) (by kernel_rfl) (by kernel_rfl) rfl (fun W hW => exec_move rfl rfl) (by assumption) ?_
          simp only [Act.put, List.setIfInBounds_toArray, List.set_cons_zero, List.set_cons_succ]
          refine take 22 69 (v := .int .i64 ((2 : Nat) : Int)) rfl rfl (by kernel_rfl) (by kernel_rfl) (by kernel_rfl) rfl (fun W hW => exec_lenV rfl rfl) (by assumption) ?_
          simp only [Act.put, List.setIfInBounds_toArray, List.set_cons_zero, List.set_cons_succ]
          refine take 23 70 (v := .bool true) rfl rfl (by kernel_rfl) (by kernel_rfl) (by kernel_rfl) rfl (fun W hW => exec_bini rfl rfl rfl (e7 W)) (by assumption) ?_
          simp only [Act.put, List.setIfInBounds_toArray, List.set_cons_zero, List.set_cons_succ]
          refine take 24 71 (v := .bool true) rfl rfl (by kernel_rfl) (by kernel_rfl) (by kernel_rfl) rfl (fun W hW => rfl) (by assumption) ?_
          simp only [Act.put, List.setIfInBounds_toArray, List.set_cons_zero, List.set_cons_succ]
          refine take 25 72 (v := .bool true) rfl rfl (by kernel_rfl) (by kernel_rfl) (by kernel_rfl) rfl (fun W hW => exec_move rfl rfl) (by assumption) ?_
          simp only [Act.put, List.setIfInBounds_toArray, List.set_cons_zero, List.set_cons_succ]
          refine take 26 73 (v := .slice (some ⟨g3, o3, none⟩) 2 c3) rfl rfl (by kernel_rfl) (by kernel_rfl) (by kernel_rfl) rfl (fun W hW => exec_move rfl rfl) (by assumption) ?_
          simp only [Act.put, List.setIfInBounds_toArray, List.set_cons_zero, List.set_cons_succ]
          refine take 27 74 (v := .pointer (some ⟨g3, o3, none⟩)) rfl rfl (by kernel_rfl) (by kernel_rfl) (by kernel_rfl) rfl (fun W hW => exec_indexAddr rfl rfl rfl (ia_first _ _ _ _ (by decide) W)) (by assumption) ?_
          simp only [Act.put, List.setIfInBounds_toArray, List.set_cons_zero, List.set_cons_succ]
          refine take 28 75 (v := .agg #[.int .i64 a.kind, .bool a.b, .int .i64 a.n, .string (strB a.text), .slice pk3 a.keys.length ck3, .slice pl3 a.list.length cl3]) rfl rfl (by kernel_rfl) (by kernel_rfl) (by kernel_rfl) rfl (fun W hW => exec_load rfl rfl (get_six hW.h0 hW.h1 hW.h2 hW.h3 hW.h4 hW.h5)) (by assumption) ?_
          simp only [Act.put, List.setIfInBounds_toArray, List.set_cons_zero, List.set_cons_succ]
          refine take 29 76 (v := .agg #[.int .i64 a.kind, .bool a.b, .int .i64 a.n, .string (strB a.text), .slice pk a.keys.length ck, .slice pl a.list.length cl]) rfl rfl (by kernel_rfl) (by kernel_rfl) (by kernel_rfl) rfl (fun W hW => exec_load rfl rfl (get_val hW.two.1)) (by assumption) ?_
          simp only [Act.put, List.setIfInBounds_toArray, List.set_cons_zero, List.set_cons_succ]
          refine onlyCall 30 77 rfl rfl (by kernel_rfl) rfl (exec_call [.agg #[.int .i64 a.kind, .bool a.b, .int .i64 a.n, .string (strB a.text), .slice pk3 a.keys.length ck3, .slice pl3 a.list.length cl3], .agg #[.int .i64 a.kind, .bool a.b, .int .i64 a.n, .string (strB a.text), .slice pk a.keys.length ck, .slice pl a.list.length cl]] rfl rfl Tryz.func21 (by kernel_rfl) (by kernel_rfl)) ?_
          refine (hU.same HEE.out.1 HEE.out.2 HOA.out HTT.out).mono ?_
          rintro e w' ⟨rfl, hU⟩
          refine ⟨_, rfl, .inr (by assumption), ?_⟩
          simp only [Act.put, List.setIfInBounds_toArray, List.set_cons_zero, List.set_cons_succ]
          refine take 31 78 (v := .bool true) rfl rfl (by kernel_rfl) (by kernel_rfl) (by kernel_rfl) rfl (fun W hW => rfl) (by assumption) ?_
          simp only [Act.put, List.setIfInBounds_toArray, List.set_cons_zero, List.set_cons_succ]
          refine take 32 79 (v := .bool true) rfl rfl (by kernel_rfl) (by kernel_rfl) (by kernel_rfl) rfl (fun W hW => exec_move rfl rfl) (by assumption) ?_
          simp only [Act.put, List.setIfInBounds_toArray, List.set_cons_zero, List.set_cons_succ]
          refine onlyCall 33 80 rfl rfl (by kernel_rfl) rfl (exec_call [] rfl rfl Tryz.func16 (by kernel_rfl) (by kernel_rfl)) ?_
          refine (hU.works HEE.out.1).mono ?_
          rintro e w' ⟨rfl, hU⟩
          refine ⟨_, rfl, .inr (by assumption), ?_⟩
          simp only [Act.put, List.setIfInBounds_toArray, List.set_cons_zero, List.set_cons_succ]
          refine take 34 81 (v := .bool true) rfl rfl (by kernel_rfl) (by kernel_rfl) (by kernel_rfl) rfl (fun W hW => rfl) (by assumption) ?_
          simp only [Act.put, List.setIfInBounds_toArray, List.set_cons_zero, List.set_cons_succ]
          refine take 35 4 (v := .bool true) rfl rfl (by kernel_rfl) (by kernel_rfl) (by kernel_rfl) rfl (fun W hW => exec_assign rfl rfl) (by assumption) ?_
          simp only [Act.put, List.setIfInBounds_toArray, List.set_cons_zero, List.set_cons_succ]
          refine done (by kernel_rfl) ?_ _
          go_wp2
          go_ret
          exact ⟨rfl, hU.two.2.2⟩
      · have hne : (checkV Lib.validD b == 0) = false := by rw [beq_eq_false_iff_ne]; exact kb
        rw [ka] at HCA
        generalize checkV Lib.validD b = cv at *
        clear hE ha hb hT hts hs ka ra rb
        go_enter Tryz.func10, Tryz.ntmps10
        go_wp2_with (first
          | (go_at_call 15
             (refine (HSM.out).mono ?_
              rintro e w1 ⟨rfl, hT1⟩
              have px0 := cellOf (o := 0) hT1.1 rfl; have px1 := cellOf (o := 1) hT1.1 rfl; have px2 := cellOf (o := 2) hT1.1 rfl; have px3 := cellOf (o := 3) hT1.1 rfl; have px4 := cellOf (o := 4) hT1.1 rfl; have px5 := cellOf (o := 5) hT1.1 rfl
              have py0 := cellOf (o := 0) hT1.2.1 rfl; have py1 := cellOf (o := 1) hT1.2.1 rfl; have py2 := cellOf (o := 2) hT1.2.1 rfl; have py3 := cellOf (o := 3) hT1.2.1 rfl; have py4 := cellOf (o := 4) hT1.2.1 rfl; have py5 := cellOf (o := 5) hT1.2.1 rfl
              have HT := Lib.hid hT1
              clear hT1))
          | (go_at_call 45
             (refine (HCA.out _ HT.out).mono ?_
              rintro e w2 ⟨rfl, hT1⟩
              have px0 := cellOf (o := 0) hT1.1 rfl; have px1 := cellOf (o := 1) hT1.1 rfl; have px2 := cellOf (o := 2) hT1.1 rfl; have px3 := cellOf (o := 3) hT1.1 rfl; have px4 := cellOf (o := 4) hT1.1 rfl; have px5 := cellOf (o := 5) hT1.1 rfl
              have py0 := cellOf (o := 0) hT1.2.1 rfl; have py1 := cellOf (o := 1) hT1.2.1 rfl; have py2 := cellOf (o := 2) hT1.2.1 rfl; have py3 := cellOf (o := 3) hT1.2.1 rfl; have py4 := cellOf (o := 4) hT1.2.1 rfl; have py5 := cellOf (o := 5) hT1.2.1 rfl
              have HT := Lib.hid hT1
              clear hT1 HCA))
          | (go_at_call 45
             (refine (HCB.out _ HT.out).mono ?_
              rintro e w3 ⟨rfl, hT1⟩
              have px0 := cellOf (o := 0) hT1.1 rfl; have px1 := cellOf (o := 1) hT1.1 rfl; have px2 := cellOf (o := 2) hT1.1 rfl; have px3 := cellOf (o := 3) hT1.1 rfl; have px4 := cellOf (o := 4) hT1.1 rfl; have px5 := cellOf (o := 5) hT1.1 rfl
              have py0 := cellOf (o := 0) hT1.2.1 rfl; have py1 := cellOf (o := 1) hT1.2.1 rfl; have py2 := cellOf (o := 2) hT1.2.1 rfl; have py3 := cellOf (o := 3) hT1.2.1 rfl; have py4 := cellOf (o := 4) hT1.2.1 rfl; have py5 := cellOf (o := 5) hT1.2.1 rfl
              have HT := Lib.hid hT1
              clear hT1 HCB))
          | (go_at_call 33; refine (num_any _ _).mono ?_; rintro e w' ⟨rfl, rfl⟩)
          | (go_at_call 16
             (refine (HW.out _ HT.out).mono ?_
              rintro e w9 ⟨rfl, hT1⟩
              have px0 := cellOf (o := 0) hT1.1 rfl; have px1 := cellOf (o := 1) hT1.1 rfl; have px2 := cellOf (o := 2) hT1.1 rfl; have px3 := cellOf (o := 3) hT1.1 rfl; have px4 := cellOf (o := 4) hT1.1 rfl; have px5 := cellOf (o := 5) hT1.1 rfl
              have py0 := cellOf (o := 0) hT1.2.1 rfl; have py1 := cellOf (o := 1) hT1.2.1 rfl; have py2 := cellOf (o := 2) hT1.2.1 rfl; have py3 := cellOf (o := 3) hT1.2.1 rfl; have py4 := cellOf (o := 4) hT1.2.1 rfl; have py5 := cellOf (o := 5) hT1.2.1 rfl
              have HT := Lib.hid hT1
              clear hT1)))
        go_ret
        exact ⟨rfl, HT.out.2.2⟩
    · have hne : (checkV Lib.validD a == 0) = false := by rw [beq_eq_false_iff_ne]; exact ka
      generalize checkV Lib.validD a = cv at *
      clear hE ha hb hT hts hs HCB ra rb
      go_enter Tryz.func10, Tryz.ntmps10
      go_wp2_with (first
        | (go_at_call 15
           (refine (HSM.out).mono ?_
            rintro e w1 ⟨rfl, hT1⟩
            have px0 := cellOf (o := 0) hT1.1 rfl; have px1 := cellOf (o := 1) hT1.1 rfl; have px2 := cellOf (o := 2) hT1.1 rfl; have px3 := cellOf (o := 3) hT1.1 rfl; have px4 := cellOf (o := 4) hT1.1 rfl; have px5 := cellOf (o := 5) hT1.1 rfl
            have py0 := cellOf (o := 0) hT1.2.1 rfl; have py1 := cellOf (o := 1) hT1.2.1 rfl; have py2 := cellOf (o := 2) hT1.2.1 rfl; have py3 := cellOf (o := 3) hT1.2.1 rfl; have py4 := cellOf (o := 4) hT1.2.1 rfl; have py5 := cellOf (o := 5) hT1.2.1 rfl
            have HT := Lib.hid hT1
            clear hT1))
        | (go_at_call 45
           (refine (HCA.out _ HT.out).mono ?_
            rintro e w2 ⟨rfl, hT1⟩
            have px0 := cellOf (o := 0) hT1.1 rfl; have px1 := cellOf (o := 1) hT1.1 rfl; have px2 := cellOf (o := 2) hT1.1 rfl; have px3 := cellOf (o := 3) hT1.1 rfl; have px4 := cellOf (o := 4) hT1.1 rfl; have px5 := cellOf (o := 5) hT1.1 rfl
            have py0 := cellOf (o := 0) hT1.2.1 rfl; have py1 := cellOf (o := 1) hT1.2.1 rfl; have py2 := cellOf (o := 2) hT1.2.1 rfl; have py3 := cellOf (o := 3) hT1.2.1 rfl; have py4 := cellOf (o := 4) hT1.2.1 rfl; have py5 := cellOf (o := 5) hT1.2.1 rfl
            have HT := Lib.hid hT1
            clear hT1 HCA))
        | (go_at_call 45
           (refine (HCB.out _ HT.out).mono ?_
            rintro e w3 ⟨rfl, hT1⟩
            have px0 := cellOf (o := 0) hT1.1 rfl; have px1 := cellOf (o := 1) hT1.1 rfl; have px2 := cellOf (o := 2) hT1.1 rfl; have px3 := cellOf (o := 3) hT1.1 rfl; have px4 := cellOf (o := 4) hT1.1 rfl; have px5 := cellOf (o := 5) hT1.1 rfl
            have py0 := cellOf (o := 0) hT1.2.1 rfl; have py1 := cellOf (o := 1) hT1.2.1 rfl; have py2 := cellOf (o := 2) hT1.2.1 rfl; have py3 := cellOf (o := 3) hT1.2.1 rfl; have py4 := cellOf (o := 4) hT1.2.1 rfl; have py5 := cellOf (o := 5) hT1.2.1 rfl
            have HT := Lib.hid hT1
            clear hT1 HCB))
        | (go_at_call 33; refine (num_any _ _).mono ?_; rintro e w' ⟨rfl, rfl⟩)
        | (go_at_call 16
           (refine (HW.out _ HT.out).mono ?_
            rintro e w9 ⟨rfl, hT1⟩
            have px0 := cellOf (o := 0) hT1.1 rfl; have px1 := cellOf (o := 1) hT1.1 rfl; have px2 := cellOf (o := 2) hT1.1 rfl; have px3 := cellOf (o := 3) hT1.1 rfl; have px4 := cellOf (o := 4) hT1.1 rfl; have px5 := cellOf (o := 5) hT1.1 rfl
            have py0 := cellOf (o := 0) hT1.2.1 rfl; have py1 := cellOf (o := 1) hT1.2.1 rfl; have py2 := cellOf (o := 2) hT1.2.1 rfl; have py3 := cellOf (o := 3) hT1.2.1 rfl; have py4 := cellOf (o := 4) hT1.2.1 rfl; have py5 := cellOf (o := 5) hT1.2.1 rfl
            have HT := Lib.hid hT1
            clear hT1)))
      go_ret
      exact ⟨rfl, HT.out.2.2⟩
  · rw [decide_eq_false hs] at HSM
    clear hE ha hb hT hts hs ra rb
    go_enter Tryz.func10, Tryz.ntmps10
    go_wp2_with (first
      | (go_at_call 15
         (refine (HSM.out).mono ?_
          rintro e w1 ⟨rfl, hT1⟩
          have px0 := cellOf (o := 0) hT1.1 rfl; have px1 := cellOf (o := 1) hT1.1 rfl; have px2 := cellOf (o := 2) hT1.1 rfl; have px3 := cellOf (o := 3) hT1.1 rfl; have px4 := cellOf (o := 4) hT1.1 rfl; have px5 := cellOf (o := 5) hT1.1 rfl
          have py0 := cellOf (o := 0) hT1.2.1 rfl; have py1 := cellOf (o := 1) hT1.2.1 rfl; have py2 := cellOf (o := 2) hT1.2.1 rfl; have py3 := cellOf (o := 3) hT1.2.1 rfl; have py4 := cellOf (o := 4) hT1.2.1 rfl; have py5 := cellOf (o := 5) hT1.2.1 rfl
          have HT := Lib.hid hT1
          clear hT1))
      | (go_at_call 45
         (refine (HCA.out _ HT.out).mono ?_
          rintro e w2 ⟨rfl, hT1⟩
          have px0 := cellOf (o := 0) hT1.1 rfl; have px1 := cellOf (o := 1) hT1.1 rfl; have px2 := cellOf (o := 2) hT1.1 rfl; have px3 := cellOf (o := 3) hT1.1 rfl; have px4 := cellOf (o := 4) hT1.1 rfl; have px5 := cellOf (o := 5) hT1.1 rfl
          have py0 := cellOf (o := 0) hT1.2.1 rfl; have py1 := cellOf (o := 1) hT1.2.1 rfl; have py2 := cellOf (o := 2) hT1.2.1 rfl; have py3 := cellOf (o := 3) hT1.2.1 rfl; have py4 := cellOf (o := 4) hT1.2.1 rfl; have py5 := cellOf (o := 5) hT1.2.1 rfl
          have HT := Lib.hid hT1
          clear hT1 HCA))
      | (go_at_call 45
         (refine (HCB.out _ HT.out).mono ?_
          rintro e w3 ⟨rfl, hT1⟩
          have px0 := cellOf (o := 0) hT1.1 rfl; have px1 := cellOf (o := 1) hT1.1 rfl; have px2 := cellOf (o := 2) hT1.1 rfl; have px3 := cellOf (o := 3) hT1.1 rfl; have px4 := cellOf (o := 4) hT1.1 rfl; have px5 := cellOf (o := 5) hT1.1 rfl
          have py0 := cellOf (o := 0) hT1.2.1 rfl; have py1 := cellOf (o := 1) hT1.2.1 rfl; have py2 := cellOf (o := 2) hT1.2.1 rfl; have py3 := cellOf (o := 3) hT1.2.1 rfl; have py4 := cellOf (o := 4) hT1.2.1 rfl; have py5 := cellOf (o := 5) hT1.2.1 rfl
          have HT := Lib.hid hT1
          clear hT1 HCB))
      | (go_at_call 33; refine (num_any _ _).mono ?_; rintro e w' ⟨rfl, rfl⟩)
      | (go_at_call 16
         (refine (HW.out _ HT.out).mono ?_
          rintro e w9 ⟨rfl, hT1⟩
          have px0 := cellOf (o := 0) hT1.1 rfl; have px1 := cellOf (o := 1) hT1.1 rfl; have px2 := cellOf (o := 2) hT1.1 rfl; have px3 := cellOf (o := 3) hT1.1 rfl; have px4 := cellOf (o := 4) hT1.1 rfl; have px5 := cellOf (o := 5) hT1.1 rfl
          have py0 := cellOf (o := 0) hT1.2.1 rfl; have py1 := cellOf (o := 1) hT1.2.1 rfl; have py2 := cellOf (o := 2) hT1.2.1 rfl; have py3 := cellOf (o := 3) hT1.2.1 rfl; have py4 := cellOf (o := 4) hT1.2.1 rfl; have py5 := cellOf (o := 5) hT1.2.1 rfl
          have HT := Lib.hid hT1
          clear hT1)))
    go_ret
    exact ⟨rfl, HT.out.2.2⟩
end Go.Proofs.YtnkaegdnjfpliaaGreatDoor
