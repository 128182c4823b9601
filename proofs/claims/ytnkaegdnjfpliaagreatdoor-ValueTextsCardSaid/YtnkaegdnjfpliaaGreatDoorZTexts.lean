/- ValueTexts: for every value and every text the law returns true, and the arguments read as they did. The listed tables of Go's library read as the program's text lays them. -/
import Derived.Test.YtnkaegdnjfpliaaGreatDoorGF
import Derived.Test.YtnkaegdnjfpliaaGreatDoorCards
import Derived.Test.YtnkaegdnjfpliaaGreatDoorTie
/-! The law ValueTexts. Printed by gen_textl.py. -/
namespace Go.Proofs.YtnkaegdnjfpliaaGreatDoor
set_option linter.unusedSimpArgs false
set_option linter.unusedVariables false
open Go.RowKit

section
variable {w W : World} {X : Array Value} {a : V} {p : Nat} {P : Nat → Prop} {y : Array Value}
theorem OneC.text (h : OneC w X a p P y W) (hE : Env w) (hr : rngV a) (ht : totV a ≤ 1000000) {S : ByteArray} {E : Int} (hT : strB (textF a).1 = S) (hE2 : (textF a).2 = E) : Calls Tryz.prog 27 #[.agg y] W fun e w' => e = .returned (.tuple #[.string S, .int .i64 E]) ∧ OneC w X a p P y w' :=
  (text_any (hE.b h.one.2) (h.rm ht) hr ht).mono fun _ _ h' => by rw [hT, hE2] at h'; exact ⟨h'.1, h.keep h'.2⟩
theorem OneC.textR (h : OneC w X a p P y W) (hE : Env w) (hv : VRd w a X) (hm : mayV Lib.validD a = true) (hr : rngV a) (ht : totV a ≤ 1000000) : Calls Tryz.prog 29 #[.agg X] W fun e w' => e = .returned (.string (strB (textV a))) ∧ OneC w X a p P y w' :=
  (textR_any a hm hr ht W X (hE.b h.one.2) (hv.below h.one.2)).mono fun _ _ h' => ⟨h'.1, h.keep h'.2⟩
theorem OneC.quote (h : OneC w X a p P y W) (hE : Env w) {s : List UInt8} (hs : s.length ≤ 2000) {S : ByteArray} (hQ : strB (quoteF s) = S) : Calls Tryz.prog 34 #[.string (strB s)] W fun e w' => e = .returned (.string S) ∧ OneC w X a p P y w' :=
  (quote_any (hE.b h.one.2) s (by omega)).mono fun _ _ h' => by rw [hQ] at h'; exact ⟨h'.1, h.keep h'.2⟩
theorem OneC.name (h : OneC w X a p P y W) (hE : Env w) {s : List UInt8} (hs : s.length ≤ 2000) {S : ByteArray} (hQ : strB (nameF s) = S) : Calls Tryz.prog 35 #[.string (strB s)] W fun e w' => e = .returned (.string S) ∧ OneC w X a p P y w' :=
  (name_any (hE.b h.one.2) s (by omega)).mono fun _ _ h' => by rw [hQ] at h'; exact ⟨h'.1, h.keep h'.2⟩
theorem OneC.quoteR (h : OneC w X a p P y W) {s : List UInt8} (hs : s.length ≤ 2000) : Calls Tryz.prog 31 #[.string (strB s)] W fun e w' => e = .returned (.string (strB (quoteB s))) ∧ OneC w X a p P y w' :=
  (quoteR_any s (by omega) W).mono fun _ _ h' => ⟨h'.1, h.keep h'.2⟩
theorem OneC.nameR (h : OneC w X a p P y W) {s : List UInt8} (hs : s.length ≤ 2000) : Calls Tryz.prog 32 #[.string (strB s)] W fun e w' => e = .returned (.string (strB (nameB s))) ∧ OneC w X a p P y w' :=
  (nameR_any s (by omega) W).mono fun _ _ h' => ⟨h'.1, h.keep h'.2⟩
end
set_option maxRecDepth 100000 in
set_option maxHeartbeats 8000000 in
theorem texts_law {w : World} {v : V} {x : Array Value} {s : List UInt8} (hE : Env w) (hx : VRd w v x) (hr : rngV v) (hl : s.length ≤ 140737488355328) :
    Calls Tryz.prog 5 #[.agg x, .string (strB s)] w fun e w' => e = .returned (.bool true) ∧ Below w.heap.size w w' := by
  have hT := OneB.start w x
  obtain ⟨pk, ck, pl, cl, rfl, _⟩ := hx.open
  have hb1 := below_new (w := w.alloc (.cells #[.int .i64 v.kind, .bool v.b, .int .i64 v.n, .string (strB v.text), .slice pk v.keys.length ck, .slice pl v.list.length cl] 26)) (.cells #[.int .i64 v.kind, .bool v.b, .int .i64 v.n, .string (strB v.text), .slice pk v.keys.length ck, .slice pl v.list.length cl] 26)
  have hbb := below_trans hT.2 hb1
  have hh := heap_alloc_new (w.alloc (.cells #[.int .i64 v.kind, .bool v.b, .int .i64 v.n, .string (strB v.text), .slice pk v.keys.length ck, .slice pl v.list.length cl] 26)) (.cells #[.int .i64 v.kind, .bool v.b, .int .i64 v.n, .string (strB v.text), .slice pk v.keys.length ck, .slice pl v.list.length cl] 26)
  simp only [World.size_alloc] at hh
  have HSM := Lib.hid ((small_any (LRd.one hh (hx.below hbb))).mono (R' := fun e w' => e = .returned (.bool (decide (totVs [v] ≤ 2000))) ∧ OneB w w' #[.int .i64 v.kind, .bool v.b, .int .i64 v.n, .string (strB v.text), .slice pk v.keys.length ck, .slice pl v.list.length cl]) fun _ _ h' => ⟨h'.1, (hT.below hb1).below h'.2⟩)
  have HW := Lib.hid (fun (W : World) (h : OneB w W #[.int .i64 v.kind, .bool v.b, .int .i64 v.n, .string (strB v.text), .slice pk v.keys.length ck, .slice pl v.list.length cl]) => (works_any (hE.b h.2)).mono (R' := fun e w' => e = .returned (.bool true) ∧ OneB w w' #[.int .i64 v.kind, .bool v.b, .int .i64 v.n, .string (strB v.text), .slice pk v.keys.length ck, .slice pl v.list.length cl]) fun _ _ h' => ⟨h'.1, h.below h'.2⟩)
  have hts : totVs [v] = totV v := by simp [totVs]
  have zs : (strB s).size = s.length := rfl
  have z1 : (s.length : Int) ≤ 140737488355328 := by omega
  clear hh hbb hb1
  by_cases hs : totVs [v] ≤ 2000
  · rw [decide_eq_true hs] at HSM
    by_cases hn : s.length ≤ 2000
    · have d1 : decide ((2000 : Int) < (s.length : Int)) = false := by rw [decide_eq_false_iff_not]; omega
      have ht : totV v ≤ 1000000 := by omega
      have HTT := Lib.hid ht
      have HCP := Lib.hid (fun (W : World) (h : OneB w W #[.int .i64 v.kind, .bool v.b, .int .i64 v.n, .string (strB v.text), .slice pk v.keys.length ck, .slice pl v.list.length cl]) => copied_in (v := v) ht (hx.below h.2))
      have HK1 := Lib.hid (fun (p : Nat) (P : Nat → Prop) (m : Array Value) (W : World) (h : OneC w #[.int .i64 v.kind, .bool v.b, .int .i64 v.n, .string (strB v.text), .slice pk v.keys.length ck, .slice pl v.list.length cl] v p P m W) => h.kept hx ht)
      have HWK := Lib.hid (fun (p : Nat) (P : Nat → Prop) (m : Array Value) (W : World) (h : OneC w #[.int .i64 v.kind, .bool v.b, .int .i64 v.n, .string (strB v.text), .slice pk v.keys.length ck, .slice pl v.list.length cl] v p P m W) => h.works hE)
      have HUT := Lib.hid (fun (W : World) => utfR_any s W hl)
      by_cases ka : checkV Lib.validD v = 0
      · have hm : mayV Lib.validD v = true := by
          have h0 := ka
          unfold checkV at h0
          split at h0
          · assumption
          · omega
        have HTX := Lib.hid (fun (p : Nat) (P : Nat → Prop) (m : Array Value) (W : World) (h : OneC w #[.int .i64 v.kind, .bool v.b, .int .i64 v.n, .string (strB v.text), .slice pk v.keys.length ck, .slice pl v.list.length cl] v p P m W) => h.text hE hr ht (S := strB (textV v)) (E := 0) (by unfold textF; rw [if_pos ka]) (by unfold textF; rw [if_pos ka]))
        have HRT := Lib.hid (fun (p : Nat) (P : Nat → Prop) (m : Array Value) (W : World) (h : OneC w #[.int .i64 v.kind, .bool v.b, .int .i64 v.n, .string (strB v.text), .slice pk v.keys.length ck, .slice pl v.list.length cl] v p P m W) => h.textR hE hx hm hr ht)
        have HCK := Lib.hid (fun (p : Nat) (P : Nat → Prop) (m : Array Value) (W : World) (h : OneC w #[.int .i64 v.kind, .bool v.b, .int .i64 v.n, .string (strB v.text), .slice pk v.keys.length ck, .slice pl v.list.length cl] v p P m W) => h.checkR hx ht ka)
        cases hv : Lib.validD s with
        | true =>
          have HQ1 := Lib.hid (fun (p : Nat) (P : Nat → Prop) (m : Array Value) (W : World) (h : OneC w #[.int .i64 v.kind, .bool v.b, .int .i64 v.n, .string (strB v.text), .slice pk v.keys.length ck, .slice pl v.list.length cl] v p P m W) => h.quote hE hn (S := strB (quoteB s)) (by unfold quoteF; rw [if_pos hv]))
          have HN1 := Lib.hid (fun (p : Nat) (P : Nat → Prop) (m : Array Value) (W : World) (h : OneC w #[.int .i64 v.kind, .bool v.b, .int .i64 v.n, .string (strB v.text), .slice pk v.keys.length ck, .slice pl v.list.length cl] v p P m W) => h.name hE hn (S := strB (nameB s)) (by unfold nameF; rw [if_pos hv]))
          have HRQ := Lib.hid (fun (p : Nat) (P : Nat → Prop) (m : Array Value) (W : World) (h : OneC w #[.int .i64 v.kind, .bool v.b, .int .i64 v.n, .string (strB v.text), .slice pk v.keys.length ck, .slice pl v.list.length cl] v p P m W) => h.quoteR hn)
          have HRN := Lib.hid (fun (p : Nat) (P : Nat → Prop) (m : Array Value) (W : World) (h : OneC w #[.int .i64 v.kind, .bool v.b, .int .i64 v.n, .string (strB v.text), .slice pk v.keys.length ck, .slice pl v.list.length cl] v p P m W) => h.nameR hn)
          rw [hv] at HUT
          clear hE hx hr hl hT hts hs hn ht ka hm hv HW
          generalize textV v = T at *
          generalize quoteB s = Q at *
          generalize nameB s = N at *
          go_enter Tryz.func5, Tryz.ntmps5
          go_wp2_with (first
            | (go_at_call 15
               (
                refine HSM.out.mono ?_
                rintro e w1 ⟨rfl, hT1⟩
                have px0 := cellOf (o := 0) hT1.1 rfl; have px1 := cellOf (o := 1) hT1.1 rfl; have px2 := cellOf (o := 2) hT1.1 rfl; have px3 := cellOf (o := 3) hT1.1 rfl; have px4 := cellOf (o := 4) hT1.1 rfl; have px5 := cellOf (o := 5) hT1.1 rfl
                have HT := Lib.hid hT1
                clear hT1 HSM))
            | (go_at_call 17
               (
                refine (HCP.out _ HT.out).mono ?_
                rintro e w2 ⟨u, rfl, hb, y, rfl, hs⟩
                obtain ⟨pk3, ck3, pl3, cl3, rfl, _⟩ := (hs.open HTT.out).open
                obtain ⟨W2, hst, hU, _⟩ := OneC.made (HT.out.below hb) hs
                have HST := Lib.hid hst
                obtain ⟨P, hU⟩ : ∃ P, OneC w #[.int .i64 v.kind, .bool v.b, .int .i64 v.n, .string (strB v.text), .slice pk v.keys.length ck, .slice pl v.list.length cl] v w2.heap.size P #[.int .i64 v.kind, .bool v.b, .int .i64 v.n, .string (strB v.text), .slice pk3 v.keys.length ck3, .slice pl3 v.list.length cl3] W2 := ⟨_, hU⟩
                have HU := Lib.hid hU
                clear hst hU hb hs HT px0 px1 px2 px3 px4 px5))
            | (refine wpList_store rfl _ _ _ _ rfl rfl rfl HST.out ?_
               have px0 := cellOf (o := 0) HU.out.one.1 rfl; have px1 := cellOf (o := 1) HU.out.one.1 rfl; have px2 := cellOf (o := 2) HU.out.one.1 rfl; have px3 := cellOf (o := 3) HU.out.one.1 rfl; have px4 := cellOf (o := 4) HU.out.one.1 rfl; have px5 := cellOf (o := 5) HU.out.one.1 rfl; have pm0 := cellOf (o := 0) HU.out.hm rfl; have pm1 := cellOf (o := 1) HU.out.hm rfl; have pm2 := cellOf (o := 2) HU.out.hm rfl; have pm3 := cellOf (o := 3) HU.out.hm rfl; have pm4 := cellOf (o := 4) HU.out.hm rfl; have pm5 := cellOf (o := 5) HU.out.hm rfl)
            | (go_at_call 27
               (
                refine (HTX.out _ _ _ _ HU.out).mono ?_
                rintro e w5 ⟨rfl, hU⟩
                have HU := Lib.hid hU
                have px0 := cellOf (o := 0) HU.out.one.1 rfl; have px1 := cellOf (o := 1) HU.out.one.1 rfl; have px2 := cellOf (o := 2) HU.out.one.1 rfl; have px3 := cellOf (o := 3) HU.out.one.1 rfl; have px4 := cellOf (o := 4) HU.out.one.1 rfl; have px5 := cellOf (o := 5) HU.out.one.1 rfl
                have pm0 := cellOf (o := 0) HU.out.hm rfl; have pm1 := cellOf (o := 1) HU.out.hm rfl; have pm2 := cellOf (o := 2) HU.out.hm rfl; have pm3 := cellOf (o := 3) HU.out.hm rfl; have pm4 := cellOf (o := 4) HU.out.hm rfl; have pm5 := cellOf (o := 5) HU.out.hm rfl
                clear hU HTX))
            | (go_at_call 28
               (
                refine (HCK.out _ _ _ _ HU.out).mono ?_
                rintro e w6 ⟨rfl, hU⟩
                have HU := Lib.hid hU
                have px0 := cellOf (o := 0) HU.out.one.1 rfl; have px1 := cellOf (o := 1) HU.out.one.1 rfl; have px2 := cellOf (o := 2) HU.out.one.1 rfl; have px3 := cellOf (o := 3) HU.out.one.1 rfl; have px4 := cellOf (o := 4) HU.out.one.1 rfl; have px5 := cellOf (o := 5) HU.out.one.1 rfl
                have pm0 := cellOf (o := 0) HU.out.hm rfl; have pm1 := cellOf (o := 1) HU.out.hm rfl; have pm2 := cellOf (o := 2) HU.out.hm rfl; have pm3 := cellOf (o := 3) HU.out.hm rfl; have pm4 := cellOf (o := 4) HU.out.hm rfl; have pm5 := cellOf (o := 5) HU.out.hm rfl
                clear hU))
            | (go_at_call 29
               (
                refine (HRT.out _ _ _ _ HU.out).mono ?_
                rintro e w7 ⟨rfl, hU⟩
                have HU := Lib.hid hU
                have px0 := cellOf (o := 0) HU.out.one.1 rfl; have px1 := cellOf (o := 1) HU.out.one.1 rfl; have px2 := cellOf (o := 2) HU.out.one.1 rfl; have px3 := cellOf (o := 3) HU.out.one.1 rfl; have px4 := cellOf (o := 4) HU.out.one.1 rfl; have px5 := cellOf (o := 5) HU.out.one.1 rfl
                have pm0 := cellOf (o := 0) HU.out.hm rfl; have pm1 := cellOf (o := 1) HU.out.hm rfl; have pm2 := cellOf (o := 2) HU.out.hm rfl; have pm3 := cellOf (o := 3) HU.out.hm rfl; have pm4 := cellOf (o := 4) HU.out.hm rfl; have pm5 := cellOf (o := 5) HU.out.hm rfl
                clear hU))
            | (go_at_call 30; refine (HUT.out _).mono ?_; rintro e w' ⟨rfl, rfl⟩)
            | (go_at_call 31
               (
                refine (HRQ.out _ _ _ _ HU.out).mono ?_
                rintro e w8 ⟨rfl, hU⟩
                have HU := Lib.hid hU
                have px0 := cellOf (o := 0) HU.out.one.1 rfl; have px1 := cellOf (o := 1) HU.out.one.1 rfl; have px2 := cellOf (o := 2) HU.out.one.1 rfl; have px3 := cellOf (o := 3) HU.out.one.1 rfl; have px4 := cellOf (o := 4) HU.out.one.1 rfl; have px5 := cellOf (o := 5) HU.out.one.1 rfl
                have pm0 := cellOf (o := 0) HU.out.hm rfl; have pm1 := cellOf (o := 1) HU.out.hm rfl; have pm2 := cellOf (o := 2) HU.out.hm rfl; have pm3 := cellOf (o := 3) HU.out.hm rfl; have pm4 := cellOf (o := 4) HU.out.hm rfl; have pm5 := cellOf (o := 5) HU.out.hm rfl
                clear hU))
            | (go_at_call 32
               (
                refine (HRN.out _ _ _ _ HU.out).mono ?_
                rintro e w9 ⟨rfl, hU⟩
                have HU := Lib.hid hU
                have px0 := cellOf (o := 0) HU.out.one.1 rfl; have px1 := cellOf (o := 1) HU.out.one.1 rfl; have px2 := cellOf (o := 2) HU.out.one.1 rfl; have px3 := cellOf (o := 3) HU.out.one.1 rfl; have px4 := cellOf (o := 4) HU.out.one.1 rfl; have px5 := cellOf (o := 5) HU.out.one.1 rfl
                have pm0 := cellOf (o := 0) HU.out.hm rfl; have pm1 := cellOf (o := 1) HU.out.hm rfl; have pm2 := cellOf (o := 2) HU.out.hm rfl; have pm3 := cellOf (o := 3) HU.out.hm rfl; have pm4 := cellOf (o := 4) HU.out.hm rfl; have pm5 := cellOf (o := 5) HU.out.hm rfl
                clear hU))
            | (go_at_call 33; refine (num_any _ _).mono ?_; rintro e w' ⟨rfl, rfl⟩)
            | (go_at_call 34
               (
                refine (HQ1.out _ _ _ _ HU.out).mono ?_
                rintro e w10 ⟨rfl, hU⟩
                have HU := Lib.hid hU
                have px0 := cellOf (o := 0) HU.out.one.1 rfl; have px1 := cellOf (o := 1) HU.out.one.1 rfl; have px2 := cellOf (o := 2) HU.out.one.1 rfl; have px3 := cellOf (o := 3) HU.out.one.1 rfl; have px4 := cellOf (o := 4) HU.out.one.1 rfl; have px5 := cellOf (o := 5) HU.out.one.1 rfl
                have pm0 := cellOf (o := 0) HU.out.hm rfl; have pm1 := cellOf (o := 1) HU.out.hm rfl; have pm2 := cellOf (o := 2) HU.out.hm rfl; have pm3 := cellOf (o := 3) HU.out.hm rfl; have pm4 := cellOf (o := 4) HU.out.hm rfl; have pm5 := cellOf (o := 5) HU.out.hm rfl
                clear hU))
            | (go_at_call 35
               (
                refine (HN1.out _ _ _ _ HU.out).mono ?_
                rintro e w11 ⟨rfl, hU⟩
                have HU := Lib.hid hU
                have px0 := cellOf (o := 0) HU.out.one.1 rfl; have px1 := cellOf (o := 1) HU.out.one.1 rfl; have px2 := cellOf (o := 2) HU.out.one.1 rfl; have px3 := cellOf (o := 3) HU.out.one.1 rfl; have px4 := cellOf (o := 4) HU.out.one.1 rfl; have px5 := cellOf (o := 5) HU.out.one.1 rfl
                have pm0 := cellOf (o := 0) HU.out.hm rfl; have pm1 := cellOf (o := 1) HU.out.hm rfl; have pm2 := cellOf (o := 2) HU.out.hm rfl; have pm3 := cellOf (o := 3) HU.out.hm rfl; have pm4 := cellOf (o := 4) HU.out.hm rfl; have pm5 := cellOf (o := 5) HU.out.hm rfl
                clear hU))
            | (go_at_call 22
               (
                refine (HK1.out _ _ _ _ HU.out).mono ?_
                rintro e w12 ⟨rfl, hU⟩
                have HU := Lib.hid hU
                have px0 := cellOf (o := 0) HU.out.one.1 rfl; have px1 := cellOf (o := 1) HU.out.one.1 rfl; have px2 := cellOf (o := 2) HU.out.one.1 rfl; have px3 := cellOf (o := 3) HU.out.one.1 rfl; have px4 := cellOf (o := 4) HU.out.one.1 rfl; have px5 := cellOf (o := 5) HU.out.one.1 rfl
                have pm0 := cellOf (o := 0) HU.out.hm rfl; have pm1 := cellOf (o := 1) HU.out.hm rfl; have pm2 := cellOf (o := 2) HU.out.hm rfl; have pm3 := cellOf (o := 3) HU.out.hm rfl; have pm4 := cellOf (o := 4) HU.out.hm rfl; have pm5 := cellOf (o := 5) HU.out.hm rfl
                clear hU))
            | (go_at_call 16
               (
                refine (HWK.out _ _ _ _ HU.out).mono ?_
                rintro e w13 ⟨rfl, hU⟩
                have HU := Lib.hid hU
                have px0 := cellOf (o := 0) HU.out.one.1 rfl; have px1 := cellOf (o := 1) HU.out.one.1 rfl; have px2 := cellOf (o := 2) HU.out.one.1 rfl; have px3 := cellOf (o := 3) HU.out.one.1 rfl; have px4 := cellOf (o := 4) HU.out.one.1 rfl; have px5 := cellOf (o := 5) HU.out.one.1 rfl
                have pm0 := cellOf (o := 0) HU.out.hm rfl; have pm1 := cellOf (o := 1) HU.out.hm rfl; have pm2 := cellOf (o := 2) HU.out.hm rfl; have pm3 := cellOf (o := 3) HU.out.hm rfl; have pm4 := cellOf (o := 4) HU.out.hm rfl; have pm5 := cellOf (o := 5) HU.out.hm rfl
                clear hU)))
          go_ret
          exact ⟨rfl, HU.out.one.2⟩
        | false =>
          have HQ1 := Lib.hid (fun (p : Nat) (P : Nat → Prop) (m : Array Value) (W : World) (h : OneC w #[.int .i64 v.kind, .bool v.b, .int .i64 v.n, .string (strB v.text), .slice pk v.keys.length ck, .slice pl v.list.length cl] v p P m W) => h.quote hE hn (S := ⟨#[]⟩) (by unfold quoteF; rw [hv]; rfl))
          have HN1 := Lib.hid (fun (p : Nat) (P : Nat → Prop) (m : Array Value) (W : World) (h : OneC w #[.int .i64 v.kind, .bool v.b, .int .i64 v.n, .string (strB v.text), .slice pk v.keys.length ck, .slice pl v.list.length cl] v p P m W) => h.name hE hn (S := ⟨#[]⟩) (by unfold nameF; rw [hv]; rfl))
          rw [hv] at HUT
          clear hE hx hr hl hT hts hs hn ht ka hm hv HW
          generalize textV v = T at *
          go_enter Tryz.func5, Tryz.ntmps5
          go_wp2_with (first
            | (go_at_call 15
               (
                refine HSM.out.mono ?_
                rintro e w1 ⟨rfl, hT1⟩
                have px0 := cellOf (o := 0) hT1.1 rfl; have px1 := cellOf (o := 1) hT1.1 rfl; have px2 := cellOf (o := 2) hT1.1 rfl; have px3 := cellOf (o := 3) hT1.1 rfl; have px4 := cellOf (o := 4) hT1.1 rfl; have px5 := cellOf (o := 5) hT1.1 rfl
                have HT := Lib.hid hT1
                clear hT1 HSM))
            | (go_at_call 17
               (
                refine (HCP.out _ HT.out).mono ?_
                rintro e w2 ⟨u, rfl, hb, y, rfl, hs⟩
                obtain ⟨pk3, ck3, pl3, cl3, rfl, _⟩ := (hs.open HTT.out).open
                obtain ⟨W2, hst, hU, _⟩ := OneC.made (HT.out.below hb) hs
                have HST := Lib.hid hst
                obtain ⟨P, hU⟩ : ∃ P, OneC w #[.int .i64 v.kind, .bool v.b, .int .i64 v.n, .string (strB v.text), .slice pk v.keys.length ck, .slice pl v.list.length cl] v w2.heap.size P #[.int .i64 v.kind, .bool v.b, .int .i64 v.n, .string (strB v.text), .slice pk3 v.keys.length ck3, .slice pl3 v.list.length cl3] W2 := ⟨_, hU⟩
                have HU := Lib.hid hU
                clear hst hU hb hs HT px0 px1 px2 px3 px4 px5))
            | (refine wpList_store rfl _ _ _ _ rfl rfl rfl HST.out ?_
               have px0 := cellOf (o := 0) HU.out.one.1 rfl; have px1 := cellOf (o := 1) HU.out.one.1 rfl; have px2 := cellOf (o := 2) HU.out.one.1 rfl; have px3 := cellOf (o := 3) HU.out.one.1 rfl; have px4 := cellOf (o := 4) HU.out.one.1 rfl; have px5 := cellOf (o := 5) HU.out.one.1 rfl; have pm0 := cellOf (o := 0) HU.out.hm rfl; have pm1 := cellOf (o := 1) HU.out.hm rfl; have pm2 := cellOf (o := 2) HU.out.hm rfl; have pm3 := cellOf (o := 3) HU.out.hm rfl; have pm4 := cellOf (o := 4) HU.out.hm rfl; have pm5 := cellOf (o := 5) HU.out.hm rfl)
            | (go_at_call 27
               (
                refine (HTX.out _ _ _ _ HU.out).mono ?_
                rintro e w5 ⟨rfl, hU⟩
                have HU := Lib.hid hU
                have px0 := cellOf (o := 0) HU.out.one.1 rfl; have px1 := cellOf (o := 1) HU.out.one.1 rfl; have px2 := cellOf (o := 2) HU.out.one.1 rfl; have px3 := cellOf (o := 3) HU.out.one.1 rfl; have px4 := cellOf (o := 4) HU.out.one.1 rfl; have px5 := cellOf (o := 5) HU.out.one.1 rfl
                have pm0 := cellOf (o := 0) HU.out.hm rfl; have pm1 := cellOf (o := 1) HU.out.hm rfl; have pm2 := cellOf (o := 2) HU.out.hm rfl; have pm3 := cellOf (o := 3) HU.out.hm rfl; have pm4 := cellOf (o := 4) HU.out.hm rfl; have pm5 := cellOf (o := 5) HU.out.hm rfl
                clear hU HTX))
            | (go_at_call 28
               (
                refine (HCK.out _ _ _ _ HU.out).mono ?_
                rintro e w6 ⟨rfl, hU⟩
                have HU := Lib.hid hU
                have px0 := cellOf (o := 0) HU.out.one.1 rfl; have px1 := cellOf (o := 1) HU.out.one.1 rfl; have px2 := cellOf (o := 2) HU.out.one.1 rfl; have px3 := cellOf (o := 3) HU.out.one.1 rfl; have px4 := cellOf (o := 4) HU.out.one.1 rfl; have px5 := cellOf (o := 5) HU.out.one.1 rfl
                have pm0 := cellOf (o := 0) HU.out.hm rfl; have pm1 := cellOf (o := 1) HU.out.hm rfl; have pm2 := cellOf (o := 2) HU.out.hm rfl; have pm3 := cellOf (o := 3) HU.out.hm rfl; have pm4 := cellOf (o := 4) HU.out.hm rfl; have pm5 := cellOf (o := 5) HU.out.hm rfl
                clear hU))
            | (go_at_call 29
               (
                refine (HRT.out _ _ _ _ HU.out).mono ?_
                rintro e w7 ⟨rfl, hU⟩
                have HU := Lib.hid hU
                have px0 := cellOf (o := 0) HU.out.one.1 rfl; have px1 := cellOf (o := 1) HU.out.one.1 rfl; have px2 := cellOf (o := 2) HU.out.one.1 rfl; have px3 := cellOf (o := 3) HU.out.one.1 rfl; have px4 := cellOf (o := 4) HU.out.one.1 rfl; have px5 := cellOf (o := 5) HU.out.one.1 rfl
                have pm0 := cellOf (o := 0) HU.out.hm rfl; have pm1 := cellOf (o := 1) HU.out.hm rfl; have pm2 := cellOf (o := 2) HU.out.hm rfl; have pm3 := cellOf (o := 3) HU.out.hm rfl; have pm4 := cellOf (o := 4) HU.out.hm rfl; have pm5 := cellOf (o := 5) HU.out.hm rfl
                clear hU))
            | (go_at_call 30; refine (HUT.out _).mono ?_; rintro e w' ⟨rfl, rfl⟩)
            | (go_at_call 33; refine (num_any _ _).mono ?_; rintro e w' ⟨rfl, rfl⟩)
            | (go_at_call 34
               (
                refine (HQ1.out _ _ _ _ HU.out).mono ?_
                rintro e w10 ⟨rfl, hU⟩
                have HU := Lib.hid hU
                have px0 := cellOf (o := 0) HU.out.one.1 rfl; have px1 := cellOf (o := 1) HU.out.one.1 rfl; have px2 := cellOf (o := 2) HU.out.one.1 rfl; have px3 := cellOf (o := 3) HU.out.one.1 rfl; have px4 := cellOf (o := 4) HU.out.one.1 rfl; have px5 := cellOf (o := 5) HU.out.one.1 rfl
                have pm0 := cellOf (o := 0) HU.out.hm rfl; have pm1 := cellOf (o := 1) HU.out.hm rfl; have pm2 := cellOf (o := 2) HU.out.hm rfl; have pm3 := cellOf (o := 3) HU.out.hm rfl; have pm4 := cellOf (o := 4) HU.out.hm rfl; have pm5 := cellOf (o := 5) HU.out.hm rfl
                clear hU))
            | (go_at_call 35
               (
                refine (HN1.out _ _ _ _ HU.out).mono ?_
                rintro e w11 ⟨rfl, hU⟩
                have HU := Lib.hid hU
                have px0 := cellOf (o := 0) HU.out.one.1 rfl; have px1 := cellOf (o := 1) HU.out.one.1 rfl; have px2 := cellOf (o := 2) HU.out.one.1 rfl; have px3 := cellOf (o := 3) HU.out.one.1 rfl; have px4 := cellOf (o := 4) HU.out.one.1 rfl; have px5 := cellOf (o := 5) HU.out.one.1 rfl
                have pm0 := cellOf (o := 0) HU.out.hm rfl; have pm1 := cellOf (o := 1) HU.out.hm rfl; have pm2 := cellOf (o := 2) HU.out.hm rfl; have pm3 := cellOf (o := 3) HU.out.hm rfl; have pm4 := cellOf (o := 4) HU.out.hm rfl; have pm5 := cellOf (o := 5) HU.out.hm rfl
                clear hU))
            | (go_at_call 22
               (
                refine (HK1.out _ _ _ _ HU.out).mono ?_
                rintro e w12 ⟨rfl, hU⟩
                have HU := Lib.hid hU
                have px0 := cellOf (o := 0) HU.out.one.1 rfl; have px1 := cellOf (o := 1) HU.out.one.1 rfl; have px2 := cellOf (o := 2) HU.out.one.1 rfl; have px3 := cellOf (o := 3) HU.out.one.1 rfl; have px4 := cellOf (o := 4) HU.out.one.1 rfl; have px5 := cellOf (o := 5) HU.out.one.1 rfl
                have pm0 := cellOf (o := 0) HU.out.hm rfl; have pm1 := cellOf (o := 1) HU.out.hm rfl; have pm2 := cellOf (o := 2) HU.out.hm rfl; have pm3 := cellOf (o := 3) HU.out.hm rfl; have pm4 := cellOf (o := 4) HU.out.hm rfl; have pm5 := cellOf (o := 5) HU.out.hm rfl
                clear hU))
            | (go_at_call 16
               (
                refine (HWK.out _ _ _ _ HU.out).mono ?_
                rintro e w13 ⟨rfl, hU⟩
                have HU := Lib.hid hU
                have px0 := cellOf (o := 0) HU.out.one.1 rfl; have px1 := cellOf (o := 1) HU.out.one.1 rfl; have px2 := cellOf (o := 2) HU.out.one.1 rfl; have px3 := cellOf (o := 3) HU.out.one.1 rfl; have px4 := cellOf (o := 4) HU.out.one.1 rfl; have px5 := cellOf (o := 5) HU.out.one.1 rfl
                have pm0 := cellOf (o := 0) HU.out.hm rfl; have pm1 := cellOf (o := 1) HU.out.hm rfl; have pm2 := cellOf (o := 2) HU.out.hm rfl; have pm3 := cellOf (o := 3) HU.out.hm rfl; have pm4 := cellOf (o := 4) HU.out.hm rfl; have pm5 := cellOf (o := 5) HU.out.hm rfl
                clear hU)))
          go_ret
          exact ⟨rfl, HU.out.one.2⟩
      · have HTX := Lib.hid (fun (p : Nat) (P : Nat → Prop) (m : Array Value) (W : World) (h : OneC w #[.int .i64 v.kind, .bool v.b, .int .i64 v.n, .string (strB v.text), .slice pk v.keys.length ck, .slice pl v.list.length cl] v p P m W) => h.text hE hr ht (S := ⟨#[]⟩) (E := checkV Lib.validD v) (by unfold textF; rw [if_neg ka]; rfl) (by unfold textF; rw [if_neg ka]))
        have HCK := Lib.hid (fun (p : Nat) (P : Nat → Prop) (m : Array Value) (W : World) (h : OneC w #[.int .i64 v.kind, .bool v.b, .int .i64 v.n, .string (strB v.text), .slice pk v.keys.length ck, .slice pl v.list.length cl] v p P m W) => h.checkR hx ht rfl)
        have hne : (checkV Lib.validD v == 0) = false := by rw [beq_eq_false_iff_ne]; exact ka
        cases hv : Lib.validD s with
        | true =>
          have HQ1 := Lib.hid (fun (p : Nat) (P : Nat → Prop) (m : Array Value) (W : World) (h : OneC w #[.int .i64 v.kind, .bool v.b, .int .i64 v.n, .string (strB v.text), .slice pk v.keys.length ck, .slice pl v.list.length cl] v p P m W) => h.quote hE hn (S := strB (quoteB s)) (by unfold quoteF; rw [if_pos hv]))
          have HN1 := Lib.hid (fun (p : Nat) (P : Nat → Prop) (m : Array Value) (W : World) (h : OneC w #[.int .i64 v.kind, .bool v.b, .int .i64 v.n, .string (strB v.text), .slice pk v.keys.length ck, .slice pl v.list.length cl] v p P m W) => h.name hE hn (S := strB (nameB s)) (by unfold nameF; rw [if_pos hv]))
          have HRQ := Lib.hid (fun (p : Nat) (P : Nat → Prop) (m : Array Value) (W : World) (h : OneC w #[.int .i64 v.kind, .bool v.b, .int .i64 v.n, .string (strB v.text), .slice pk v.keys.length ck, .slice pl v.list.length cl] v p P m W) => h.quoteR hn)
          have HRN := Lib.hid (fun (p : Nat) (P : Nat → Prop) (m : Array Value) (W : World) (h : OneC w #[.int .i64 v.kind, .bool v.b, .int .i64 v.n, .string (strB v.text), .slice pk v.keys.length ck, .slice pl v.list.length cl] v p P m W) => h.nameR hn)
          rw [hv] at HUT
          clear hE hx hr hl hT hts hs hn ht ka hv HW
          generalize checkV Lib.validD v = E at *
          generalize quoteB s = Q at *
          generalize nameB s = N at *
          go_enter Tryz.func5, Tryz.ntmps5
          go_wp2_with (first
            | (go_at_call 15
               (
                refine HSM.out.mono ?_
                rintro e w1 ⟨rfl, hT1⟩
                have px0 := cellOf (o := 0) hT1.1 rfl; have px1 := cellOf (o := 1) hT1.1 rfl; have px2 := cellOf (o := 2) hT1.1 rfl; have px3 := cellOf (o := 3) hT1.1 rfl; have px4 := cellOf (o := 4) hT1.1 rfl; have px5 := cellOf (o := 5) hT1.1 rfl
                have HT := Lib.hid hT1
                clear hT1 HSM))
            | (go_at_call 17
               (
                refine (HCP.out _ HT.out).mono ?_
                rintro e w2 ⟨u, rfl, hb, y, rfl, hs⟩
                obtain ⟨pk3, ck3, pl3, cl3, rfl, _⟩ := (hs.open HTT.out).open
                obtain ⟨W2, hst, hU, _⟩ := OneC.made (HT.out.below hb) hs
                have HST := Lib.hid hst
                obtain ⟨P, hU⟩ : ∃ P, OneC w #[.int .i64 v.kind, .bool v.b, .int .i64 v.n, .string (strB v.text), .slice pk v.keys.length ck, .slice pl v.list.length cl] v w2.heap.size P #[.int .i64 v.kind, .bool v.b, .int .i64 v.n, .string (strB v.text), .slice pk3 v.keys.length ck3, .slice pl3 v.list.length cl3] W2 := ⟨_, hU⟩
                have HU := Lib.hid hU
                clear hst hU hb hs HT px0 px1 px2 px3 px4 px5))
            | (refine wpList_store rfl _ _ _ _ rfl rfl rfl HST.out ?_
               have px0 := cellOf (o := 0) HU.out.one.1 rfl; have px1 := cellOf (o := 1) HU.out.one.1 rfl; have px2 := cellOf (o := 2) HU.out.one.1 rfl; have px3 := cellOf (o := 3) HU.out.one.1 rfl; have px4 := cellOf (o := 4) HU.out.one.1 rfl; have px5 := cellOf (o := 5) HU.out.one.1 rfl; have pm0 := cellOf (o := 0) HU.out.hm rfl; have pm1 := cellOf (o := 1) HU.out.hm rfl; have pm2 := cellOf (o := 2) HU.out.hm rfl; have pm3 := cellOf (o := 3) HU.out.hm rfl; have pm4 := cellOf (o := 4) HU.out.hm rfl; have pm5 := cellOf (o := 5) HU.out.hm rfl)
            | (go_at_call 27
               (
                refine (HTX.out _ _ _ _ HU.out).mono ?_
                rintro e w5 ⟨rfl, hU⟩
                have HU := Lib.hid hU
                have px0 := cellOf (o := 0) HU.out.one.1 rfl; have px1 := cellOf (o := 1) HU.out.one.1 rfl; have px2 := cellOf (o := 2) HU.out.one.1 rfl; have px3 := cellOf (o := 3) HU.out.one.1 rfl; have px4 := cellOf (o := 4) HU.out.one.1 rfl; have px5 := cellOf (o := 5) HU.out.one.1 rfl
                have pm0 := cellOf (o := 0) HU.out.hm rfl; have pm1 := cellOf (o := 1) HU.out.hm rfl; have pm2 := cellOf (o := 2) HU.out.hm rfl; have pm3 := cellOf (o := 3) HU.out.hm rfl; have pm4 := cellOf (o := 4) HU.out.hm rfl; have pm5 := cellOf (o := 5) HU.out.hm rfl
                clear hU HTX))
            | (go_at_call 28
               (
                refine (HCK.out _ _ _ _ HU.out).mono ?_
                rintro e w6 ⟨rfl, hU⟩
                have HU := Lib.hid hU
                have px0 := cellOf (o := 0) HU.out.one.1 rfl; have px1 := cellOf (o := 1) HU.out.one.1 rfl; have px2 := cellOf (o := 2) HU.out.one.1 rfl; have px3 := cellOf (o := 3) HU.out.one.1 rfl; have px4 := cellOf (o := 4) HU.out.one.1 rfl; have px5 := cellOf (o := 5) HU.out.one.1 rfl
                have pm0 := cellOf (o := 0) HU.out.hm rfl; have pm1 := cellOf (o := 1) HU.out.hm rfl; have pm2 := cellOf (o := 2) HU.out.hm rfl; have pm3 := cellOf (o := 3) HU.out.hm rfl; have pm4 := cellOf (o := 4) HU.out.hm rfl; have pm5 := cellOf (o := 5) HU.out.hm rfl
                clear hU))
            | (go_at_call 30; refine (HUT.out _).mono ?_; rintro e w' ⟨rfl, rfl⟩)
            | (go_at_call 31
               (
                refine (HRQ.out _ _ _ _ HU.out).mono ?_
                rintro e w8 ⟨rfl, hU⟩
                have HU := Lib.hid hU
                have px0 := cellOf (o := 0) HU.out.one.1 rfl; have px1 := cellOf (o := 1) HU.out.one.1 rfl; have px2 := cellOf (o := 2) HU.out.one.1 rfl; have px3 := cellOf (o := 3) HU.out.one.1 rfl; have px4 := cellOf (o := 4) HU.out.one.1 rfl; have px5 := cellOf (o := 5) HU.out.one.1 rfl
                have pm0 := cellOf (o := 0) HU.out.hm rfl; have pm1 := cellOf (o := 1) HU.out.hm rfl; have pm2 := cellOf (o := 2) HU.out.hm rfl; have pm3 := cellOf (o := 3) HU.out.hm rfl; have pm4 := cellOf (o := 4) HU.out.hm rfl; have pm5 := cellOf (o := 5) HU.out.hm rfl
                clear hU))
            | (go_at_call 32
               (
                refine (HRN.out _ _ _ _ HU.out).mono ?_
                rintro e w9 ⟨rfl, hU⟩
                have HU := Lib.hid hU
                have px0 := cellOf (o := 0) HU.out.one.1 rfl; have px1 := cellOf (o := 1) HU.out.one.1 rfl; have px2 := cellOf (o := 2) HU.out.one.1 rfl; have px3 := cellOf (o := 3) HU.out.one.1 rfl; have px4 := cellOf (o := 4) HU.out.one.1 rfl; have px5 := cellOf (o := 5) HU.out.one.1 rfl
                have pm0 := cellOf (o := 0) HU.out.hm rfl; have pm1 := cellOf (o := 1) HU.out.hm rfl; have pm2 := cellOf (o := 2) HU.out.hm rfl; have pm3 := cellOf (o := 3) HU.out.hm rfl; have pm4 := cellOf (o := 4) HU.out.hm rfl; have pm5 := cellOf (o := 5) HU.out.hm rfl
                clear hU))
            | (go_at_call 33; refine (num_any _ _).mono ?_; rintro e w' ⟨rfl, rfl⟩)
            | (go_at_call 34
               (
                refine (HQ1.out _ _ _ _ HU.out).mono ?_
                rintro e w10 ⟨rfl, hU⟩
                have HU := Lib.hid hU
                have px0 := cellOf (o := 0) HU.out.one.1 rfl; have px1 := cellOf (o := 1) HU.out.one.1 rfl; have px2 := cellOf (o := 2) HU.out.one.1 rfl; have px3 := cellOf (o := 3) HU.out.one.1 rfl; have px4 := cellOf (o := 4) HU.out.one.1 rfl; have px5 := cellOf (o := 5) HU.out.one.1 rfl
                have pm0 := cellOf (o := 0) HU.out.hm rfl; have pm1 := cellOf (o := 1) HU.out.hm rfl; have pm2 := cellOf (o := 2) HU.out.hm rfl; have pm3 := cellOf (o := 3) HU.out.hm rfl; have pm4 := cellOf (o := 4) HU.out.hm rfl; have pm5 := cellOf (o := 5) HU.out.hm rfl
                clear hU))
            | (go_at_call 35
               (
                refine (HN1.out _ _ _ _ HU.out).mono ?_
                rintro e w11 ⟨rfl, hU⟩
                have HU := Lib.hid hU
                have px0 := cellOf (o := 0) HU.out.one.1 rfl; have px1 := cellOf (o := 1) HU.out.one.1 rfl; have px2 := cellOf (o := 2) HU.out.one.1 rfl; have px3 := cellOf (o := 3) HU.out.one.1 rfl; have px4 := cellOf (o := 4) HU.out.one.1 rfl; have px5 := cellOf (o := 5) HU.out.one.1 rfl
                have pm0 := cellOf (o := 0) HU.out.hm rfl; have pm1 := cellOf (o := 1) HU.out.hm rfl; have pm2 := cellOf (o := 2) HU.out.hm rfl; have pm3 := cellOf (o := 3) HU.out.hm rfl; have pm4 := cellOf (o := 4) HU.out.hm rfl; have pm5 := cellOf (o := 5) HU.out.hm rfl
                clear hU))
            | (go_at_call 22
               (
                refine (HK1.out _ _ _ _ HU.out).mono ?_
                rintro e w12 ⟨rfl, hU⟩
                have HU := Lib.hid hU
                have px0 := cellOf (o := 0) HU.out.one.1 rfl; have px1 := cellOf (o := 1) HU.out.one.1 rfl; have px2 := cellOf (o := 2) HU.out.one.1 rfl; have px3 := cellOf (o := 3) HU.out.one.1 rfl; have px4 := cellOf (o := 4) HU.out.one.1 rfl; have px5 := cellOf (o := 5) HU.out.one.1 rfl
                have pm0 := cellOf (o := 0) HU.out.hm rfl; have pm1 := cellOf (o := 1) HU.out.hm rfl; have pm2 := cellOf (o := 2) HU.out.hm rfl; have pm3 := cellOf (o := 3) HU.out.hm rfl; have pm4 := cellOf (o := 4) HU.out.hm rfl; have pm5 := cellOf (o := 5) HU.out.hm rfl
                clear hU))
            | (go_at_call 16
               (
                refine (HWK.out _ _ _ _ HU.out).mono ?_
                rintro e w13 ⟨rfl, hU⟩
                have HU := Lib.hid hU
                have px0 := cellOf (o := 0) HU.out.one.1 rfl; have px1 := cellOf (o := 1) HU.out.one.1 rfl; have px2 := cellOf (o := 2) HU.out.one.1 rfl; have px3 := cellOf (o := 3) HU.out.one.1 rfl; have px4 := cellOf (o := 4) HU.out.one.1 rfl; have px5 := cellOf (o := 5) HU.out.one.1 rfl
                have pm0 := cellOf (o := 0) HU.out.hm rfl; have pm1 := cellOf (o := 1) HU.out.hm rfl; have pm2 := cellOf (o := 2) HU.out.hm rfl; have pm3 := cellOf (o := 3) HU.out.hm rfl; have pm4 := cellOf (o := 4) HU.out.hm rfl; have pm5 := cellOf (o := 5) HU.out.hm rfl
                clear hU)))
          go_ret
          exact ⟨rfl, HU.out.one.2⟩
        | false =>
          have HQ1 := Lib.hid (fun (p : Nat) (P : Nat → Prop) (m : Array Value) (W : World) (h : OneC w #[.int .i64 v.kind, .bool v.b, .int .i64 v.n, .string (strB v.text), .slice pk v.keys.length ck, .slice pl v.list.length cl] v p P m W) => h.quote hE hn (S := ⟨#[]⟩) (by unfold quoteF; rw [hv]; rfl))
          have HN1 := Lib.hid (fun (p : Nat) (P : Nat → Prop) (m : Array Value) (W : World) (h : OneC w #[.int .i64 v.kind, .bool v.b, .int .i64 v.n, .string (strB v.text), .slice pk v.keys.length ck, .slice pl v.list.length cl] v p P m W) => h.name hE hn (S := ⟨#[]⟩) (by unfold nameF; rw [hv]; rfl))
          rw [hv] at HUT
          clear hE hx hr hl hT hts hs hn ht ka hv HW
          generalize checkV Lib.validD v = E at *
          go_enter Tryz.func5, Tryz.ntmps5
          go_wp2_with (first
            | (go_at_call 15
               (
                refine HSM.out.mono ?_
                rintro e w1 ⟨rfl, hT1⟩
                have px0 := cellOf (o := 0) hT1.1 rfl; have px1 := cellOf (o := 1) hT1.1 rfl; have px2 := cellOf (o := 2) hT1.1 rfl; have px3 := cellOf (o := 3) hT1.1 rfl; have px4 := cellOf (o := 4) hT1.1 rfl; have px5 := cellOf (o := 5) hT1.1 rfl
                have HT := Lib.hid hT1
                clear hT1 HSM))
            | (go_at_call 17
               (
                refine (HCP.out _ HT.out).mono ?_
                rintro e w2 ⟨u, rfl, hb, y, rfl, hs⟩
                obtain ⟨pk3, ck3, pl3, cl3, rfl, _⟩ := (hs.open HTT.out).open
                obtain ⟨W2, hst, hU, _⟩ := OneC.made (HT.out.below hb) hs
                have HST := Lib.hid hst
                obtain ⟨P, hU⟩ : ∃ P, OneC w #[.int .i64 v.kind, .bool v.b, .int .i64 v.n, .string (strB v.text), .slice pk v.keys.length ck, .slice pl v.list.length cl] v w2.heap.size P #[.int .i64 v.kind, .bool v.b, .int .i64 v.n, .string (strB v.text), .slice pk3 v.keys.length ck3, .slice pl3 v.list.length cl3] W2 := ⟨_, hU⟩
                have HU := Lib.hid hU
                clear hst hU hb hs HT px0 px1 px2 px3 px4 px5))
            | (refine wpList_store rfl _ _ _ _ rfl rfl rfl HST.out ?_
               have px0 := cellOf (o := 0) HU.out.one.1 rfl; have px1 := cellOf (o := 1) HU.out.one.1 rfl; have px2 := cellOf (o := 2) HU.out.one.1 rfl; have px3 := cellOf (o := 3) HU.out.one.1 rfl; have px4 := cellOf (o := 4) HU.out.one.1 rfl; have px5 := cellOf (o := 5) HU.out.one.1 rfl; have pm0 := cellOf (o := 0) HU.out.hm rfl; have pm1 := cellOf (o := 1) HU.out.hm rfl; have pm2 := cellOf (o := 2) HU.out.hm rfl; have pm3 := cellOf (o := 3) HU.out.hm rfl; have pm4 := cellOf (o := 4) HU.out.hm rfl; have pm5 := cellOf (o := 5) HU.out.hm rfl)
            | (go_at_call 27
               (
                refine (HTX.out _ _ _ _ HU.out).mono ?_
                rintro e w5 ⟨rfl, hU⟩
                have HU := Lib.hid hU
                have px0 := cellOf (o := 0) HU.out.one.1 rfl; have px1 := cellOf (o := 1) HU.out.one.1 rfl; have px2 := cellOf (o := 2) HU.out.one.1 rfl; have px3 := cellOf (o := 3) HU.out.one.1 rfl; have px4 := cellOf (o := 4) HU.out.one.1 rfl; have px5 := cellOf (o := 5) HU.out.one.1 rfl
                have pm0 := cellOf (o := 0) HU.out.hm rfl; have pm1 := cellOf (o := 1) HU.out.hm rfl; have pm2 := cellOf (o := 2) HU.out.hm rfl; have pm3 := cellOf (o := 3) HU.out.hm rfl; have pm4 := cellOf (o := 4) HU.out.hm rfl; have pm5 := cellOf (o := 5) HU.out.hm rfl
                clear hU HTX))
            | (go_at_call 28
               (
                refine (HCK.out _ _ _ _ HU.out).mono ?_
                rintro e w6 ⟨rfl, hU⟩
                have HU := Lib.hid hU
                have px0 := cellOf (o := 0) HU.out.one.1 rfl; have px1 := cellOf (o := 1) HU.out.one.1 rfl; have px2 := cellOf (o := 2) HU.out.one.1 rfl; have px3 := cellOf (o := 3) HU.out.one.1 rfl; have px4 := cellOf (o := 4) HU.out.one.1 rfl; have px5 := cellOf (o := 5) HU.out.one.1 rfl
                have pm0 := cellOf (o := 0) HU.out.hm rfl; have pm1 := cellOf (o := 1) HU.out.hm rfl; have pm2 := cellOf (o := 2) HU.out.hm rfl; have pm3 := cellOf (o := 3) HU.out.hm rfl; have pm4 := cellOf (o := 4) HU.out.hm rfl; have pm5 := cellOf (o := 5) HU.out.hm rfl
                clear hU))
            | (go_at_call 30; refine (HUT.out _).mono ?_; rintro e w' ⟨rfl, rfl⟩)
            | (go_at_call 33; refine (num_any _ _).mono ?_; rintro e w' ⟨rfl, rfl⟩)
            | (go_at_call 34
               (
                refine (HQ1.out _ _ _ _ HU.out).mono ?_
                rintro e w10 ⟨rfl, hU⟩
                have HU := Lib.hid hU
                have px0 := cellOf (o := 0) HU.out.one.1 rfl; have px1 := cellOf (o := 1) HU.out.one.1 rfl; have px2 := cellOf (o := 2) HU.out.one.1 rfl; have px3 := cellOf (o := 3) HU.out.one.1 rfl; have px4 := cellOf (o := 4) HU.out.one.1 rfl; have px5 := cellOf (o := 5) HU.out.one.1 rfl
                have pm0 := cellOf (o := 0) HU.out.hm rfl; have pm1 := cellOf (o := 1) HU.out.hm rfl; have pm2 := cellOf (o := 2) HU.out.hm rfl; have pm3 := cellOf (o := 3) HU.out.hm rfl; have pm4 := cellOf (o := 4) HU.out.hm rfl; have pm5 := cellOf (o := 5) HU.out.hm rfl
                clear hU))
            | (go_at_call 35
               (
                refine (HN1.out _ _ _ _ HU.out).mono ?_
                rintro e w11 ⟨rfl, hU⟩
                have HU := Lib.hid hU
                have px0 := cellOf (o := 0) HU.out.one.1 rfl; have px1 := cellOf (o := 1) HU.out.one.1 rfl; have px2 := cellOf (o := 2) HU.out.one.1 rfl; have px3 := cellOf (o := 3) HU.out.one.1 rfl; have px4 := cellOf (o := 4) HU.out.one.1 rfl; have px5 := cellOf (o := 5) HU.out.one.1 rfl
                have pm0 := cellOf (o := 0) HU.out.hm rfl; have pm1 := cellOf (o := 1) HU.out.hm rfl; have pm2 := cellOf (o := 2) HU.out.hm rfl; have pm3 := cellOf (o := 3) HU.out.hm rfl; have pm4 := cellOf (o := 4) HU.out.hm rfl; have pm5 := cellOf (o := 5) HU.out.hm rfl
                clear hU))
            | (go_at_call 22
               (
                refine (HK1.out _ _ _ _ HU.out).mono ?_
                rintro e w12 ⟨rfl, hU⟩
                have HU := Lib.hid hU
                have px0 := cellOf (o := 0) HU.out.one.1 rfl; have px1 := cellOf (o := 1) HU.out.one.1 rfl; have px2 := cellOf (o := 2) HU.out.one.1 rfl; have px3 := cellOf (o := 3) HU.out.one.1 rfl; have px4 := cellOf (o := 4) HU.out.one.1 rfl; have px5 := cellOf (o := 5) HU.out.one.1 rfl
                have pm0 := cellOf (o := 0) HU.out.hm rfl; have pm1 := cellOf (o := 1) HU.out.hm rfl; have pm2 := cellOf (o := 2) HU.out.hm rfl; have pm3 := cellOf (o := 3) HU.out.hm rfl; have pm4 := cellOf (o := 4) HU.out.hm rfl; have pm5 := cellOf (o := 5) HU.out.hm rfl
                clear hU))
            | (go_at_call 16
               (
                refine (HWK.out _ _ _ _ HU.out).mono ?_
                rintro e w13 ⟨rfl, hU⟩
                have HU := Lib.hid hU
                have px0 := cellOf (o := 0) HU.out.one.1 rfl; have px1 := cellOf (o := 1) HU.out.one.1 rfl; have px2 := cellOf (o := 2) HU.out.one.1 rfl; have px3 := cellOf (o := 3) HU.out.one.1 rfl; have px4 := cellOf (o := 4) HU.out.one.1 rfl; have px5 := cellOf (o := 5) HU.out.one.1 rfl
                have pm0 := cellOf (o := 0) HU.out.hm rfl; have pm1 := cellOf (o := 1) HU.out.hm rfl; have pm2 := cellOf (o := 2) HU.out.hm rfl; have pm3 := cellOf (o := 3) HU.out.hm rfl; have pm4 := cellOf (o := 4) HU.out.hm rfl; have pm5 := cellOf (o := 5) HU.out.hm rfl
                clear hU)))
          go_ret
          exact ⟨rfl, HU.out.one.2⟩
    · have d1 : decide ((2000 : Int) < (s.length : Int)) = true := by rw [decide_eq_true_iff]; omega
      clear hE hx hr hl hT hts hs hn
      go_enter Tryz.func5, Tryz.ntmps5
      go_wp2_with (first
        | (go_at_call 15
           (
            refine HSM.out.mono ?_
            rintro e w1 ⟨rfl, hT1⟩
            have px0 := cellOf (o := 0) hT1.1 rfl; have px1 := cellOf (o := 1) hT1.1 rfl; have px2 := cellOf (o := 2) hT1.1 rfl; have px3 := cellOf (o := 3) hT1.1 rfl; have px4 := cellOf (o := 4) hT1.1 rfl; have px5 := cellOf (o := 5) hT1.1 rfl
            have HT := Lib.hid hT1
            clear hT1 HSM))
        | (go_at_call 16; refine (HW.out _ HT.out).mono ?_; rintro e w9 ⟨rfl, hb⟩; have HB := Lib.hid hb; clear hb))
      go_ret
      exact ⟨rfl, HB.out.2⟩
  · rw [decide_eq_false hs] at HSM
    clear hE hx hr hl hT hts hs
    go_enter Tryz.func5, Tryz.ntmps5
    go_wp2_with (first
      | (go_at_call 15
         (
          refine HSM.out.mono ?_
          rintro e w1 ⟨rfl, hT1⟩
          have px0 := cellOf (o := 0) hT1.1 rfl; have px1 := cellOf (o := 1) hT1.1 rfl; have px2 := cellOf (o := 2) hT1.1 rfl; have px3 := cellOf (o := 3) hT1.1 rfl; have px4 := cellOf (o := 4) hT1.1 rfl; have px5 := cellOf (o := 5) hT1.1 rfl
          have HT := Lib.hid hT1
          clear hT1 HSM))
      | (go_at_call 16; refine (HW.out _ HT.out).mono ?_; rintro e w9 ⟨rfl, hb⟩; have HB := Lib.hid hb; clear hb))
    go_ret
    exact ⟨rfl, HB.out.2⟩
end Go.Proofs.YtnkaegdnjfpliaaGreatDoor

/-! ValueTexts: for every value and every text the law returns true, and the arguments read as they did. The listed tables of Go's library read as the program's text lays them. -/
namespace Go.Proofs.YtnkaegdnjfpliaaGreatDoor
set_option linter.unusedSimpArgs false
set_option linter.unusedVariables false
open Go.ChangeShapes Go.WideShapes Go.ChangeAt Go.RowKit Go.Joins

set_option maxRecDepth 100000 in
theorem valueTexts_lifted (os : Os) (started : os.Started) (H : Type) (enc : TypeId × Value → H) :
    ReturnsInHanded {} Tryz.checked os 5 .any (fun w args => (Rows.valueTextsSpec.pre enc Tryz.prog Tryz.f5 [] false w args ∧ laidMetH Tryz.prog LD w) ∧ sizedMet enc Tryz.prog Tryz.f5 (OpenSpec.ofChange Rows.valueTextsSpec) false w args)
      (Rows.valueTextsSpec.post enc Tryz.prog Tryz.f5 false true false false) := by
  refine returns_tied started (by kernel_rfl) Tryz.func5 #[.agg (flatX 0 false 0 []), .string ⟨#[]⟩] (by kernel_rfl) (by kernel_rfl) (by kernel_rfl) (wit_shape _ _) (wit_laid _ _) ?_
  intro W base args ds gs before hval0 hW hz hE
  have hval : ∀ (j : Nat) t v, Tryz.f5.params[j]? = some t → args[j]? = some v → Value.okWide Tryz.prog W .any base t v := hval0
  have hW' := hW
  obtain ⟨p, q, hA0, hV, rfl, hfz, hnd⟩ := hW
  have hA : DataW.TrodAll enc Tryz.prog W 0 (fun _ => true) true Tryz.f5.params.toList args.toList ds p := hA0
  rw [Tryz.params5] at hA hval
  obtain ⟨v0, vs0, d0, ds0, p0, q0, hargs, rfl, rfl, h0, r0⟩ := trodAll_cons hA
  obtain ⟨v1, vs1, d1, ds1, p1, q1, rfl, rfl, rfl, h1, r1⟩ := trodAll_cons r0
  obtain ⟨rfl, rfl, rfl⟩ := trodAll_nil r1
  obtain ⟨rfl, rfl⟩ := trodVars_none hV
  obtain rfl : args = #[v0, v1] := by cases args; simp_all
  rw [Tryz.params5] at hz
  obtain ⟨z0, z1⟩ := fits_two hz
  obtain ⟨a0, x0, rfl, hx0, hr0⟩ := value_in (hval 0 26 v0 rfl rfl) h0 z0
  obtain ⟨a1, rfl, hl1⟩ := string_in (hval 1 9 v1 rfl rfl) h1 z1
  clear hA0 hval0
  refine (texts_law hE hx0 hr0 hl1).mono fun e W' ⟨he, hg⟩ => ?_
  subst he
  exact ⟨_, rfl, law_post laidT (by decide +kernel) Tryz.underlying4 (by kernel_rfl) rfl hW' rfl hg⟩
theorem valueTexts_row : Rows.ValueTextsSaid :=
  OpenClaim.holds_of_wide 5 Tryz.f5 rfl rfl rfl rfl rfl rfl rfl ⟨rfl, rfl, rfl, rfl, rfl⟩ rfl rfl rfl rfl rfl (by kernel_rfl) Tryz.func5 (by kernel_rfl)
    (of_decide_eq_true (by kernel_rfl)) (by unfold Func.isWrapper; first | (rw [if_pos (by decide +kernel)]; kernel_rfl) | (rw [if_neg (by decide +kernel)]; exact ⟨rfl, rfl⟩))
    (fun os started H enc _ => valueTexts_lifted os started H enc)
theorem texts_law_holds : Rows.ValueTextsCardSaid :=
  Claim7.holds_tied_plain_at .later [] [.data, .data, .data, .data, .pinned] true (true, "541050135a4ae63573153b942905868de3e811d8a5bb89e3a2a615778747f658") true
    valueTexts_row (fun _ h => by cases h) (by kernel_rfl) (fun _ h => by cases h) valueTexts_row_tie rfl ⟨rfl, rfl⟩ (by kernel_rfl) rfl
    (fun f fn hf hfn => by
      obtain rfl : f = 5 := Option.some.inj ((show Tryz.prog.funcNamed "lattice/latticelaw01.ValueTexts" = some 5 by kernel_rfl).symm.trans hf) |>.symm
      obtain rfl : fn = Tryz.f5 := (Option.some.inj (Tryz.func5.symm.trans hfn)).symm
      exact ⟨by kernel_rfl, fun j t ht => by
        rw [Tryz.params5] at ht
        have hm : t ∈ [26, 9] := by simpa using Array.mem_of_getElem? ht
        have hall : ([26, 9].all fun u => !Tryz.prog.wantsStandIn u) = true := by kernel_rfl
        exact (show Tryz.prog.wantsStandIn t = false by simpa using List.all_eq_true.1 hall t hm)⟩)
    (by kernel_rfl)
#print axioms texts_law_holds
end Go.Proofs.YtnkaegdnjfpliaaGreatDoor
