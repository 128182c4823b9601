/- CodecValues: for every value and every bytes the law returns true, and the arguments read as they did. The listed tables of Go's library read as the program's text lays them. -/
import Derived.Test.YthdfedfholmbmaaGreatDoorZCvalsa
import Derived.Test.YthdfedfholmbmaaGreatDoorZCvalse
import Derived.Test.YthdfedfholmbmaaGreatDoorCards
import Derived.Test.YthdfedfholmbmaaGreatDoorTie
set_option linter.unusedSimpArgs false
set_option linter.unusedVariables false
set_option maxRecDepth 100000
set_option maxHeartbeats 64000000
namespace Go.Proofs.YthdfedfholmbmaaGreatDoor
open Go.RowKit
theorem cvals_any {w : World} (hE : Env w) {v : V} {x : Array Value} (hx : VRd w v x) (hr1 : rngV v) {p : Option Addr} {c : Nat} {bs0 : List UInt8} (hrb : RdB w (.slice p bs0.length c) bs0) :
 Calls Tryz.prog 4 #[.agg x, .slice p bs0.length c] w fun e w' => e = .returned (.bool true) ∧ Below w.heap.size w w' := by
 have z1 := Kdi hrb
 have hxs := ef_val.size hx
 have hb1 := Kae (w := w) (.cells x 48)
 have HBX1 := Lib.hid (show Lies w.heap.size 48 x (w.alloc (.cells x 48)) from heap_alloc_new w (.cells x 48))
 have HCUR := Lib.hid hb1
 have HE := Lib.hid hE
 have HZ1 := Lib.hid (fun W (g : Below w.heap.size w W) => (show Calls Tryz.prog 19 #[.agg x, .int .i64 3000] W fun e w' => (∃ r : Nat, e = .returned (.int .i64 (r : Int)) ∧ SizeLo 3000 (totV v) r) ∧ Below W.heap.size W w' from vsz_any v 3000 (by omega) W x (hx.below g)))
 have HRB := Lib.hid (hrb.below hb1)
 by_cases ht1 : totV v ≤ 3000
 rotate_left
 ·clear hx hrb hb1 hE hr1
  go_enter Tryz.func4, Tryz.ntmps4
  go_wp2_with (first
   | ((with_reducible apply Kal); exact HBX1.out.get hxs; exact rfl)
   | ((with_reducible apply Kbc); exact HBX1.out.get hxs; exact rfl; exact rfl)
   | (go_at_call 19; refine (HZ1.out _ HCUR.out).mono ?_; rintro e W1 ⟨⟨r, rfl, hr⟩, hb1⟩; have z5 : (3000 : Int) < (r : Int) := (by have := hr.2.1 (by omega); omega); replace HCUR := Lib.hid (Kaa HCUR.out hb1); clear HZ1 hr hb1)
   | (go_at_call 10
      (
       refine (Kbv (HE.out.b HCUR.out)).mono ?_
       rintro e W13 ⟨rfl, hb13⟩
       replace HCUR := Lib.hid (Kaa HCUR.out hb13)
       clear hb13)))
  go_ret
  exact ⟨rfl, HCUR.out⟩
 by_cases hbl : bs0.length ≤ 3000
 rotate_left
 ·have hbi : (3000 : Int) < (bs0.length : Int) := by omega
  clear hx hrb hb1 hE hr1
  go_enter Tryz.func4, Tryz.ntmps4
  go_wp2_with (first
   | ((with_reducible apply Kal); exact HBX1.out.get hxs; exact rfl)
   | ((with_reducible apply Kbc); exact HBX1.out.get hxs; exact rfl; exact rfl)
   | (go_at_call 19; refine (HZ1.out _ HCUR.out).mono ?_; rintro e W1 ⟨⟨r, rfl, hr⟩, hb1⟩; have z5 : ¬ (3000 : Int) < (r : Int) := (by have := hr.1 (by omega); omega); have z5b : decide ((3000 : Int) < (r : Int)) = false := decide_eq_false z5; replace HCUR := Lib.hid (Kaa HCUR.out hb1); clear HZ1 hr hb1)
   | (go_at_call 10
      (
       refine (Kbv (HE.out.b HCUR.out)).mono ?_
       rintro e W13 ⟨rfl, hb13⟩
       replace HCUR := Lib.hid (Kaa HCUR.out hb13)
       clear hb13)))
  go_ret
  exact ⟨rfl, HCUR.out⟩
 have hbi : ¬ (3000 : Int) < (bs0.length : Int) := by omega
 have HC1 := Lib.hid (fun W (g : Below w.heap.size w W) => codecValue_any (hE.b g) (hx.below g) hr1 (by omega))
 have HK1 := Lib.hid (fun W (g : Below w.heap.size w W) => Kc6 (by omega) (hx.below g))
 have HR2 := Lib.hid (fun W (g : Below w.heap.size w W) (p : Option Addr) (c : Nat) (hd : RdB W (.slice p bs0.length c) bs0) => readPub_V (hE.b g) hd (by omega))
 have hwl := Kef hr1 ht1
 have hdv : okV v = true → Hid (∀ W, Below w.heap.size w W → Calls Tryz.prog 22 #[.agg x] W fun e w' => ∃ o, e = .returned o ∧ Buf W w' o (valC v)) := fun h => Lib.hid fun W g => Kd9 v 64 (Kdb h hr1 (by omega)) W x (hx.below g) (by omega)
 have hway := way_of hbl
 have hrng : rngV (Ka1 64 (bs0, false)).1 := (ds_val 64).rng _
 have hsiz := (ds_val 64).size (bs0, false)
 have HVR := Lib.hid (fun (w : World) W q (hd : DSt 40 w W q bs0 false) => (show Calls Tryz.prog 24 #[.pointer (some ⟨q, 0, none⟩), .int .i64 64] W (Docs w W q (Ka1 64 (bs0, false)) (okVal W)) from dval_any w 64 (by omega) W q bs0 false hd (by omega)))
 have hrt : ∀ y, readW (rdVal 64) okV bs0 = some y → totV y ≤ 3000 := fun y h => by have := (readV_tot h).1; omega
 have HT0 : Hid (totV ((readW (rdVal 64) okV bs0).getD val0) ≤ 1000000) := Lib.hid (by
  cases hr : readW (rdVal 64) okV bs0 with
  | none => exact Nat.le_trans (by decide) (Nat.le_refl _)
  | some y => have := hrt y hr; simp only [Option.getD_some]; omega)
 generalize readW (rdVal 64) okV bs0 = o at *
 generalize Ka1 64 (bs0, false) = r at *
 obtain ⟨v1, l1, b1⟩ := r
 have HW := Lib.hid (And.intro hway (And.intro hrng hsiz))
 clear hway hrng hsiz hrt
 have hok : okV v = (Kbs Lib.validD v == 0) := rfl
 cases ok1 : okV v
 ·have hc0 : (Kbs Lib.validD v == 0) = false := hok.symm.trans ok1
  have hc1 : Kbs Lib.validD v ≠ 0 := by simpa using hc0
  have hout : outV v = [] := by unfold outV; rw [ok1]; rfl
  rw [ok1, hout, errG_no] at HC1
  generalize Kbs Lib.validD v = k at *
  clear hok ok1 hdv hx hrb hb1 hE hr1 hout hwl
  go_enter Tryz.func4, Tryz.ntmps4
  go_wp2_with (first
   | ((with_reducible apply Kal); exact HBX1.out.get hxs; exact rfl)
   | ((with_reducible apply Kbc); exact HBX1.out.get hxs; exact rfl; exact rfl)
   | (go_at_call 19
      (
       refine (HZ1.out _ HCUR.out).mono ?_
       rintro e W1 ⟨⟨r, rfl, hr⟩, hb1⟩
       have z5 : ¬ (3000 : Int) < (r : Int) := by have := hr.1 (by omega); omega
       have z5b : decide ((3000 : Int) < (r : Int)) = false := decide_eq_false z5
       replace HCUR := Lib.hid (Kaa HCUR.out hb1)
       try replace HBX1 := Lib.hid (HBX1.out.below hb1)
       try replace HRB := Lib.hid (HRB.out.below hb1)
       clear HZ1 hr hb1))
   | (go_at_call 20
      (
       refine (HC1.out _ HCUR.out).mono ?_
       rintro e W3 ho
       obtain ⟨p1, c1, rfl, hd1, hb3⟩ := ho.rd
       replace HCUR := Lib.hid (Kaa HCUR.out hb3)
       try replace HBX1 := Lib.hid (HBX1.out.below hb3)
       try replace HRB := Lib.hid (HRB.out.below hb3)
       have HD1 := Lib.hid hd1
       clear HC1 ho hd1 hb3))
   | (go_at_call 21
      (
       refine (HK1.out _ HCUR.out).mono ?_
       rintro e W4 ⟨rfl, hb4⟩
       replace HCUR := Lib.hid (Kaa HCUR.out hb4)
       try replace HD1 := Lib.hid (HD1.out.below hb4)
       try replace HBX1 := Lib.hid (HBX1.out.below hb4)
       try replace HRB := Lib.hid (HRB.out.below hb4)
       clear HK1 hb4))
   | (go_at_call 12; refine (Kc3 _ _).mono ?_; rintro e w' ⟨rfl, rfl⟩)
   | (go_at_call 23
      (
       refine (HR2.out _ HCUR.out _ _ HRB.out).mono ?_
       rintro e W11 hg
       have HG := Lib.hid hg
       obtain ⟨cs2, rfl, hcs2, hb11⟩ := HG.out
       have HS2 := Lib.hid (Ka0.fresh (P := Tryz.prog) (W := W11) hcs2.size6 hcs2.ones)
       have hcz2 := hcs2.size6
       replace HCUR := Lib.hid (Kaa HCUR.out hb11)
       try replace HBX1 := Lib.hid (HBX1.out.below hb11)
       try replace HRB := Lib.hid (HRB.out.below hb11)
       have HX2 := Lib.hid (hcs2.rd HT0.out)
       clear HR2 HG hg hcs2 hb11))
   | ((with_reducible apply Kac); exact HS2.out _ rfl; exact rfl; exact rfl
      (
       have hbn := Kae (w := W11) (.cells cs2 48)
       have HBX3 := Lib.hid (show Lies W11.heap.size 48 cs2 (W11.alloc (.cells cs2 48)) from heap_alloc_new W11 _)
       replace HCUR := Lib.hid (Kaa HCUR.out hbn)
       try replace HD1 := Lib.hid (HD1.out.below hbn)
       try replace HX1 := Lib.hid (HX1.out.below hbn)
       try replace HX2 := Lib.hid (HX2.out.below hbn)
       try replace HBX1 := Lib.hid (HBX1.out.below hbn)
       try replace HBX2 := Lib.hid (HBX2.out.below hbn)
       try replace HRB := Lib.hid (HRB.out.below hbn)
       try replace HDS := Lib.hid (HDS.out.below hbn)
       clear hbn HS2
       generalize W11.alloc (.cells cs2 48) = W11n at *
       generalize W11.heap.size = B11 at *)))
  have hbx := Kae (w := W11n) (.cells #[.slice p bs0.length c, .bool false] 40)
  have hbe := heap_alloc_new W11n (.cells #[.slice p bs0.length c, .bool false] 40)
  have HRV := Lib.hid (HVR.out W11n _ W11n.heap.size ⟨hbx, Nat.le_refl _, p, c, hbe, HRB.out⟩)
  obtain ⟨hway, hrng, hsiz⟩ := HW.out
  clear hbx hbe HVR HW
  try clear HBX1
  generalize W11n.alloc (.cells #[.slice p bs0.length c, .bool false] 40) = W12 at *
  rcases hway with ⟨rfl, rfl⟩ | ⟨rfl, hl1, rfl⟩ | ⟨rfl, rfl, hk1, rfl⟩ | ⟨rfl, rfl, hk1, hne, rfl⟩ | ⟨rfl, rfl, hk1, he, rfl⟩
  ·clear hsiz hrng
   go_wp2_with (first
    | (go_at_call 24
       (
        refine HRV.out.mono ?_
        rintro e W14 ⟨v14, rfl, ⟨cs, rfl, hown⟩, hD, hT⟩
        replace hD : DSt 40 W11n W14 W11n.heap.size l1 true := hD
        replace hown : VOwn W14 (fun b => W12.heap.size ≤ b) v1 cs := hown
        have hb14 := hD.b
        replace HCUR := Lib.hid (Kaa HCUR.out hb14)
        try replace HX2 := Lib.hid (HX2.out.below hb14)
        try replace HBX3 := Lib.hid (HBX3.out.below hb14)
        try replace HRB := Lib.hid (HRB.out.below hb14)
        have HS3 := Lib.hid (Ka0.fresh (P := Tryz.prog) (W := W14) hown.size6 hown.ones)
        have hcz := hown.size6
        have HDS := Lib.hid hD
        clear hown hT hD hb14 HRV))
    | (go_at_call 12; refine (Kc3 _ _).mono ?_; rintro e w' ⟨rfl, rfl⟩)
    | (go_at_call 25
       (
        refine (Kb6 val0 _ _ _ HX2.out (val0_rd _)).mono ?_
        rintro e W17 ⟨rfl, hb17⟩
        replace HCUR := Lib.hid (Kaa HCUR.out hb17)
        clear hb17))
    | ((with_reducible apply Kac); exact HS3.out _ rfl; exact rfl; exact rfl
       (
        have hbn := Kae (w := W14) (.cells cs 48)
        have HBX2 := Lib.hid (show Lies W14.heap.size 48 cs (W14.alloc (.cells cs 48)) from heap_alloc_new W14 _)
        replace HCUR := Lib.hid (Kaa HCUR.out hbn)
        try replace HD1 := Lib.hid (HD1.out.below hbn)
        try replace HX1 := Lib.hid (HX1.out.below hbn)
        try replace HX2 := Lib.hid (HX2.out.below hbn)
        try replace HBX1 := Lib.hid (HBX1.out.below hbn)
        try replace HBX3 := Lib.hid (HBX3.out.below hbn)
        try replace HRB := Lib.hid (HRB.out.below hbn)
        try replace HDS := Lib.hid (HDS.out.below hbn)
        clear hbn HS3
        generalize W14.alloc (.cells cs 48) = W14n at *
        generalize W14.heap.size = B14 at *
        obtain ⟨pz, cz, m1, m2⟩ := HDS.out.box
        have r0 := Kab (o := 0) m1 rfl
        have r1 := Kab (o := 1) m1 rfl
        clear m1 m2 HDS))
    | ((with_reducible apply Kal); exact HBX2.out.get hcz; exact rfl)
    | ((with_reducible apply Kbc); exact HBX2.out.get hcz; exact rfl; exact rfl)
    | ((with_reducible apply Kal); exact HBX3.out.get hcz2; exact rfl)
    | ((with_reducible apply Kbc); exact HBX3.out.get hcz2; exact rfl; exact rfl)
    | (go_at_call 10
       (
        refine (Kbv (HE.out.b HCUR.out)).mono ?_
        rintro e W13 ⟨rfl, hb13⟩
        replace HCUR := Lib.hid (Kaa HCUR.out hb13)
        clear hb13)))
   go_ret
   exact ⟨rfl, HCUR.out⟩
  ·have ht1 : totV v1 ≤ 1000000 := by have := hsiz rfl; omega
   have hli : (0 : Int) < (l1.length : Int) := by omega
   clear hsiz hrng
   go_wp2_with (first
    | (go_at_call 24
       (
        refine HRV.out.mono ?_
        rintro e W14 ⟨v14, rfl, ⟨cs, rfl, hown⟩, hD, hT⟩
        replace hD : DSt 40 W11n W14 W11n.heap.size l1 false := hD
        replace hown : VOwn W14 (fun b => W12.heap.size ≤ b) v1 cs := hown
        have hb14 := hD.b
        replace HCUR := Lib.hid (Kaa HCUR.out hb14)
        try replace HX2 := Lib.hid (HX2.out.below hb14)
        try replace HBX3 := Lib.hid (HBX3.out.below hb14)
        try replace HRB := Lib.hid (HRB.out.below hb14)
        have HS3 := Lib.hid (Ka0.fresh (P := Tryz.prog) (W := W14) hown.size6 hown.ones)
        have hcz := hown.size6
        have HX1 := Lib.hid (hown.rd ht1)
        have HDS := Lib.hid hD
        clear hown hT hD hb14 HRV))
    | (go_at_call 12; refine (Kc3 _ _).mono ?_; rintro e w' ⟨rfl, rfl⟩)
    | (go_at_call 25
       (
        refine (Kb6 val0 _ _ _ HX2.out (val0_rd _)).mono ?_
        rintro e W17 ⟨rfl, hb17⟩
        replace HCUR := Lib.hid (Kaa HCUR.out hb17)
        clear hb17))
    | ((with_reducible apply Kac); exact HS3.out _ rfl; exact rfl; exact rfl
       (
        have hbn := Kae (w := W14) (.cells cs 48)
        have HBX2 := Lib.hid (show Lies W14.heap.size 48 cs (W14.alloc (.cells cs 48)) from heap_alloc_new W14 _)
        replace HCUR := Lib.hid (Kaa HCUR.out hbn)
        try replace HD1 := Lib.hid (HD1.out.below hbn)
        try replace HX1 := Lib.hid (HX1.out.below hbn)
        try replace HX2 := Lib.hid (HX2.out.below hbn)
        try replace HBX1 := Lib.hid (HBX1.out.below hbn)
        try replace HBX3 := Lib.hid (HBX3.out.below hbn)
        try replace HRB := Lib.hid (HRB.out.below hbn)
        try replace HDS := Lib.hid (HDS.out.below hbn)
        clear hbn HS3
        generalize W14.alloc (.cells cs 48) = W14n at *
        generalize W14.heap.size = B14 at *
        obtain ⟨pz, cz, m1, m2⟩ := HDS.out.box
        have r0 := Kab (o := 0) m1 rfl
        have r1 := Kab (o := 1) m1 rfl
        clear m1 m2 HDS))
    | ((with_reducible apply Kal); exact HBX2.out.get hcz; exact rfl)
    | ((with_reducible apply Kbc); exact HBX2.out.get hcz; exact rfl; exact rfl)
    | ((with_reducible apply Kal); exact HBX3.out.get hcz2; exact rfl)
    | ((with_reducible apply Kbc); exact HBX3.out.get hcz2; exact rfl; exact rfl)
    | (go_at_call 10
       (
        refine (Kbv (HE.out.b HCUR.out)).mono ?_
        rintro e W13 ⟨rfl, hb13⟩
        replace HCUR := Lib.hid (Kaa HCUR.out hb13)
        clear hb13)))
   go_ret
   exact ⟨rfl, HCUR.out⟩
  ·have ht1 : totV v1 ≤ 1000000 := by have := hsiz rfl; omega
   have HK2 := Lib.hid (fun W (z : Array Value) (hz : VRd W v1 z) => Kc6 (by omega) hz)
   have hcc : (Kbs Lib.validD v1 == 0) = false := hk1
   have hcd : Kbs Lib.validD v1 ≠ 0 := by simpa using hcc
   generalize Kbs Lib.validD v1 = k2 at *
   clear hsiz hrng hk1
   go_wp2_with (first
    | (go_at_call 24
       (
        refine HRV.out.mono ?_
        rintro e W14 ⟨v14, rfl, ⟨cs, rfl, hown⟩, hD, hT⟩
        replace hD : DSt 40 W11n W14 W11n.heap.size [] false := hD
        replace hown : VOwn W14 (fun b => W12.heap.size ≤ b) v1 cs := hown
        have hb14 := hD.b
        replace HCUR := Lib.hid (Kaa HCUR.out hb14)
        try replace HX2 := Lib.hid (HX2.out.below hb14)
        try replace HBX3 := Lib.hid (HBX3.out.below hb14)
        try replace HRB := Lib.hid (HRB.out.below hb14)
        have HS3 := Lib.hid (Ka0.fresh (P := Tryz.prog) (W := W14) hown.size6 hown.ones)
        have hcz := hown.size6
        have HX1 := Lib.hid (hown.rd ht1)
        have HDS := Lib.hid hD
        clear hown hT hD hb14 HRV))
    | (go_at_call 21
       (
        refine (HK2.out _ _ HX1.out).mono ?_
        rintro e W15 ⟨rfl, hb15⟩
        replace HCUR := Lib.hid (Kaa HCUR.out hb15)
        try replace HX1 := Lib.hid (HX1.out.below hb15)
        try replace HX2 := Lib.hid (HX2.out.below hb15)
        try replace HBX2 := Lib.hid (HBX2.out.below hb15)
        try replace HBX3 := Lib.hid (HBX3.out.below hb15)
        try replace HRB := Lib.hid (HRB.out.below hb15)
        clear HK2 hb15))
    | (go_at_call 12; refine (Kc3 _ _).mono ?_; rintro e w' ⟨rfl, rfl⟩)
    | (go_at_call 25
       (
        refine (Kb6 val0 _ _ _ HX2.out (val0_rd _)).mono ?_
        rintro e W17 ⟨rfl, hb17⟩
        replace HCUR := Lib.hid (Kaa HCUR.out hb17)
        clear hb17))
    | ((with_reducible apply Kac); exact HS3.out _ rfl; exact rfl; exact rfl
       (
        have hbn := Kae (w := W14) (.cells cs 48)
        have HBX2 := Lib.hid (show Lies W14.heap.size 48 cs (W14.alloc (.cells cs 48)) from heap_alloc_new W14 _)
        replace HCUR := Lib.hid (Kaa HCUR.out hbn)
        try replace HD1 := Lib.hid (HD1.out.below hbn)
        try replace HX1 := Lib.hid (HX1.out.below hbn)
        try replace HX2 := Lib.hid (HX2.out.below hbn)
        try replace HBX1 := Lib.hid (HBX1.out.below hbn)
        try replace HBX3 := Lib.hid (HBX3.out.below hbn)
        try replace HRB := Lib.hid (HRB.out.below hbn)
        try replace HDS := Lib.hid (HDS.out.below hbn)
        clear hbn HS3
        generalize W14.alloc (.cells cs 48) = W14n at *
        generalize W14.heap.size = B14 at *
        obtain ⟨pz, cz, m1, m2⟩ := HDS.out.box
        have r0 := Kab (o := 0) m1 rfl
        have r1 := Kab (o := 1) m1 rfl
        clear m1 m2 HDS))
    | ((with_reducible apply Kal); exact HBX2.out.get hcz; exact rfl)
    | ((with_reducible apply Kbc); exact HBX2.out.get hcz; exact rfl; exact rfl)
    | ((with_reducible apply Kal); exact HBX3.out.get hcz2; exact rfl)
    | ((with_reducible apply Kbc); exact HBX3.out.get hcz2; exact rfl; exact rfl)
    | (go_at_call 10
       (
        refine (Kbv (HE.out.b HCUR.out)).mono ?_
        rintro e W13 ⟨rfl, hb13⟩
        replace HCUR := Lib.hid (Kaa HCUR.out hb13)
        clear hb13)))
   go_ret
   exact ⟨rfl, HCUR.out⟩
  ·have ht0 : totV v1 ≤ 3000 := by have := hsiz rfl; omega
   have ht1 : totV v1 ≤ 1000000 := by omega
   have HK2 := Lib.hid (fun W (z : Array Value) (hz : VRd W v1 z) => Kc6 (by omega) hz)
   have hcd : Kbs Lib.validD v1 = 0 := by have h : (Kbs Lib.validD v1 == 0) = true := hk1; simpa using h
   rw [hcd] at HK2
   have hvl := Kef hrng ht0
   have HDV2 := Lib.hid (fun W (z : Array Value) (hz : VRd W v1 z) => Kd9 v1 64 (Kdb hk1 hrng (by omega)) W z hz (by omega))
   have hnd : decide (valC v1 = bs0) = false := decide_eq_false hne
   generalize valC v1 = bs2 at *
   clear hsiz hrng hk1 hcd ht0 hvl hne
   go_wp2_with (first
    | (go_at_call 24
       (
        refine HRV.out.mono ?_
        rintro e W14 ⟨v14, rfl, ⟨cs, rfl, hown⟩, hD, hT⟩
        replace hD : DSt 40 W11n W14 W11n.heap.size [] false := hD
        replace hown : VOwn W14 (fun b => W12.heap.size ≤ b) v1 cs := hown
        have hb14 := hD.b
        replace HCUR := Lib.hid (Kaa HCUR.out hb14)
        try replace HX2 := Lib.hid (HX2.out.below hb14)
        try replace HBX3 := Lib.hid (HBX3.out.below hb14)
        try replace HRB := Lib.hid (HRB.out.below hb14)
        have HS3 := Lib.hid (Ka0.fresh (P := Tryz.prog) (W := W14) hown.size6 hown.ones)
        have hcz := hown.size6
        have HX1 := Lib.hid (hown.rd ht1)
        have HDS := Lib.hid hD
        clear hown hT hD hb14 HRV))
    | (go_at_call 21
       (
        refine (HK2.out _ _ HX1.out).mono ?_
        rintro e W15 ⟨rfl, hb15⟩
        replace HCUR := Lib.hid (Kaa HCUR.out hb15)
        try replace HX1 := Lib.hid (HX1.out.below hb15)
        try replace HX2 := Lib.hid (HX2.out.below hb15)
        try replace HBX2 := Lib.hid (HBX2.out.below hb15)
        try replace HBX3 := Lib.hid (HBX3.out.below hb15)
        try replace HRB := Lib.hid (HRB.out.below hb15)
        clear HK2 hb15))
    | (go_at_call 22
       (
        refine (HDV2.out _ _ HX1.out).mono ?_
        rintro e W16 ⟨o16, rfl, hB16⟩
        obtain ⟨p16, c16, rfl⟩ := hB16.shape
        have hb16 := hB16.b
        replace HCUR := Lib.hid (Kaa HCUR.out hb16)
        try replace HX1 := Lib.hid (HX1.out.below hb16)
        try replace HX2 := Lib.hid (HX2.out.below hb16)
        try replace HBX2 := Lib.hid (HBX2.out.below hb16)
        try replace HBX3 := Lib.hid (HBX3.out.below hb16)
        try replace HRB := Lib.hid (HRB.out.below hb16)
        have HD16 := Lib.hid hB16.rd
        clear HDV2 hB16 hb16))
    | (go_at_call 14
       (
        refine (Kdn HD16.out HRB.out).mono ?_
        rintro e w' ⟨rfl, rfl⟩
        clear HD16))
    | (go_at_call 12; refine (Kc3 _ _).mono ?_; rintro e w' ⟨rfl, rfl⟩)
    | (go_at_call 25
       (
        refine (Kb6 val0 _ _ _ HX2.out (val0_rd _)).mono ?_
        rintro e W17 ⟨rfl, hb17⟩
        replace HCUR := Lib.hid (Kaa HCUR.out hb17)
        clear hb17))
    | ((with_reducible apply Kac); exact HS3.out _ rfl; exact rfl; exact rfl
       (
        have hbn := Kae (w := W14) (.cells cs 48)
        have HBX2 := Lib.hid (show Lies W14.heap.size 48 cs (W14.alloc (.cells cs 48)) from heap_alloc_new W14 _)
        replace HCUR := Lib.hid (Kaa HCUR.out hbn)
        try replace HD1 := Lib.hid (HD1.out.below hbn)
        try replace HX1 := Lib.hid (HX1.out.below hbn)
        try replace HX2 := Lib.hid (HX2.out.below hbn)
        try replace HBX1 := Lib.hid (HBX1.out.below hbn)
        try replace HBX3 := Lib.hid (HBX3.out.below hbn)
        try replace HRB := Lib.hid (HRB.out.below hbn)
        try replace HDS := Lib.hid (HDS.out.below hbn)
        clear hbn HS3
        generalize W14.alloc (.cells cs 48) = W14n at *
        generalize W14.heap.size = B14 at *
        obtain ⟨pz, cz, m1, m2⟩ := HDS.out.box
        have r0 := Kab (o := 0) m1 rfl
        have r1 := Kab (o := 1) m1 rfl
        clear m1 m2 HDS))
    | ((with_reducible apply Kal); exact HBX2.out.get hcz; exact rfl)
    | ((with_reducible apply Kbc); exact HBX2.out.get hcz; exact rfl; exact rfl)
    | ((with_reducible apply Kal); exact HBX3.out.get hcz2; exact rfl)
    | ((with_reducible apply Kbc); exact HBX3.out.get hcz2; exact rfl; exact rfl)
    | (go_at_call 10
       (
        refine (Kbv (HE.out.b HCUR.out)).mono ?_
        rintro e W13 ⟨rfl, hb13⟩
        replace HCUR := Lib.hid (Kaa HCUR.out hb13)
        clear hb13)))
   go_ret
   exact ⟨rfl, HCUR.out⟩
  ·have ht0 : totV v1 ≤ 3000 := by have := hsiz rfl; omega
   have ht1 : totV v1 ≤ 1000000 := by omega
   have HK2 := Lib.hid (fun W (z : Array Value) (hz : VRd W v1 z) => Kc6 (by omega) hz)
   have hcd : Kbs Lib.validD v1 = 0 := by have h : (Kbs Lib.validD v1 == 0) = true := hk1; simpa using h
   rw [hcd] at HK2
   have hvl := Kef hrng ht0
   have HDV2 := Lib.hid (fun W (z : Array Value) (hz : VRd W v1 z) => Kd9 v1 64 (Kdb hk1 hrng (by omega)) W z hz (by omega))
   rw [he] at HDV2
   have hnd : decide (bs0 = bs0) = true := decide_eq_true rfl
   clear hsiz hrng hk1 hcd ht0 hvl he
   go_wp2_with (first
    | (go_at_call 24
       (
        refine HRV.out.mono ?_
        rintro e W14 ⟨v14, rfl, ⟨cs, rfl, hown⟩, hD, hT⟩
        replace hD : DSt 40 W11n W14 W11n.heap.size [] false := hD
        replace hown : VOwn W14 (fun b => W12.heap.size ≤ b) v1 cs := hown
        have hb14 := hD.b
        replace HCUR := Lib.hid (Kaa HCUR.out hb14)
        try replace HX2 := Lib.hid (HX2.out.below hb14)
        try replace HBX3 := Lib.hid (HBX3.out.below hb14)
        try replace HRB := Lib.hid (HRB.out.below hb14)
        have HS3 := Lib.hid (Ka0.fresh (P := Tryz.prog) (W := W14) hown.size6 hown.ones)
        have hcz := hown.size6
        have HX1 := Lib.hid (hown.rd ht1)
        have HDS := Lib.hid hD
        clear hown hT hD hb14 HRV))
    | (go_at_call 21
       (
        refine (HK2.out _ _ HX1.out).mono ?_
        rintro e W15 ⟨rfl, hb15⟩
        replace HCUR := Lib.hid (Kaa HCUR.out hb15)
        try replace HX1 := Lib.hid (HX1.out.below hb15)
        try replace HX2 := Lib.hid (HX2.out.below hb15)
        try replace HBX2 := Lib.hid (HBX2.out.below hb15)
        try replace HBX3 := Lib.hid (HBX3.out.below hb15)
        try replace HRB := Lib.hid (HRB.out.below hb15)
        clear HK2 hb15))
    | (go_at_call 22
       (
        refine (HDV2.out _ _ HX1.out).mono ?_
        rintro e W16 ⟨o16, rfl, hB16⟩
        obtain ⟨p16, c16, rfl⟩ := hB16.shape
        have hb16 := hB16.b
        replace HCUR := Lib.hid (Kaa HCUR.out hb16)
        try replace HX1 := Lib.hid (HX1.out.below hb16)
        try replace HX2 := Lib.hid (HX2.out.below hb16)
        try replace HBX2 := Lib.hid (HBX2.out.below hb16)
        try replace HBX3 := Lib.hid (HBX3.out.below hb16)
        try replace HRB := Lib.hid (HRB.out.below hb16)
        have HD16 := Lib.hid hB16.rd
        clear HDV2 hB16 hb16))
    | (go_at_call 14
       (
        refine (Kdn HD16.out HRB.out).mono ?_
        rintro e w' ⟨rfl, rfl⟩
        clear HD16))
    | (go_at_call 12; refine (Kc3 _ _).mono ?_; rintro e w' ⟨rfl, rfl⟩)
    | (go_at_call 25
       (
        refine (Kb6 v1 _ _ _ HX2.out HX1.out).mono ?_
        rintro e W17 ⟨rfl, hb17⟩
        replace HCUR := Lib.hid (Kaa HCUR.out hb17)
        clear hb17))
    | ((with_reducible apply Kac); exact HS3.out _ rfl; exact rfl; exact rfl
       (
        have hbn := Kae (w := W14) (.cells cs 48)
        have HBX2 := Lib.hid (show Lies W14.heap.size 48 cs (W14.alloc (.cells cs 48)) from heap_alloc_new W14 _)
        replace HCUR := Lib.hid (Kaa HCUR.out hbn)
        try replace HD1 := Lib.hid (HD1.out.below hbn)
        try replace HX1 := Lib.hid (HX1.out.below hbn)
        try replace HX2 := Lib.hid (HX2.out.below hbn)
        try replace HBX1 := Lib.hid (HBX1.out.below hbn)
        try replace HBX3 := Lib.hid (HBX3.out.below hbn)
        try replace HRB := Lib.hid (HRB.out.below hbn)
        try replace HDS := Lib.hid (HDS.out.below hbn)
        clear hbn HS3
        generalize W14.alloc (.cells cs 48) = W14n at *
        generalize W14.heap.size = B14 at *
        obtain ⟨pz, cz, m1, m2⟩ := HDS.out.box
        have r0 := Kab (o := 0) m1 rfl
        have r1 := Kab (o := 1) m1 rfl
        clear m1 m2 HDS))
    | ((with_reducible apply Kal); exact HBX2.out.get hcz; exact rfl)
    | ((with_reducible apply Kbc); exact HBX2.out.get hcz; exact rfl; exact rfl)
    | ((with_reducible apply Kal); exact HBX3.out.get hcz2; exact rfl)
    | ((with_reducible apply Kbc); exact HBX3.out.get hcz2; exact rfl; exact rfl)
    | (go_at_call 10
       (
        refine (Kbv (HE.out.b HCUR.out)).mono ?_
        rintro e W13 ⟨rfl, hb13⟩
        replace HCUR := Lib.hid (Kaa HCUR.out hb13)
        clear hb13)))
   go_ret
   exact ⟨rfl, HCUR.out⟩
 ·have hc0 : Kbs Lib.validD v = 0 := by have := hok.symm.trans ok1; simpa using this
  have hout : outV v = valC v := by unfold outV; rw [ok1]; rfl
  have HDV := hdv ok1
  rw [ok1, hout] at HC1
  rw [hc0] at HK1
  generalize valC v = bs1 at *
  clear hok ok1 hdv hx hrb hb1 hE hr1 hout hc0 hwl
  go_enter Tryz.func4, Tryz.ntmps4
  go_wp2_with (first
   | ((with_reducible apply Kal); exact HBX1.out.get hxs; exact rfl)
   | ((with_reducible apply Kbc); exact HBX1.out.get hxs; exact rfl; exact rfl)
   | (go_at_call 19
      (
       refine (HZ1.out _ HCUR.out).mono ?_
       rintro e W1 ⟨⟨r, rfl, hr⟩, hb1⟩
       have z5 : ¬ (3000 : Int) < (r : Int) := by have := hr.1 (by omega); omega
       have z5b : decide ((3000 : Int) < (r : Int)) = false := decide_eq_false z5
       replace HCUR := Lib.hid (Kaa HCUR.out hb1)
       try replace HBX1 := Lib.hid (HBX1.out.below hb1)
       try replace HRB := Lib.hid (HRB.out.below hb1)
       clear HZ1 hr hb1))
   | (go_at_call 20
      (
       refine (HC1.out _ HCUR.out).mono ?_
       rintro e W3 ho
       obtain ⟨p1, c1, rfl, hd1, hb3⟩ := ho.rd
       replace HCUR := Lib.hid (Kaa HCUR.out hb3)
       try replace HBX1 := Lib.hid (HBX1.out.below hb3)
       try replace HRB := Lib.hid (HRB.out.below hb3)
       have HD1 := Lib.hid hd1
       clear HC1 ho hd1 hb3))
   | (go_at_call 21
      (
       refine (HK1.out _ HCUR.out).mono ?_
       rintro e W4 ⟨rfl, hb4⟩
       replace HCUR := Lib.hid (Kaa HCUR.out hb4)
       try replace HD1 := Lib.hid (HD1.out.below hb4)
       try replace HBX1 := Lib.hid (HBX1.out.below hb4)
       try replace HRB := Lib.hid (HRB.out.below hb4)
       clear HK1 hb4))
   | (go_at_call 12; refine (Kc3 _ _).mono ?_; rintro e w' ⟨rfl, rfl⟩)
   | (go_at_call 22
      (
       refine (HDV.out _ HCUR.out).mono ?_
       rintro e W5 ⟨o5, rfl, hB5⟩
       obtain ⟨p5, c5, rfl⟩ := hB5.shape
       have hb5 := hB5.b
       replace HCUR := Lib.hid (Kaa HCUR.out hb5)
       try replace HD1 := Lib.hid (HD1.out.below hb5)
       try replace HBX1 := Lib.hid (HBX1.out.below hb5)
       try replace HRB := Lib.hid (HRB.out.below hb5)
       have HD5 := Lib.hid hB5.rd
       clear HDV hB5 hb5))
   | (go_at_call 14
      (
       refine (Kdn HD1.out HD5.out).mono ?_
       rintro e w' ⟨rfl, rfl⟩
       have heq1 : decide (bs1 = bs1) = true := decide_eq_true rfl
       clear HD5 HD1))
   | (go_at_call 23
      (
       refine (HR2.out _ HCUR.out _ _ HRB.out).mono ?_
       rintro e W11 hg
       have HG := Lib.hid hg
       obtain ⟨cs2, rfl, hcs2, hb11⟩ := HG.out
       have HS2 := Lib.hid (Ka0.fresh (P := Tryz.prog) (W := W11) hcs2.size6 hcs2.ones)
       have hcz2 := hcs2.size6
       replace HCUR := Lib.hid (Kaa HCUR.out hb11)
       try replace HBX1 := Lib.hid (HBX1.out.below hb11)
       try replace HRB := Lib.hid (HRB.out.below hb11)
       have HX2 := Lib.hid (hcs2.rd HT0.out)
       clear HR2 HG hg hcs2 hb11))
   | ((with_reducible apply Kac); exact HS2.out _ rfl; exact rfl; exact rfl
      (
       have hbn := Kae (w := W11) (.cells cs2 48)
       have HBX3 := Lib.hid (show Lies W11.heap.size 48 cs2 (W11.alloc (.cells cs2 48)) from heap_alloc_new W11 _)
       replace HCUR := Lib.hid (Kaa HCUR.out hbn)
       try replace HD1 := Lib.hid (HD1.out.below hbn)
       try replace HX1 := Lib.hid (HX1.out.below hbn)
       try replace HX2 := Lib.hid (HX2.out.below hbn)
       try replace HBX1 := Lib.hid (HBX1.out.below hbn)
       try replace HBX2 := Lib.hid (HBX2.out.below hbn)
       try replace HRB := Lib.hid (HRB.out.below hbn)
       try replace HDS := Lib.hid (HDS.out.below hbn)
       clear hbn HS2
       generalize W11.alloc (.cells cs2 48) = W11n at *
       generalize W11.heap.size = B11 at *)))
  have hbx := Kae (w := W11n) (.cells #[.slice p bs0.length c, .bool false] 40)
  have hbe := heap_alloc_new W11n (.cells #[.slice p bs0.length c, .bool false] 40)
  have HRV := Lib.hid (HVR.out W11n _ W11n.heap.size ⟨hbx, Nat.le_refl _, p, c, hbe, HRB.out⟩)
  obtain ⟨hway, hrng, hsiz⟩ := HW.out
  clear hbx hbe HVR HW
  try clear HBX1
  generalize W11n.alloc (.cells #[.slice p bs0.length c, .bool false] 40) = W12 at *
  rcases hway with ⟨rfl, rfl⟩ | ⟨rfl, hl1, rfl⟩ | ⟨rfl, rfl, hk1, rfl⟩ | ⟨rfl, rfl, hk1, hne, rfl⟩ | ⟨rfl, rfl, hk1, he, rfl⟩
  ·clear hsiz hrng
   go_wp2_with (first
    | (go_at_call 24
       (
        refine HRV.out.mono ?_
        rintro e W14 ⟨v14, rfl, ⟨cs, rfl, hown⟩, hD, hT⟩
        replace hD : DSt 40 W11n W14 W11n.heap.size l1 true := hD
        replace hown : VOwn W14 (fun b => W12.heap.size ≤ b) v1 cs := hown
        have hb14 := hD.b
        replace HCUR := Lib.hid (Kaa HCUR.out hb14)
        try replace HX2 := Lib.hid (HX2.out.below hb14)
        try replace HBX3 := Lib.hid (HBX3.out.below hb14)
        try replace HRB := Lib.hid (HRB.out.below hb14)
        have HS3 := Lib.hid (Ka0.fresh (P := Tryz.prog) (W := W14) hown.size6 hown.ones)
        have hcz := hown.size6
        have HDS := Lib.hid hD
        clear hown hT hD hb14 HRV))
    | (go_at_call 12; refine (Kc3 _ _).mono ?_; rintro e w' ⟨rfl, rfl⟩)
    | (go_at_call 25
       (
        refine (Kb6 val0 _ _ _ HX2.out (val0_rd _)).mono ?_
        rintro e W17 ⟨rfl, hb17⟩
        replace HCUR := Lib.hid (Kaa HCUR.out hb17)
        clear hb17))
    | ((with_reducible apply Kac); exact HS3.out _ rfl; exact rfl; exact rfl
       (
        have hbn := Kae (w := W14) (.cells cs 48)
        have HBX2 := Lib.hid (show Lies W14.heap.size 48 cs (W14.alloc (.cells cs 48)) from heap_alloc_new W14 _)
        replace HCUR := Lib.hid (Kaa HCUR.out hbn)
        try replace HD1 := Lib.hid (HD1.out.below hbn)
        try replace HX1 := Lib.hid (HX1.out.below hbn)
        try replace HX2 := Lib.hid (HX2.out.below hbn)
        try replace HBX1 := Lib.hid (HBX1.out.below hbn)
        try replace HBX3 := Lib.hid (HBX3.out.below hbn)
        try replace HRB := Lib.hid (HRB.out.below hbn)
        try replace HDS := Lib.hid (HDS.out.below hbn)
        clear hbn HS3
        generalize W14.alloc (.cells cs 48) = W14n at *
        generalize W14.heap.size = B14 at *
        obtain ⟨pz, cz, m1, m2⟩ := HDS.out.box
        have r0 := Kab (o := 0) m1 rfl
        have r1 := Kab (o := 1) m1 rfl
        clear m1 m2 HDS))
    | ((with_reducible apply Kal); exact HBX2.out.get hcz; exact rfl)
    | ((with_reducible apply Kbc); exact HBX2.out.get hcz; exact rfl; exact rfl)
    | ((with_reducible apply Kal); exact HBX3.out.get hcz2; exact rfl)
    | ((with_reducible apply Kbc); exact HBX3.out.get hcz2; exact rfl; exact rfl)
    | (go_at_call 10
       (
        refine (Kbv (HE.out.b HCUR.out)).mono ?_
        rintro e W13 ⟨rfl, hb13⟩
        replace HCUR := Lib.hid (Kaa HCUR.out hb13)
        clear hb13)))
   go_ret
   exact ⟨rfl, HCUR.out⟩
  ·have ht1 : totV v1 ≤ 1000000 := by have := hsiz rfl; omega
   have hli : (0 : Int) < (l1.length : Int) := by omega
   clear hsiz hrng
   go_wp2_with (first
    | (go_at_call 24
       (
        refine HRV.out.mono ?_
        rintro e W14 ⟨v14, rfl, ⟨cs, rfl, hown⟩, hD, hT⟩
        replace hD : DSt 40 W11n W14 W11n.heap.size l1 false := hD
        replace hown : VOwn W14 (fun b => W12.heap.size ≤ b) v1 cs := hown
        have hb14 := hD.b
        replace HCUR := Lib.hid (Kaa HCUR.out hb14)
        try replace HX2 := Lib.hid (HX2.out.below hb14)
        try replace HBX3 := Lib.hid (HBX3.out.below hb14)
        try replace HRB := Lib.hid (HRB.out.below hb14)
        have HS3 := Lib.hid (Ka0.fresh (P := Tryz.prog) (W := W14) hown.size6 hown.ones)
        have hcz := hown.size6
        have HX1 := Lib.hid (hown.rd ht1)
        have HDS := Lib.hid hD
        clear hown hT hD hb14 HRV))
    | (go_at_call 12; refine (Kc3 _ _).mono ?_; rintro e w' ⟨rfl, rfl⟩)
    | (go_at_call 25
       (
        refine (Kb6 val0 _ _ _ HX2.out (val0_rd _)).mono ?_
        rintro e W17 ⟨rfl, hb17⟩
        replace HCUR := Lib.hid (Kaa HCUR.out hb17)
        clear hb17))
    | ((with_reducible apply Kac); exact HS3.out _ rfl; exact rfl; exact rfl
       (
        have hbn := Kae (w := W14) (.cells cs 48)
        have HBX2 := Lib.hid (show Lies W14.heap.size 48 cs (W14.alloc (.cells cs 48)) from heap_alloc_new W14 _)
        replace HCUR := Lib.hid (Kaa HCUR.out hbn)
        try replace HD1 := Lib.hid (HD1.out.below hbn)
        try replace HX1 := Lib.hid (HX1.out.below hbn)
        try replace HX2 := Lib.hid (HX2.out.below hbn)
        try replace HBX1 := Lib.hid (HBX1.out.below hbn)
        try replace HBX3 := Lib.hid (HBX3.out.below hbn)
        try replace HRB := Lib.hid (HRB.out.below hbn)
        try replace HDS := Lib.hid (HDS.out.below hbn)
        clear hbn HS3
        generalize W14.alloc (.cells cs 48) = W14n at *
        generalize W14.heap.size = B14 at *
        obtain ⟨pz, cz, m1, m2⟩ := HDS.out.box
        have r0 := Kab (o := 0) m1 rfl
        have r1 := Kab (o := 1) m1 rfl
        clear m1 m2 HDS))
    | ((with_reducible apply Kal); exact HBX2.out.get hcz; exact rfl)
    | ((with_reducible apply Kbc); exact HBX2.out.get hcz; exact rfl; exact rfl)
    | ((with_reducible apply Kal); exact HBX3.out.get hcz2; exact rfl)
    | ((with_reducible apply Kbc); exact HBX3.out.get hcz2; exact rfl; exact rfl)
    | (go_at_call 10
       (
        refine (Kbv (HE.out.b HCUR.out)).mono ?_
        rintro e W13 ⟨rfl, hb13⟩
        replace HCUR := Lib.hid (Kaa HCUR.out hb13)
        clear hb13)))
   go_ret
   exact ⟨rfl, HCUR.out⟩
  ·have ht1 : totV v1 ≤ 1000000 := by have := hsiz rfl; omega
   have HK2 := Lib.hid (fun W (z : Array Value) (hz : VRd W v1 z) => Kc6 (by omega) hz)
   have hcc : (Kbs Lib.validD v1 == 0) = false := hk1
   have hcd : Kbs Lib.validD v1 ≠ 0 := by simpa using hcc
   generalize Kbs Lib.validD v1 = k2 at *
   clear hsiz hrng hk1
   go_wp2_with (first
    | (go_at_call 24
       (
        refine HRV.out.mono ?_
        rintro e W14 ⟨v14, rfl, ⟨cs, rfl, hown⟩, hD, hT⟩
        replace hD : DSt 40 W11n W14 W11n.heap.size [] false := hD
        replace hown : VOwn W14 (fun b => W12.heap.size ≤ b) v1 cs := hown
        have hb14 := hD.b
        replace HCUR := Lib.hid (Kaa HCUR.out hb14)
        try replace HX2 := Lib.hid (HX2.out.below hb14)
        try replace HBX3 := Lib.hid (HBX3.out.below hb14)
        try replace HRB := Lib.hid (HRB.out.below hb14)
        have HS3 := Lib.hid (Ka0.fresh (P := Tryz.prog) (W := W14) hown.size6 hown.ones)
        have hcz := hown.size6
        have HX1 := Lib.hid (hown.rd ht1)
        have HDS := Lib.hid hD
        clear hown hT hD hb14 HRV))
    | (go_at_call 21
       (
        refine (HK2.out _ _ HX1.out).mono ?_
        rintro e W15 ⟨rfl, hb15⟩
        replace HCUR := Lib.hid (Kaa HCUR.out hb15)
        try replace HX1 := Lib.hid (HX1.out.below hb15)
        try replace HX2 := Lib.hid (HX2.out.below hb15)
        try replace HBX2 := Lib.hid (HBX2.out.below hb15)
        try replace HBX3 := Lib.hid (HBX3.out.below hb15)
        try replace HRB := Lib.hid (HRB.out.below hb15)
        clear HK2 hb15))
    | (go_at_call 12; refine (Kc3 _ _).mono ?_; rintro e w' ⟨rfl, rfl⟩)
    | (go_at_call 25
       (
        refine (Kb6 val0 _ _ _ HX2.out (val0_rd _)).mono ?_
        rintro e W17 ⟨rfl, hb17⟩
        replace HCUR := Lib.hid (Kaa HCUR.out hb17)
        clear hb17))
    | ((with_reducible apply Kac); exact HS3.out _ rfl; exact rfl; exact rfl
       (
        have hbn := Kae (w := W14) (.cells cs 48)
        have HBX2 := Lib.hid (show Lies W14.heap.size 48 cs (W14.alloc (.cells cs 48)) from heap_alloc_new W14 _)
        replace HCUR := Lib.hid (Kaa HCUR.out hbn)
        try replace HD1 := Lib.hid (HD1.out.below hbn)
        try replace HX1 := Lib.hid (HX1.out.below hbn)
        try replace HX2 := Lib.hid (HX2.out.below hbn)
        try replace HBX1 := Lib.hid (HBX1.out.below hbn)
        try replace HBX3 := Lib.hid (HBX3.out.below hbn)
        try replace HRB := Lib.hid (HRB.out.below hbn)
        try replace HDS := Lib.hid (HDS.out.below hbn)
        clear hbn HS3
        generalize W14.alloc (.cells cs 48) = W14n at *
        generalize W14.heap.size = B14 at *
        obtain ⟨pz, cz, m1, m2⟩ := HDS.out.box
        have r0 := Kab (o := 0) m1 rfl
        have r1 := Kab (o := 1) m1 rfl
        clear m1 m2 HDS))
    | ((with_reducible apply Kal); exact HBX2.out.get hcz; exact rfl)
    | ((with_reducible apply Kbc); exact HBX2.out.get hcz; exact rfl; exact rfl)
    | ((with_reducible apply Kal); exact HBX3.out.get hcz2; exact rfl)
    | ((with_reducible apply Kbc); exact HBX3.out.get hcz2; exact rfl; exact rfl)
    | (go_at_call 10
       (
        refine (Kbv (HE.out.b HCUR.out)).mono ?_
        rintro e W13 ⟨rfl, hb13⟩
        replace HCUR := Lib.hid (Kaa HCUR.out hb13)
        clear hb13)))
   go_ret
   exact ⟨rfl, HCUR.out⟩
  ·have ht0 : totV v1 ≤ 3000 := by have := hsiz rfl; omega
   have ht1 : totV v1 ≤ 1000000 := by omega
   have HK2 := Lib.hid (fun W (z : Array Value) (hz : VRd W v1 z) => Kc6 (by omega) hz)
   have hcd : Kbs Lib.validD v1 = 0 := by have h : (Kbs Lib.validD v1 == 0) = true := hk1; simpa using h
   rw [hcd] at HK2
   have hvl := Kef hrng ht0
   have HDV2 := Lib.hid (fun W (z : Array Value) (hz : VRd W v1 z) => Kd9 v1 64 (Kdb hk1 hrng (by omega)) W z hz (by omega))
   have hnd : decide (valC v1 = bs0) = false := decide_eq_false hne
   generalize valC v1 = bs2 at *
   clear hsiz hrng hk1 hcd ht0 hvl hne
   go_wp2_with (first
    | (go_at_call 24
       (
        refine HRV.out.mono ?_
        rintro e W14 ⟨v14, rfl, ⟨cs, rfl, hown⟩, hD, hT⟩
        replace hD : DSt 40 W11n W14 W11n.heap.size [] false := hD
        replace hown : VOwn W14 (fun b => W12.heap.size ≤ b) v1 cs := hown
        have hb14 := hD.b
        replace HCUR := Lib.hid (Kaa HCUR.out hb14)
        try replace HX2 := Lib.hid (HX2.out.below hb14)
        try replace HBX3 := Lib.hid (HBX3.out.below hb14)
        try replace HRB := Lib.hid (HRB.out.below hb14)
        have HS3 := Lib.hid (Ka0.fresh (P := Tryz.prog) (W := W14) hown.size6 hown.ones)
        have hcz := hown.size6
        have HX1 := Lib.hid (hown.rd ht1)
        have HDS := Lib.hid hD
        clear hown hT hD hb14 HRV))
    | (go_at_call 21
       (
        refine (HK2.out _ _ HX1.out).mono ?_
        rintro e W15 ⟨rfl, hb15⟩
        replace HCUR := Lib.hid (Kaa HCUR.out hb15)
        try replace HX1 := Lib.hid (HX1.out.below hb15)
        try replace HX2 := Lib.hid (HX2.out.below hb15)
        try replace HBX2 := Lib.hid (HBX2.out.below hb15)
        try replace HBX3 := Lib.hid (HBX3.out.below hb15)
        try replace HRB := Lib.hid (HRB.out.below hb15)
        clear HK2 hb15))
    | (go_at_call 22
       (
        refine (HDV2.out _ _ HX1.out).mono ?_
        rintro e W16 ⟨o16, rfl, hB16⟩
        obtain ⟨p16, c16, rfl⟩ := hB16.shape
        have hb16 := hB16.b
        replace HCUR := Lib.hid (Kaa HCUR.out hb16)
        try replace HX1 := Lib.hid (HX1.out.below hb16)
        try replace HX2 := Lib.hid (HX2.out.below hb16)
        try replace HBX2 := Lib.hid (HBX2.out.below hb16)
        try replace HBX3 := Lib.hid (HBX3.out.below hb16)
        try replace HRB := Lib.hid (HRB.out.below hb16)
        have HD16 := Lib.hid hB16.rd
        clear HDV2 hB16 hb16))
    | (go_at_call 14
       (
        refine (Kdn HD16.out HRB.out).mono ?_
        rintro e w' ⟨rfl, rfl⟩
        clear HD16))
    | (go_at_call 12; refine (Kc3 _ _).mono ?_; rintro e w' ⟨rfl, rfl⟩)
    | (go_at_call 25
       (
        refine (Kb6 val0 _ _ _ HX2.out (val0_rd _)).mono ?_
        rintro e W17 ⟨rfl, hb17⟩
        replace HCUR := Lib.hid (Kaa HCUR.out hb17)
        clear hb17))
    | ((with_reducible apply Kac); exact HS3.out _ rfl; exact rfl; exact rfl
       (
        have hbn := Kae (w := W14) (.cells cs 48)
        have HBX2 := Lib.hid (show Lies W14.heap.size 48 cs (W14.alloc (.cells cs 48)) from heap_alloc_new W14 _)
        replace HCUR := Lib.hid (Kaa HCUR.out hbn)
        try replace HD1 := Lib.hid (HD1.out.below hbn)
        try replace HX1 := Lib.hid (HX1.out.below hbn)
        try replace HX2 := Lib.hid (HX2.out.below hbn)
        try replace HBX1 := Lib.hid (HBX1.out.below hbn)
        try replace HBX3 := Lib.hid (HBX3.out.below hbn)
        try replace HRB := Lib.hid (HRB.out.below hbn)
        try replace HDS := Lib.hid (HDS.out.below hbn)
        clear hbn HS3
        generalize W14.alloc (.cells cs 48) = W14n at *
        generalize W14.heap.size = B14 at *
        obtain ⟨pz, cz, m1, m2⟩ := HDS.out.box
        have r0 := Kab (o := 0) m1 rfl
        have r1 := Kab (o := 1) m1 rfl
        clear m1 m2 HDS))
    | ((with_reducible apply Kal); exact HBX2.out.get hcz; exact rfl)
    | ((with_reducible apply Kbc); exact HBX2.out.get hcz; exact rfl; exact rfl)
    | ((with_reducible apply Kal); exact HBX3.out.get hcz2; exact rfl)
    | ((with_reducible apply Kbc); exact HBX3.out.get hcz2; exact rfl; exact rfl)
    | (go_at_call 10
       (
        refine (Kbv (HE.out.b HCUR.out)).mono ?_
        rintro e W13 ⟨rfl, hb13⟩
        replace HCUR := Lib.hid (Kaa HCUR.out hb13)
        clear hb13)))
   go_ret
   exact ⟨rfl, HCUR.out⟩
  ·have ht0 : totV v1 ≤ 3000 := by have := hsiz rfl; omega
   have ht1 : totV v1 ≤ 1000000 := by omega
   have HK2 := Lib.hid (fun W (z : Array Value) (hz : VRd W v1 z) => Kc6 (by omega) hz)
   have hcd : Kbs Lib.validD v1 = 0 := by have h : (Kbs Lib.validD v1 == 0) = true := hk1; simpa using h
   rw [hcd] at HK2
   have hvl := Kef hrng ht0
   have HDV2 := Lib.hid (fun W (z : Array Value) (hz : VRd W v1 z) => Kd9 v1 64 (Kdb hk1 hrng (by omega)) W z hz (by omega))
   rw [he] at HDV2
   have hnd : decide (bs0 = bs0) = true := decide_eq_true rfl
   clear hsiz hrng hk1 hcd ht0 hvl he
   go_wp2_with (first
    | (go_at_call 24
       (
        refine HRV.out.mono ?_
        rintro e W14 ⟨v14, rfl, ⟨cs, rfl, hown⟩, hD, hT⟩
        replace hD : DSt 40 W11n W14 W11n.heap.size [] false := hD
        replace hown : VOwn W14 (fun b => W12.heap.size ≤ b) v1 cs := hown
        have hb14 := hD.b
        replace HCUR := Lib.hid (Kaa HCUR.out hb14)
        try replace HX2 := Lib.hid (HX2.out.below hb14)
        try replace HBX3 := Lib.hid (HBX3.out.below hb14)
        try replace HRB := Lib.hid (HRB.out.below hb14)
        have HS3 := Lib.hid (Ka0.fresh (P := Tryz.prog) (W := W14) hown.size6 hown.ones)
        have hcz := hown.size6
        have HX1 := Lib.hid (hown.rd ht1)
        have HDS := Lib.hid hD
        clear hown hT hD hb14 HRV))
    | (go_at_call 21
       (
        refine (HK2.out _ _ HX1.out).mono ?_
        rintro e W15 ⟨rfl, hb15⟩
        replace HCUR := Lib.hid (Kaa HCUR.out hb15)
        try replace HX1 := Lib.hid (HX1.out.below hb15)
        try replace HX2 := Lib.hid (HX2.out.below hb15)
        try replace HBX2 := Lib.hid (HBX2.out.below hb15)
        try replace HBX3 := Lib.hid (HBX3.out.below hb15)
        try replace HRB := Lib.hid (HRB.out.below hb15)
        clear HK2 hb15))
    | (go_at_call 22
       (
        refine (HDV2.out _ _ HX1.out).mono ?_
        rintro e W16 ⟨o16, rfl, hB16⟩
        obtain ⟨p16, c16, rfl⟩ := hB16.shape
        have hb16 := hB16.b
        replace HCUR := Lib.hid (Kaa HCUR.out hb16)
        try replace HX1 := Lib.hid (HX1.out.below hb16)
        try replace HX2 := Lib.hid (HX2.out.below hb16)
        try replace HBX2 := Lib.hid (HBX2.out.below hb16)
        try replace HBX3 := Lib.hid (HBX3.out.below hb16)
        try replace HRB := Lib.hid (HRB.out.below hb16)
        have HD16 := Lib.hid hB16.rd
        clear HDV2 hB16 hb16))
    | (go_at_call 14
       (
        refine (Kdn HD16.out HRB.out).mono ?_
        rintro e w' ⟨rfl, rfl⟩
        clear HD16))
    | (go_at_call 12; refine (Kc3 _ _).mono ?_; rintro e w' ⟨rfl, rfl⟩)
    | (go_at_call 25
       (
        refine (Kb6 v1 _ _ _ HX2.out HX1.out).mono ?_
        rintro e W17 ⟨rfl, hb17⟩
        replace HCUR := Lib.hid (Kaa HCUR.out hb17)
        clear hb17))
    | ((with_reducible apply Kac); exact HS3.out _ rfl; exact rfl; exact rfl
       (
        have hbn := Kae (w := W14) (.cells cs 48)
        have HBX2 := Lib.hid (show Lies W14.heap.size 48 cs (W14.alloc (.cells cs 48)) from heap_alloc_new W14 _)
        replace HCUR := Lib.hid (Kaa HCUR.out hbn)
        try replace HD1 := Lib.hid (HD1.out.below hbn)
        try replace HX1 := Lib.hid (HX1.out.below hbn)
        try replace HX2 := Lib.hid (HX2.out.below hbn)
        try replace HBX1 := Lib.hid (HBX1.out.below hbn)
        try replace HBX3 := Lib.hid (HBX3.out.below hbn)
        try replace HRB := Lib.hid (HRB.out.below hbn)
        try replace HDS := Lib.hid (HDS.out.below hbn)
        clear hbn HS3
        generalize W14.alloc (.cells cs 48) = W14n at *
        generalize W14.heap.size = B14 at *
        obtain ⟨pz, cz, m1, m2⟩ := HDS.out.box
        have r0 := Kab (o := 0) m1 rfl
        have r1 := Kab (o := 1) m1 rfl
        clear m1 m2 HDS))
    | ((with_reducible apply Kal); exact HBX2.out.get hcz; exact rfl)
    | ((with_reducible apply Kbc); exact HBX2.out.get hcz; exact rfl; exact rfl)
    | ((with_reducible apply Kal); exact HBX3.out.get hcz2; exact rfl)
    | ((with_reducible apply Kbc); exact HBX3.out.get hcz2; exact rfl; exact rfl)
    | (go_at_call 10
       (
        refine (Kbv (HE.out.b HCUR.out)).mono ?_
        rintro e W13 ⟨rfl, hb13⟩
        replace HCUR := Lib.hid (Kaa HCUR.out hb13)
        clear hb13)))
   go_ret
   exact ⟨rfl, HCUR.out⟩
end Go.Proofs.YthdfedfholmbmaaGreatDoor

namespace Go.Proofs.YthdfedfholmbmaaGreatDoor
open Go.ChangeShapes Go.WideShapes Go.ChangeAt Go.RowKit Go.Joins
theorem codecValues_lifted (os : Os) (started : os.Started) (H : Type) (enc : TypeId × Value → H) :
 ReturnsInHanded {} Tryz.checked os 4 .any (fun w args => (Rows.codecValuesSpec.pre enc Tryz.prog Tryz.f4 [] false w args ∧ laidMetH Tryz.prog LD w) ∧ sizedMet enc Tryz.prog Tryz.f4 (OpenSpec.ofChange Rows.codecValuesSpec) false w args)
  (Rows.codecValuesSpec.post enc Tryz.prog Tryz.f4 false true false false) := by
 refine returns_tied started (by kernel_rfl) Tryz.func4 #[.agg (flatX 0 false 0 []), .slice none 0 0] (by kernel_rfl) (by kernel_rfl) (by kernel_rfl) (wit_shape _ _) (wit_laid _ _) ?_
 intro W base args ds gs before hval0 hW hz hE
 have hval : ∀ (j : Nat) t v, Tryz.f4.params[j]? = some t → args[j]? = some v → Value.okWide Tryz.prog W .any base t v := hval0
 have hW' := hW
 obtain ⟨p, q, hA0, hV, rfl, hfz, hnd⟩ := hW
 have hA : DataW.TrodAll enc Tryz.prog W 0 (fun _ => true) true Tryz.f4.params.toList args.toList ds p := hA0
 rw [Tryz.params4] at hA hval
 obtain ⟨v0, vs0, d0, ds0, p0, q0, hargs, rfl, rfl, h0, r0⟩ := trodAll_cons hA
 obtain ⟨v1, vs1, d1, ds1, p1, q1, rfl, rfl, rfl, h1, r1⟩ := trodAll_cons r0
 obtain ⟨rfl, rfl, rfl⟩ := trodAll_nil r1
 obtain ⟨rfl, rfl⟩ := trodVars_none hV
 obtain rfl : args = #[v0, v1] := by cases args; simp_all
 rw [Tryz.params4] at hz
 obtain ⟨z0, z1⟩ := fits_two hz
 obtain ⟨a0, x0, rfl, hx0, hr0⟩ := value_in (hval 0 48 v0 rfl rfl) h0 z0
 obtain ⟨b1, c1, l1, rfl, hb1⟩ := bytes_in (hval 1 26 v1 rfl rfl) h1
 clear hA0 hval0
 refine (cvals_any hE hx0 hr0 hb1).mono fun e W' ⟨he, hg⟩ => ?_
 subst he
 exact ⟨_, rfl, law_post laidT (by decide +kernel) Tryz.underlying4 (by kernel_rfl) rfl hW' rfl hg⟩
theorem codecValues_row : Rows.CodecValuesSaid :=
 OpenClaim.holds_of_wide 4 Tryz.f4 rfl rfl rfl rfl rfl rfl rfl ⟨rfl, rfl, rfl, rfl, rfl⟩ rfl rfl rfl rfl rfl (by kernel_rfl) Tryz.func4 (by kernel_rfl)
  (of_decide_eq_true (by kernel_rfl)) (by unfold Func.isWrapper; first | (rw [if_pos (by decide +kernel)]; kernel_rfl) | (rw [if_neg (by decide +kernel)]; exact ⟨rfl, rfl⟩))
  (fun os started H enc _ => codecValues_lifted os started H enc)
theorem cvals_law_holds : Rows.CodecValuesCardSaid :=
 Claim7.holds_tied_plain_at .later [] [.data, .pinned] true (true, "51d6d183f3b9b26ed98afca7791da6a3b37e43a2ee8010f5d16b56af07fe616a") true
  codecValues_row (fun _ h => by cases h) (by kernel_rfl) (fun _ h => by cases h) codecValues_row_tie rfl ⟨rfl, rfl⟩ (by kernel_rfl) rfl
  (fun f fn hf hfn => by
    obtain rfl : f = 4 := Option.some.inj ((show Tryz.prog.funcNamed "lattice/latticelaw19.CodecValues" = some 4 by kernel_rfl).symm.trans hf) |>.symm
    obtain rfl : fn = Tryz.f4 := (Option.some.inj (Tryz.func4.symm.trans hfn)).symm
    exact ⟨by kernel_rfl, fun j t ht => by
     rw [Tryz.params4] at ht
     have hm : t ∈ [48, 26] := by simpa using Array.mem_of_getElem? ht
     have hall : ([48, 26].all fun u => !Tryz.prog.wantsStandIn u) = true := by kernel_rfl
     exact (show Tryz.prog.wantsStandIn t = false by simpa using List.all_eq_true.1 hall t hm)⟩)
  (by kernel_rfl)
#print axioms cvals_law_holds
end Go.Proofs.YthdfedfholmbmaaGreatDoor
