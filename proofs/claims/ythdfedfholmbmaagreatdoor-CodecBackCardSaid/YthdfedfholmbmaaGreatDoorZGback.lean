/- CodecBack: for every graph and every graph and every bytes the law returns true, and the arguments read as they did. The listed tables of Go's library read as the program's text lays them. -/
import Derived.Test.YthdfedfholmbmaaGreatDoorZGbacka
import Derived.Test.YthdfedfholmbmaaGreatDoorZGbackb
import Derived.Test.YthdfedfholmbmaaGreatDoorZGbackd
import Derived.Test.YthdfedfholmbmaaGreatDoorZGbacke
import Derived.Test.YthdfedfholmbmaaGreatDoorCards
import Derived.Test.YthdfedfholmbmaaGreatDoorTie
set_option linter.unusedSimpArgs false
set_option linter.unusedVariables false
set_option maxRecDepth 100000
set_option maxHeartbeats 64000000
namespace Go.Proofs.YthdfedfholmbmaaGreatDoor
open Go.RowKit
theorem readPub_G' {w : World} (hE : Env w) {v : Value} {bs : List UInt8} (hrd : RdB w v bs) (hl : bs.length ≤ 900000) : Calls Tryz.prog 16 #[v] w (Got GrOwn graphZ w (readW rdGraph okG bs)) := by
  obtain ⟨a, cap, rfl, h⟩ := hrd
  exact readPub_G hE ⟨a, cap, rfl, h⟩ hl
theorem slice_less {W : World} {p : Option Addr} {c : Nat} {l : List UInt8} (h : RdB W (.slice p l.length c) l) (hp : 0 < l.length) : ∃ a3, (∀ W', (Instr.sliceAt 26 (.slice p l.length c) none (some (.int .i64 ((l.length : Int) - 1))) none).run Tryz.prog W' = .ok (.slice a3 (l.length - 1) c) W') ∧ RdB W (.slice a3 (l.length - 1) c) (l.take (l.length - 1)) := by
  obtain ⟨a3, hs3, hrd3, _⟩ := sub_rdB h none (some ((l.length : Int) - 1)) 0 (l.length - 1) (by simp) (by simp) (fun i hi => by cases hi; omega) (by simp) (Nat.zero_le _) (by omega)
  simp only [Nat.sub_zero, List.drop_zero, Option.map_none, Option.map_some] at hs3 hrd3
  exact ⟨a3, hs3, hrd3⟩
theorem append_zero {W : World} {p : Option Addr} {c : Nat} {l : List UInt8} (h : RdB W (.slice p l.length c) l) (hl : l.length ≤ 1000000) :
    ∃ v2 W2 v3 W3, (Builtin.append_ #[26, 26] 26 #[.slice (some ⟨W.heap.size, 0, none⟩) 0 0, .slice p l.length c]).run Tryz.prog (W.alloc (.cells #[] 5)) = .ok v2 W2 ∧
      (Builtin.append_ #[26, 26] 26 #[v2, .slice (some ⟨W2.heap.size, 0, none⟩) 1 1]).run Tryz.prog (W2.alloc (.cells #[.int .u8 0] 5)) = .ok v3 W3 ∧ RdB W3 v3 (l ++ [0]) ∧ Below W.heap.size W W3 := by
  have hb0 := below_new (w := W) (.cells #[] 5)
  have hB0 : Buf W (W.alloc (.cells #[] 5)) (.slice (some ⟨W.heap.size, 0, none⟩) 0 0) [] := ⟨⟨ownsRow_of_heap (heap_alloc_new W _) (Nat.le_refl _) (by simp [maxLen]) rfl rfl rfl, fun g hg => by cases hg; exact Nat.le_refl _⟩, hb0⟩
  obtain ⟨v2, W2, a2, hB2⟩ := hB0.apr (Below.refl _ _) (h.below hb0) (by simp only [List.length_nil]; omega) 26
  rw [List.nil_append] at hB2
  obtain ⟨v3, W3, a3, hB3⟩ := hB2.one 0 hl 26
  exact ⟨v2, W2, v3, W3, a2, a3, hB3.rd, hB3.b⟩
theorem gback_any {w : World} (hE : Env w) {v u : GraphD} {x y : Array Value} (hx : GrRd w v x) (hy : GrRd w u y) (hr1 : rngG v) (hr2 : rngG u) {p : Option Addr} {c : Nat} {bs0 : List UInt8} (hrb : RdB w (.slice p bs0.length c) bs0) :
    Calls Tryz.prog 7 #[.agg x, .agg y, .slice p bs0.length c] w fun e w' => e = .returned (.bool true) ∧ Below w.heap.size w w' := by
  have z1 := rd_len hrb
  have hxs := ef_graph.size hx
  have hys := ef_graph.size hy
  have hb1 := below_new (w := w) (.cells x 25)
  have hb2 := below_new (w := w.alloc (.cells x 25)) (.cells y 25)
  have hbc : Below w.heap.size w ((w.alloc (.cells x 25)).alloc (.cells y 25)) := below_trans hb1 hb2
  have hx8 : Lies w.heap.size 25 x ((w.alloc (.cells x 25)).alloc (.cells y 25)) := belowBlk hb2 (by simp) (heap_alloc_new w (.cells x 25))
  have hx9 : Lies (w.alloc (.cells x 25)).heap.size 25 y ((w.alloc (.cells x 25)).alloc (.cells y 25)) := heap_alloc_new (w.alloc (.cells x 25)) (.cells y 25)
  simp only [World.size_alloc] at hx9
  have HBX1 := Lib.hid hx8
  have HBX2 := Lib.hid hx9
  have HCUR := Lib.hid hbc
  have HE := Lib.hid hE
  have HZ1 := Lib.hid (fun W (g : Below w.heap.size w W) => smallG_any (hx.below g))
  have HZ2 := Lib.hid (fun W (g : Below w.heap.size w W) => smallG_any (hy.below g))
  have HRB := Lib.hid (hrb.below hbc)
  by_cases ht1 : totG v ≤ 3000
  rotate_left
  · clear hx hy hrb hb1 hb2 hbc hx8 hx9 hE hr1 hr2
    go_enter Tryz.func7, Tryz.ntmps7
    go_wp2_with (first
        | ((with_reducible apply op_load); exact HBX1.out.get hxs; exact rfl)
        | (go_at_call 9
           (
            refine (HZ1.out _ HCUR.out).mono ?_
            rintro e W1 ⟨s, rfl, hs, hb1⟩
            obtain rfl : s = false := by cases s; rfl; exact absurd (hs rfl) ht1
            replace HCUR := Lib.hid (below_trans HCUR.out hb1)
            try replace HBX1 := Lib.hid (HBX1.out.below hb1)
            try replace HBX2 := Lib.hid (HBX2.out.below hb1)
            try replace HRB := Lib.hid (HRB.out.below hb1)
            clear HZ1 hs hb1))
        | ((with_reducible apply op_loadH); exact HBX2.out.get hys; exact rfl; exact rfl)
        | (go_at_call 10
           (
            refine (worksG_any (HE.out.b HCUR.out)).mono ?_
            rintro e W13 ⟨rfl, hb13⟩
            replace HCUR := Lib.hid (below_trans HCUR.out hb13)
            clear hb13)))
    all_goals
      go_ret
      exact ⟨rfl, HCUR.out⟩
  by_cases ht2 : totG u ≤ 3000
  rotate_left
  · clear hx hy hrb hb1 hb2 hbc hx8 hx9 hE hr1 hr2
    go_enter Tryz.func7, Tryz.ntmps7
    go_wp2_with (first
        | ((with_reducible apply op_load); exact HBX1.out.get hxs; exact rfl)
        | (go_at_call 9
           (
            refine (HZ1.out _ HCUR.out).mono ?_
            rintro e W1 ⟨s, rfl, hs, hb1⟩
            have HS1 := Lib.hid hs
            replace HCUR := Lib.hid (below_trans HCUR.out hb1)
            try replace HBX1 := Lib.hid (HBX1.out.below hb1)
            try replace HBX2 := Lib.hid (HBX2.out.below hb1)
            try replace HRB := Lib.hid (HRB.out.below hb1)
            clear HZ1 hs hb1
            cases s))
        | ((with_reducible apply op_loadH); exact HBX2.out.get hys; exact rfl; exact rfl)
        | (go_at_call 9
           (
            refine (HZ2.out _ HCUR.out).mono ?_
            rintro e W2 ⟨s2, rfl, hs2, hb2⟩
            obtain rfl : s2 = false := by cases s2; rfl; exact absurd (hs2 rfl) ht2
            replace HCUR := Lib.hid (below_trans HCUR.out hb2)
            try replace HBX1 := Lib.hid (HBX1.out.below hb2)
            try replace HBX2 := Lib.hid (HBX2.out.below hb2)
            try replace HRB := Lib.hid (HRB.out.below hb2)
            clear HZ2 hs2 hb2))
        | (go_at_call 10
           (
            refine (worksG_any (HE.out.b HCUR.out)).mono ?_
            rintro e W13 ⟨rfl, hb13⟩
            replace HCUR := Lib.hid (below_trans HCUR.out hb13)
            clear hb13)))
    all_goals
      go_ret
      exact ⟨rfl, HCUR.out⟩
  by_cases hbl : bs0.length ≤ 3000
  rotate_left
  · have hbi : (3000 : Int) < (bs0.length : Int) := by omega
    clear hx hy hrb hb1 hb2 hbc hx8 hx9 hE hr1 hr2
    go_enter Tryz.func7, Tryz.ntmps7
    go_wp2_with (first
        | ((with_reducible apply op_load); exact HBX1.out.get hxs; exact rfl)
        | (go_at_call 9
           (
            refine (HZ1.out _ HCUR.out).mono ?_
            rintro e W1 ⟨s, rfl, hs, hb1⟩
            have HS1 := Lib.hid hs
            replace HCUR := Lib.hid (below_trans HCUR.out hb1)
            try replace HBX1 := Lib.hid (HBX1.out.below hb1)
            try replace HBX2 := Lib.hid (HBX2.out.below hb1)
            try replace HRB := Lib.hid (HRB.out.below hb1)
            clear HZ1 hs hb1
            cases s))
        | ((with_reducible apply op_loadH); exact HBX2.out.get hys; exact rfl; exact rfl)
        | (go_at_call 9
           (
            refine (HZ2.out _ HCUR.out).mono ?_
            rintro e W2 ⟨s2, rfl, hs2, hb2⟩
            have HS2 := Lib.hid hs2
            replace HCUR := Lib.hid (below_trans HCUR.out hb2)
            try replace HBX1 := Lib.hid (HBX1.out.below hb2)
            try replace HBX2 := Lib.hid (HBX2.out.below hb2)
            try replace HRB := Lib.hid (HRB.out.below hb2)
            clear HZ2 hs2 hb2
            cases s2))
        | (go_at_call 10
           (
            refine (worksG_any (HE.out.b HCUR.out)).mono ?_
            rintro e W13 ⟨rfl, hb13⟩
            replace HCUR := Lib.hid (below_trans HCUR.out hb13)
            clear hb13)))
    all_goals
      go_ret
      exact ⟨rfl, HCUR.out⟩
  have hbi : ¬ (3000 : Int) < (bs0.length : Int) := by omega
  have HC1 := Lib.hid (fun W (g : Below w.heap.size w W) => codecGraph_any (hE.b g) (hx.below g) hr1 (by omega))
  have HC2 := Lib.hid (fun W (g : Below w.heap.size w W) => codecGraph_any (hE.b g) (hy.below g) hr2 (by omega))
  have HA1 := Lib.hid (fun W (g : Below w.heap.size w W) (z : Array Value) (hz : GrRd W v z) => sameG_any (hE.b g) hz (hx.below g) (by omega) (by omega))
  have HA2 := Lib.hid (fun W (g : Below w.heap.size w W) => sameG_any (hE.b g) (hx.below g) (hy.below g) (by omega) (by omega))
  have hsame : okG v = true → sameG v v = true := fun h => (sameG_iff h h).2 rfl
  have hl1 := outG_len hr1 ht1
  have hl2 := outG_len hr2 ht2
  have hpos : okG v = true → 0 < (outG v).length := fun h => by unfold outG; rw [if_pos h]; exact graphC_pos v
  have HR1 := Lib.hid (fun W (g : Below w.heap.size w W) (p : Option Addr) (c : Nat) (hd : RdB W (.slice p (outG v).length c) (outG v)) => readPub_G (hE.b g) hd (by omega))
  have HR2 := Lib.hid (fun W (g : Below w.heap.size w W) (p : Option Addr) (c : Nat) (hd : RdB W (.slice p bs0.length c) bs0) => readPub_G (hE.b g) hd (by omega))
  have HR3 := Lib.hid (fun W (g : Below w.heap.size w W) (v3 : Value) (hd : RdB W v3 ((outG v).take ((outG v).length - 1))) => readPub_G' (hE.b g) hd (by rw [List.length_take]; omega))
  have HR4 := Lib.hid (fun W (g : Below w.heap.size w W) (v3 : Value) (hd : RdB W v3 (outG v ++ [0])) => readPub_G' (hE.b g) hd (by rw [List.length_append]; simp only [List.length_cons, List.length_nil]; omega))
  have hrd1 : okG v = true → readW rdGraph okG (outG v) = some v := fun h => by unfold outG; rw [if_pos h]; exact readW_of rt_graph (wf_of_okG h hr1 (by omega)) h
  have hsh : okG v = true → readW rdGraph okG ((outG v).take ((outG v).length - 1)) = none := fun h => by unfold outG; rw [if_pos h]; exact short_graph (wf_of_okG h hr1 (by omega))
  have hlo : okG v = true → readW rdGraph okG (outG v ++ [0]) = none := fun h => by unfold outG; rw [if_pos h]; exact long_graph (wf_of_okG h hr1 (by omega))
  have hboth : okG v = true → okG u = true → decide (outG v = outG u) = sameG v u ∧ beginsB (outG v) (outG u) = false ∧ beginsB (outG u) (outG v) = false := fun h1 h2 => by
    have w1 := wf_of_okG h1 hr1 (by omega)
    have w2 := wf_of_okG h2 hr2 (by omega)
    unfold outG
    rw [if_pos h1, if_pos h2]
    refine ⟨?_, beginsB_not rt_graph w1 w2, beginsB_not rt_graph w2 w1⟩
    rw [Bool.eq_iff_iff, decide_eq_true_eq, bytes_same rt_graph w1 w2, sameG_iff h1 h2]
  generalize outG v = bs1 at *
  generalize outG u = bs2 at *
  generalize sameG v u = al at *
  clear hx hy hrb hb1 hb2 hbc hx8 hx9
  cases hb0 : readW rdGraph okG bs0 with
  | none =>
    rw [hb0] at HR2
    have HC4 : Hid True := Lib.hid trivial
    clear hb0 hE
    cases ok1 : okG v
    · rw [ok1] at HC1
      clear HR1 HR3 HR4 HA1 hrd1 hsh hlo hboth hpos ok1
      cases ok2 : okG u
      all_goals
        rw [ok2] at HC2
        clear ok2
      all_goals
        go_enter Tryz.func7, Tryz.ntmps7
        go_wp2_with (first
            | ((with_reducible apply op_load); exact HBX1.out.get hxs; exact rfl)
            | (go_at_call 9
               (
                refine (HZ1.out _ HCUR.out).mono ?_
                rintro e W1 ⟨s, rfl, hs, hb1⟩
                replace HCUR := Lib.hid (below_trans HCUR.out hb1)
                try replace HBX1 := Lib.hid (HBX1.out.below hb1)
                try replace HBX2 := Lib.hid (HBX2.out.below hb1)
                try replace HRB := Lib.hid (HRB.out.below hb1)
                clear HZ1 hs hb1
                cases s))
            | ((with_reducible apply op_loadH); exact HBX2.out.get hys; exact rfl; exact rfl)
            | (go_at_call 9
               (
                refine (HZ2.out _ HCUR.out).mono ?_
                rintro e W2 ⟨s2, rfl, hs2, hb2⟩
                replace HCUR := Lib.hid (below_trans HCUR.out hb2)
                try replace HBX1 := Lib.hid (HBX1.out.below hb2)
                try replace HBX2 := Lib.hid (HBX2.out.below hb2)
                try replace HRB := Lib.hid (HRB.out.below hb2)
                clear HZ2 hs2 hb2
                cases s2))
            | (go_at_call 10
               (
                refine (worksG_any (HE.out.b HCUR.out)).mono ?_
                rintro e W13 ⟨rfl, hb13⟩
                replace HCUR := Lib.hid (below_trans HCUR.out hb13)
                clear hb13))
            | (go_at_call 11
               (
                refine (HC1.out _ HCUR.out).mono ?_
                rintro e W3 ho
                obtain ⟨p1, c1, rfl, hd1, hb3⟩ := ho.rd
                replace HCUR := Lib.hid (below_trans HCUR.out hb3)
                try replace HBX1 := Lib.hid (HBX1.out.below hb3)
                try replace HBX2 := Lib.hid (HBX2.out.below hb3)
                try replace HRB := Lib.hid (HRB.out.below hb3)
                have HD1 := Lib.hid hd1
                clear HC1 ho hd1 hb3))
            | ((with_reducible apply op_load); exact HBX2.out.get hys; exact rfl)
            | (go_at_call 11
               (
                refine (HC2.out _ HCUR.out).mono ?_
                rintro e W4 ho
                obtain ⟨p2, c2, rfl, hd2, hb4⟩ := ho.rd
                replace HCUR := Lib.hid (below_trans HCUR.out hb4)
                try replace HD1 := Lib.hid (HD1.out.below hb4)
                try replace HBX1 := Lib.hid (HBX1.out.below hb4)
                try replace HBX2 := Lib.hid (HBX2.out.below hb4)
                try replace HRB := Lib.hid (HRB.out.below hb4)
                have HD2 := Lib.hid hd2
                clear HC2 ho hd2 hb4))
            | (go_at_call 12; refine (num_err _ _).mono ?_; rintro e w' ⟨rfl, rfl⟩)
            | (go_at_call 16
               (
                refine (HR1.out _ HCUR.out _ _ HD1.out).mono ?_
                rintro e W5 ⟨cs, rfl, hcs, hb5⟩
                replace hcs : GrOwn W5 _ v cs := hcs
                have HS := Lib.hid (st_graph.fresh (P := Tryz.prog) (W := W5) (el_graph.size hcs) (el_graph.ones hcs))
                have hcz := el_graph.size hcs
                replace HCUR := Lib.hid (below_trans HCUR.out hb5)
                try replace HD1 := Lib.hid (HD1.out.below hb5)
                try replace HD2 := Lib.hid (HD2.out.below hb5)
                try replace HBX1 := Lib.hid (HBX1.out.below hb5)
                try replace HBX2 := Lib.hid (HBX2.out.below hb5)
                try replace HRB := Lib.hid (HRB.out.below hb5)
                have HX1 := Lib.hid (hcs.rd (by omega))
                clear HR1 hcs hb5))
            | ((with_reducible apply op_store); exact HS.out _ rfl; exact rfl; exact rfl
               (
                have hbn := below_new (w := W5) (.cells cs 25)
                have HBX3 := Lib.hid (show Lies W5.heap.size 25 cs (W5.alloc (.cells cs 25)) from heap_alloc_new W5 _)
                replace HCUR := Lib.hid (below_trans HCUR.out hbn)
                try replace HD1 := Lib.hid (HD1.out.below hbn)
                try replace HD2 := Lib.hid (HD2.out.below hbn)
                try replace HX1 := Lib.hid (HX1.out.below hbn)
                try replace HBX1 := Lib.hid (HBX1.out.below hbn)
                try replace HBX2 := Lib.hid (HBX2.out.below hbn)
                try replace HRB := Lib.hid (HRB.out.below hbn)
                clear hbn HS
                generalize W5.alloc (.cells cs 25) = W5n at *
                generalize W5.heap.size = B5 at *))
            | ((with_reducible apply op_loadH); exact HBX3.out.get hcz; exact rfl; exact rfl)
            | ((with_reducible apply op_loadH); exact HBX1.out.get hxs; exact rfl; exact rfl)
            | (go_at_call 33
               (
                refine (HA1.out _ HCUR.out _ HX1.out).mono ?_
                rintro e W7 ⟨rfl, hb7⟩
                replace HCUR := Lib.hid (below_trans HCUR.out hb7)
                try replace HD1 := Lib.hid (HD1.out.below hb7)
                try replace HD2 := Lib.hid (HD2.out.below hb7)
                try replace HBX1 := Lib.hid (HBX1.out.below hb7)
                try replace HBX2 := Lib.hid (HBX2.out.below hb7)
                try replace HRB := Lib.hid (HRB.out.below hb7)
                have hpi : (0 : Int) < (bs1.length : Int) := by omega
                obtain ⟨a3, hs3, hrd3⟩ := slice_less HD1.out hpos
                have HSL := Lib.hid hs3
                have HDS := Lib.hid hrd3
                clear HA1 hb7 HX1 HBX3 hs3 hrd3))
            | ((with_reducible apply op_slice); exact HSL.out _; exact rfl; exact rfl; exact rfl; exact rfl; clear HSL)
            | (go_at_call 16
               (
                refine (HR3.out _ HCUR.out _ HDS.out).mono ?_
                rintro e W8 ⟨cs3, rfl, hcs3, hb8⟩
                have HS3 := Lib.hid (st_graph.fresh (P := Tryz.prog) (W := W8) (el_graph.size hcs3) (el_graph.ones hcs3))
                replace HCUR := Lib.hid (below_trans HCUR.out hb8)
                try replace HD1 := Lib.hid (HD1.out.below hb8)
                try replace HD2 := Lib.hid (HD2.out.below hb8)
                try replace HBX1 := Lib.hid (HBX1.out.below hb8)
                try replace HBX2 := Lib.hid (HBX2.out.below hb8)
                try replace HRB := Lib.hid (HRB.out.below hb8)
                clear HR3 hcs3 hb8 HDS))
            | ((with_reducible apply op_store); exact HS3.out _ rfl; exact rfl; exact rfl
               (
                have hbn := below_new (w := W8) (.cells cs3 25)
                have HBX4 := Lib.hid (show Lies W8.heap.size 25 cs3 (W8.alloc (.cells cs3 25)) from heap_alloc_new W8 _)
                replace HCUR := Lib.hid (below_trans HCUR.out hbn)
                try replace HD1 := Lib.hid (HD1.out.below hbn)
                try replace HD2 := Lib.hid (HD2.out.below hbn)
                try replace HX1 := Lib.hid (HX1.out.below hbn)
                try replace HBX1 := Lib.hid (HBX1.out.below hbn)
                try replace HBX2 := Lib.hid (HBX2.out.below hbn)
                try replace HRB := Lib.hid (HRB.out.below hbn)
                obtain ⟨v2, W2a, v3, W3a, q1, q2, q3, q4⟩ := append_zero HD1.out (by omega)
                have HQ1 := Lib.hid q1
                have HQ2 := Lib.hid q2
                have HQ3 := Lib.hid (And.intro q3 q4)
                clear q1 q2 q3 q4 HBX4
                clear hbn HS3
                generalize W8.alloc (.cells cs3 25) = W8n at *
                generalize W8.heap.size = B8 at *))
            | ((with_reducible apply op_append); exact HQ1.out; exact rfl; exact rfl; clear HQ1)
            | ((with_reducible apply op_append); exact HQ2.out; exact rfl; exact rfl; clear HQ2)
            | (go_at_call 16
               (
                refine (HR4.out _ (below_trans HCUR.out HQ3.out.2) _ HQ3.out.1).mono ?_
                rintro e W9 ⟨cs4, rfl, hcs4, hb9⟩
                have HS4 := Lib.hid (st_graph.fresh (P := Tryz.prog) (W := W9) (el_graph.size hcs4) (el_graph.ones hcs4))
                have hb9' := below_trans HQ3.out.2 hb9
                replace HCUR := Lib.hid (below_trans HCUR.out hb9')
                try replace HD1 := Lib.hid (HD1.out.below hb9')
                try replace HD2 := Lib.hid (HD2.out.below hb9')
                try replace HBX1 := Lib.hid (HBX1.out.below hb9')
                try replace HBX2 := Lib.hid (HBX2.out.below hb9')
                try replace HRB := Lib.hid (HRB.out.below hb9')
                clear HR4 hcs4 hb9 hb9' HQ3))
            | ((with_reducible apply op_store); exact HS4.out _ rfl; exact rfl; exact rfl
               (
                have hbn := below_new (w := W9) (.cells cs4 25)
                have HBX4 := Lib.hid (show Lies W9.heap.size 25 cs4 (W9.alloc (.cells cs4 25)) from heap_alloc_new W9 _)
                replace HCUR := Lib.hid (below_trans HCUR.out hbn)
                try replace HD1 := Lib.hid (HD1.out.below hbn)
                try replace HD2 := Lib.hid (HD2.out.below hbn)
                try replace HX1 := Lib.hid (HX1.out.below hbn)
                try replace HBX1 := Lib.hid (HBX1.out.below hbn)
                try replace HBX2 := Lib.hid (HBX2.out.below hbn)
                try replace HRB := Lib.hid (HRB.out.below hbn)
                clear hbn HS4 HBX4
                generalize W9.alloc (.cells cs4 25) = W9n at *
                generalize W9.heap.size = B9 at *)))
        · go_ret
          exact ⟨rfl, HCUR.out⟩
        · go_ret
          exact ⟨rfl, HCUR.out⟩
        refine plain_region_draws (fun W => Below W4.heap.size W4 W) (by kernel_rfl) (show Below W4.heap.size W4 W4.drew from (Below.refl _ _).drew) (fun hS => ?_)
        refine tk 0 91 (v := .int .i64 2) rfl rfl (fun W hW => exec_move rfl rfl) ?_
        simp only [Act.put, sA, sZ, sS]
        refine onlyCall 1 92 rfl rfl (by kernel_rfl) rfl (exec_call [.int .i64 2] rfl rfl Tryz.func12 (by kernel_rfl) (by kernel_rfl)) ?_
        refine (num_err _ _).mono ?_
        rintro e w' ⟨rfl, rfl⟩
        refine ⟨_, rfl, .inr hS, ?_⟩
        simp only [Act.put, sA, sZ, sS]
        refine tk 2 93 (v := .bool false) rfl rfl (fun W hW => exec_bini rfl rfl rfl (he2 W)) ?_
        simp only [Act.put, sA, sZ, sS]
        refine tk 3 94 (v := .bool false) rfl rfl (fun W hW => exec_move rfl rfl) ?_
        simp only [Act.put, sA, sZ, sS]
        refine takeNot 4 95 rfl rfl (by kernel_rfl) (by kernel_rfl) (by kernel_rfl) rfl (by assumption) ?_
        simp only [Act.put, sA, sZ, sS]
        refine onlyNot 5 96 rfl rfl (by kernel_rfl) rfl ?_ (.inr (by assumption))
        simp only [Act.put, sA, sZ, sS]
        refine takeNot 6 97 rfl rfl (by kernel_rfl) (by kernel_rfl) (by kernel_rfl) rfl (by assumption) ?_
        simp only [Act.put, sA, sZ, sS]
        refine tk 7 98 (v := .bool false) rfl rfl (fun W hW => rfl) ?_
        simp only [Act.put, sA, sZ, sS]
        refine tk 8 99 (v := .bool false) rfl rfl (fun W hW => exec_move rfl rfl) ?_
        simp only [Act.put, sA, sZ, sS]
        refine takeNot 9 100 rfl rfl (by kernel_rfl) (by kernel_rfl) (by kernel_rfl) rfl (by assumption) ?_
        simp only [Act.put, sA, sZ, sS]
        refine takeNot 10 101 rfl rfl (by kernel_rfl) (by kernel_rfl) (by kernel_rfl) rfl (by assumption) ?_
        simp only [Act.put, sA, sZ, sS]
        refine takeNot 12 103 rfl rfl (by kernel_rfl) (by kernel_rfl) (by kernel_rfl) rfl (by assumption) ?_
        simp only [Act.put, sA, sZ, sS]
        refine takeNot 13 104 rfl rfl (by kernel_rfl) (by kernel_rfl) (by kernel_rfl) rfl (by assumption) ?_
        simp only [Act.put, sA, sZ, sS]
        refine onlyNot 11 102 rfl rfl (by kernel_rfl) rfl ?_ (.inr (by assumption))
        simp only [Act.put, sA, sZ, sS]
        refine onlyNot 14 105 rfl rfl (by kernel_rfl) rfl ?_ (.inr (by assumption))
        simp only [Act.put, sA, sZ, sS]
        refine takeNot 15 106 rfl rfl (by kernel_rfl) (by kernel_rfl) (by kernel_rfl) rfl (by assumption) ?_
        simp only [Act.put, sA, sZ, sS]
        refine takeNot 16 107 rfl rfl (by kernel_rfl) (by kernel_rfl) (by kernel_rfl) rfl (by assumption) ?_
        simp only [Act.put, sA, sZ, sS]
        refine takeNot 17 108 rfl rfl (by kernel_rfl) (by kernel_rfl) (by kernel_rfl) rfl (by assumption) ?_
        simp only [Act.put, sA, sZ, sS]
        refine takeNot 18 109 rfl rfl (by kernel_rfl) (by kernel_rfl) (by kernel_rfl) rfl (by assumption) ?_
        simp only [Act.put, sA, sZ, sS]
        refine onlyNot 19 110 rfl rfl (by kernel_rfl) rfl ?_ (.inr (by assumption))
        simp only [Act.put, sA, sZ, sS]
        refine takeNot 20 111 rfl rfl (by kernel_rfl) (by kernel_rfl) (by kernel_rfl) rfl (by assumption) ?_
        simp only [Act.put, sA, sZ, sS]
        refine takeNot 21 112 rfl rfl (by kernel_rfl) (by kernel_rfl) (by kernel_rfl) rfl (by assumption) ?_
        simp only [Act.put, sA, sZ, sS]
        refine takeNot 22 113 rfl rfl (by kernel_rfl) (by kernel_rfl) (by kernel_rfl) rfl (by assumption) ?_
        simp only [Act.put, sA, sZ, sS]
        refine takeNot 23 114 rfl rfl (by kernel_rfl) (by kernel_rfl) (by kernel_rfl) rfl (by assumption) ?_
        simp only [Act.put, sA, sZ, sS]
        refine onlyNot 24 115 rfl rfl (by kernel_rfl) rfl ?_ (.inr (by assumption))
        simp only [Act.put, sA, sZ, sS]
        refine takeNot 25 116 rfl rfl (by kernel_rfl) (by kernel_rfl) (by kernel_rfl) rfl (by assumption) ?_
        simp only [Act.put, sA, sZ, sS]
        refine tk 26 117 (v := .bool false) rfl rfl (fun W hW => rfl) ?_
        simp only [Act.put, sA, sZ, sS]
        refine done (by kernel_rfl) ?_ _
        replace HCUR := Lib.hid (below_trans HCUR.out hS)
        replace HRB := Lib.hid (HRB.out.below hS)
        clear hS HD1 HD2 HBX1 HBX2
        go_wp2_with (first
            | (go_at_call 12; refine (num_err _ _).mono ?_; rintro e w' ⟨rfl, rfl⟩)
            | (go_at_call 16
               (
                refine (HR2.out _ HCUR.out _ _ HRB.out).mono ?_
                rintro e W11 ⟨cs2, rfl, hcs2, hb11⟩
                replace hcs2 : GrOwn W11 _ graphZ cs2 := hcs2
                have HS2 := Lib.hid (st_graph.fresh (P := Tryz.prog) (W := W11) (el_graph.size hcs2) (el_graph.ones hcs2))
                have hcz2 := el_graph.size hcs2
                replace HCUR := Lib.hid (below_trans HCUR.out hb11)
                try replace HRB := Lib.hid (HRB.out.below hb11)
                have HX2 := Lib.hid (hcs2.rd (by simp [graphZ, totG]))
                clear HR2 hcs2 hb11))
            | ((with_reducible apply op_store); exact HS2.out _ rfl; exact rfl; exact rfl
               (
                have hbn := below_new (w := W11) (.cells cs2 25)
                have HBX3 := Lib.hid (show Lies W11.heap.size 25 cs2 (W11.alloc (.cells cs2 25)) from heap_alloc_new W11 _)
                replace HCUR := Lib.hid (below_trans HCUR.out hbn)
                try replace HD1 := Lib.hid (HD1.out.below hbn)
                try replace HD2 := Lib.hid (HD2.out.below hbn)
                try replace HX1 := Lib.hid (HX1.out.below hbn)
                try replace HBX1 := Lib.hid (HBX1.out.below hbn)
                try replace HBX2 := Lib.hid (HBX2.out.below hbn)
                try replace HRB := Lib.hid (HRB.out.below hbn)
                replace HX2 := Lib.hid (HX2.out.below hbn)
                clear hbn HS2
                generalize W11.alloc (.cells cs2 25) = W11n at *
                generalize W11.heap.size = B11 at *))
            | ((with_reducible apply op_load); exact HBX3.out.get hcz2; exact rfl)
            | (go_at_call 11
               (
                refine (HC4.out _ HCUR.out _ HX2.out).mono ?_
                rintro e W12 ho
                obtain ⟨p12, c12, rfl, hd12, hb12⟩ := ho.rd
                replace HCUR := Lib.hid (below_trans HCUR.out hb12)
                try replace HRB := Lib.hid (HRB.out.below hb12)
                have HD12 := Lib.hid hd12
                clear HC4 ho hd12 hb12))
            | (go_at_call 14
               (
                refine (bytes_any HD12.out HRB.out).mono ?_
                rintro e w' ⟨rfl, rfl⟩
                have heq2 : decide (bs0 = bs0) = true := decide_eq_true rfl))
            | (go_at_call 10
               (
                refine (worksG_any (HE.out.b HCUR.out)).mono ?_
                rintro e W13 ⟨rfl, hb13⟩
                replace HCUR := Lib.hid (below_trans HCUR.out hb13)
                clear hb13)))
        go_ret
        exact ⟨rfl, HCUR.out⟩
    · have hpos := hpos ok1
      rw [hrd1 ok1] at HR1
      rw [hsh ok1] at HR3
      rw [hlo ok1] at HR4
      rw [ok1] at HC1
      have hsame := hsame ok1
      rw [hsame] at HA1
      cases ok2 : okG u
      · rw [ok2] at HC2
        clear hrd1 hsh hlo hboth hsame ok1 ok2
        go_enter Tryz.func7, Tryz.ntmps7
        go_wp2_with (first
            | ((with_reducible apply op_load); exact HBX1.out.get hxs; exact rfl)
            | (go_at_call 9
               (
                refine (HZ1.out _ HCUR.out).mono ?_
                rintro e W1 ⟨s, rfl, hs, hb1⟩
                replace HCUR := Lib.hid (below_trans HCUR.out hb1)
                try replace HBX1 := Lib.hid (HBX1.out.below hb1)
                try replace HBX2 := Lib.hid (HBX2.out.below hb1)
                try replace HRB := Lib.hid (HRB.out.below hb1)
                clear HZ1 hs hb1
                cases s))
            | ((with_reducible apply op_loadH); exact HBX2.out.get hys; exact rfl; exact rfl)
            | (go_at_call 9
               (
                refine (HZ2.out _ HCUR.out).mono ?_
                rintro e W2 ⟨s2, rfl, hs2, hb2⟩
                replace HCUR := Lib.hid (below_trans HCUR.out hb2)
                try replace HBX1 := Lib.hid (HBX1.out.below hb2)
                try replace HBX2 := Lib.hid (HBX2.out.below hb2)
                try replace HRB := Lib.hid (HRB.out.below hb2)
                clear HZ2 hs2 hb2
                cases s2))
            | (go_at_call 10
               (
                refine (worksG_any (HE.out.b HCUR.out)).mono ?_
                rintro e W13 ⟨rfl, hb13⟩
                replace HCUR := Lib.hid (below_trans HCUR.out hb13)
                clear hb13))
            | (go_at_call 11
               (
                refine (HC1.out _ HCUR.out).mono ?_
                rintro e W3 ho
                obtain ⟨p1, c1, rfl, hd1, hb3⟩ := ho.rd
                replace HCUR := Lib.hid (below_trans HCUR.out hb3)
                try replace HBX1 := Lib.hid (HBX1.out.below hb3)
                try replace HBX2 := Lib.hid (HBX2.out.below hb3)
                try replace HRB := Lib.hid (HRB.out.below hb3)
                have HD1 := Lib.hid hd1
                clear HC1 ho hd1 hb3))
            | ((with_reducible apply op_load); exact HBX2.out.get hys; exact rfl)
            | (go_at_call 11
               (
                refine (HC2.out _ HCUR.out).mono ?_
                rintro e W4 ho
                obtain ⟨p2, c2, rfl, hd2, hb4⟩ := ho.rd
                replace HCUR := Lib.hid (below_trans HCUR.out hb4)
                try replace HD1 := Lib.hid (HD1.out.below hb4)
                try replace HBX1 := Lib.hid (HBX1.out.below hb4)
                try replace HBX2 := Lib.hid (HBX2.out.below hb4)
                try replace HRB := Lib.hid (HRB.out.below hb4)
                have HD2 := Lib.hid hd2
                clear HC2 ho hd2 hb4))
            | (go_at_call 12; refine (num_err _ _).mono ?_; rintro e w' ⟨rfl, rfl⟩)
            | (go_at_call 16
               (
                refine (HR1.out _ HCUR.out _ _ HD1.out).mono ?_
                rintro e W5 ⟨cs, rfl, hcs, hb5⟩
                replace hcs : GrOwn W5 _ v cs := hcs
                have HS := Lib.hid (st_graph.fresh (P := Tryz.prog) (W := W5) (el_graph.size hcs) (el_graph.ones hcs))
                have hcz := el_graph.size hcs
                replace HCUR := Lib.hid (below_trans HCUR.out hb5)
                try replace HD1 := Lib.hid (HD1.out.below hb5)
                try replace HD2 := Lib.hid (HD2.out.below hb5)
                try replace HBX1 := Lib.hid (HBX1.out.below hb5)
                try replace HBX2 := Lib.hid (HBX2.out.below hb5)
                try replace HRB := Lib.hid (HRB.out.below hb5)
                have HX1 := Lib.hid (hcs.rd (by omega))
                clear HR1 hcs hb5))
            | ((with_reducible apply op_store); exact HS.out _ rfl; exact rfl; exact rfl
               (
                have hbn := below_new (w := W5) (.cells cs 25)
                have HBX3 := Lib.hid (show Lies W5.heap.size 25 cs (W5.alloc (.cells cs 25)) from heap_alloc_new W5 _)
                replace HCUR := Lib.hid (below_trans HCUR.out hbn)
                try replace HD1 := Lib.hid (HD1.out.below hbn)
                try replace HD2 := Lib.hid (HD2.out.below hbn)
                try replace HX1 := Lib.hid (HX1.out.below hbn)
                try replace HBX1 := Lib.hid (HBX1.out.below hbn)
                try replace HBX2 := Lib.hid (HBX2.out.below hbn)
                try replace HRB := Lib.hid (HRB.out.below hbn)
                clear hbn HS
                generalize W5.alloc (.cells cs 25) = W5n at *
                generalize W5.heap.size = B5 at *))
            | ((with_reducible apply op_loadH); exact HBX3.out.get hcz; exact rfl; exact rfl)
            | ((with_reducible apply op_loadH); exact HBX1.out.get hxs; exact rfl; exact rfl)
            | (go_at_call 33
               (
                refine (HA1.out _ HCUR.out _ HX1.out).mono ?_
                rintro e W7 ⟨rfl, hb7⟩
                replace HCUR := Lib.hid (below_trans HCUR.out hb7)
                try replace HD1 := Lib.hid (HD1.out.below hb7)
                try replace HD2 := Lib.hid (HD2.out.below hb7)
                try replace HBX1 := Lib.hid (HBX1.out.below hb7)
                try replace HBX2 := Lib.hid (HBX2.out.below hb7)
                try replace HRB := Lib.hid (HRB.out.below hb7)
                have hpi : (0 : Int) < (bs1.length : Int) := by omega
                obtain ⟨a3, hs3, hrd3⟩ := slice_less HD1.out hpos
                have HSL := Lib.hid hs3
                have HDS := Lib.hid hrd3
                clear HA1 hb7 HX1 HBX3 hs3 hrd3))
            | ((with_reducible apply op_slice); exact HSL.out _; exact rfl; exact rfl; exact rfl; exact rfl; clear HSL)
            | (go_at_call 16
               (
                refine (HR3.out _ HCUR.out _ HDS.out).mono ?_
                rintro e W8 ⟨cs3, rfl, hcs3, hb8⟩
                have HS3 := Lib.hid (st_graph.fresh (P := Tryz.prog) (W := W8) (el_graph.size hcs3) (el_graph.ones hcs3))
                replace HCUR := Lib.hid (below_trans HCUR.out hb8)
                try replace HD1 := Lib.hid (HD1.out.below hb8)
                try replace HD2 := Lib.hid (HD2.out.below hb8)
                try replace HBX1 := Lib.hid (HBX1.out.below hb8)
                try replace HBX2 := Lib.hid (HBX2.out.below hb8)
                try replace HRB := Lib.hid (HRB.out.below hb8)
                clear HR3 hcs3 hb8 HDS))
            | ((with_reducible apply op_store); exact HS3.out _ rfl; exact rfl; exact rfl
               (
                have hbn := below_new (w := W8) (.cells cs3 25)
                have HBX4 := Lib.hid (show Lies W8.heap.size 25 cs3 (W8.alloc (.cells cs3 25)) from heap_alloc_new W8 _)
                replace HCUR := Lib.hid (below_trans HCUR.out hbn)
                try replace HD1 := Lib.hid (HD1.out.below hbn)
                try replace HD2 := Lib.hid (HD2.out.below hbn)
                try replace HX1 := Lib.hid (HX1.out.below hbn)
                try replace HBX1 := Lib.hid (HBX1.out.below hbn)
                try replace HBX2 := Lib.hid (HBX2.out.below hbn)
                try replace HRB := Lib.hid (HRB.out.below hbn)
                obtain ⟨v2, W2a, v3, W3a, q1, q2, q3, q4⟩ := append_zero HD1.out (by omega)
                have HQ1 := Lib.hid q1
                have HQ2 := Lib.hid q2
                have HQ3 := Lib.hid (And.intro q3 q4)
                clear q1 q2 q3 q4 HBX4
                clear hbn HS3
                generalize W8.alloc (.cells cs3 25) = W8n at *
                generalize W8.heap.size = B8 at *))
            | ((with_reducible apply op_append); exact HQ1.out; exact rfl; exact rfl; clear HQ1)
            | ((with_reducible apply op_append); exact HQ2.out; exact rfl; exact rfl; clear HQ2)
            | (go_at_call 16
               (
                refine (HR4.out _ (below_trans HCUR.out HQ3.out.2) _ HQ3.out.1).mono ?_
                rintro e W9 ⟨cs4, rfl, hcs4, hb9⟩
                have HS4 := Lib.hid (st_graph.fresh (P := Tryz.prog) (W := W9) (el_graph.size hcs4) (el_graph.ones hcs4))
                have hb9' := below_trans HQ3.out.2 hb9
                replace HCUR := Lib.hid (below_trans HCUR.out hb9')
                try replace HD1 := Lib.hid (HD1.out.below hb9')
                try replace HD2 := Lib.hid (HD2.out.below hb9')
                try replace HBX1 := Lib.hid (HBX1.out.below hb9')
                try replace HBX2 := Lib.hid (HBX2.out.below hb9')
                try replace HRB := Lib.hid (HRB.out.below hb9')
                clear HR4 hcs4 hb9 hb9' HQ3))
            | ((with_reducible apply op_store); exact HS4.out _ rfl; exact rfl; exact rfl
               (
                have hbn := below_new (w := W9) (.cells cs4 25)
                have HBX4 := Lib.hid (show Lies W9.heap.size 25 cs4 (W9.alloc (.cells cs4 25)) from heap_alloc_new W9 _)
                replace HCUR := Lib.hid (below_trans HCUR.out hbn)
                try replace HD1 := Lib.hid (HD1.out.below hbn)
                try replace HD2 := Lib.hid (HD2.out.below hbn)
                try replace HX1 := Lib.hid (HX1.out.below hbn)
                try replace HBX1 := Lib.hid (HBX1.out.below hbn)
                try replace HBX2 := Lib.hid (HBX2.out.below hbn)
                try replace HRB := Lib.hid (HRB.out.below hbn)
                clear hbn HS4 HBX4
                generalize W9.alloc (.cells cs4 25) = W9n at *
                generalize W9.heap.size = B9 at *)))
        · go_ret
          exact ⟨rfl, HCUR.out⟩
        · go_ret
          exact ⟨rfl, HCUR.out⟩
        refine plain_region_draws (fun W => Below W9n.heap.size W9n W) (by kernel_rfl) (show Below W9n.heap.size W9n W9n.drew from (Below.refl _ _).drew) (fun hS => ?_)
        refine tk 0 91 (v := .int .i64 0) rfl rfl (fun W hW => exec_move rfl rfl) ?_
        simp only [Act.put, sA, sZ, sS]
        refine onlyCall 1 92 rfl rfl (by kernel_rfl) rfl (exec_call [.int .i64 0] rfl rfl Tryz.func12 (by kernel_rfl) (by kernel_rfl)) ?_
        refine (num_err _ _).mono ?_
        rintro e w' ⟨rfl, rfl⟩
        refine ⟨_, rfl, .inr hS, ?_⟩
        simp only [Act.put, sA, sZ, sS]
        refine tk 2 93 (v := .bool true) rfl rfl (fun W hW => exec_bini rfl rfl rfl (he0 W)) ?_
        simp only [Act.put, sA, sZ, sS]
        refine tk 3 94 (v := .bool true) rfl rfl (fun W hW => exec_move rfl rfl) ?_
        simp only [Act.put, sA, sZ, sS]
        refine tk 4 95 (v := .int .i64 2) rfl rfl (fun W hW => exec_move rfl rfl) ?_
        simp only [Act.put, sA, sZ, sS]
        refine onlyCall 5 96 rfl rfl (by kernel_rfl) rfl (exec_call [.int .i64 2] rfl rfl Tryz.func12 (by kernel_rfl) (by kernel_rfl)) ?_
        refine (num_err _ _).mono ?_
        rintro e w' ⟨rfl, rfl⟩
        refine ⟨_, rfl, .inr hS, ?_⟩
        simp only [Act.put, sA, sZ, sS]
        refine tk 6 97 (v := .bool false) rfl rfl (fun W hW => exec_bini rfl rfl rfl (he2 W)) ?_
        simp only [Act.put, sA, sZ, sS]
        refine tk 7 98 (v := .bool false) rfl rfl (fun W hW => rfl) ?_
        simp only [Act.put, sA, sZ, sS]
        refine tk 8 99 (v := .bool false) rfl rfl (fun W hW => exec_move rfl rfl) ?_
        simp only [Act.put, sA, sZ, sS]
        refine takeNot 9 100 rfl rfl (by kernel_rfl) (by kernel_rfl) (by kernel_rfl) rfl (by assumption) ?_
        simp only [Act.put, sA, sZ, sS]
        refine takeNot 10 101 rfl rfl (by kernel_rfl) (by kernel_rfl) (by kernel_rfl) rfl (by assumption) ?_
        simp only [Act.put, sA, sZ, sS]
        refine takeNot 12 103 rfl rfl (by kernel_rfl) (by kernel_rfl) (by kernel_rfl) rfl (by assumption) ?_
        simp only [Act.put, sA, sZ, sS]
        refine takeNot 13 104 rfl rfl (by kernel_rfl) (by kernel_rfl) (by kernel_rfl) rfl (by assumption) ?_
        simp only [Act.put, sA, sZ, sS]
        refine onlyNot 11 102 rfl rfl (by kernel_rfl) rfl ?_ (.inr (by assumption))
        simp only [Act.put, sA, sZ, sS]
        refine onlyNot 14 105 rfl rfl (by kernel_rfl) rfl ?_ (.inr (by assumption))
        simp only [Act.put, sA, sZ, sS]
        refine takeNot 15 106 rfl rfl (by kernel_rfl) (by kernel_rfl) (by kernel_rfl) rfl (by assumption) ?_
        simp only [Act.put, sA, sZ, sS]
        refine takeNot 16 107 rfl rfl (by kernel_rfl) (by kernel_rfl) (by kernel_rfl) rfl (by assumption) ?_
        simp only [Act.put, sA, sZ, sS]
        refine takeNot 17 108 rfl rfl (by kernel_rfl) (by kernel_rfl) (by kernel_rfl) rfl (by assumption) ?_
        simp only [Act.put, sA, sZ, sS]
        refine takeNot 18 109 rfl rfl (by kernel_rfl) (by kernel_rfl) (by kernel_rfl) rfl (by assumption) ?_
        simp only [Act.put, sA, sZ, sS]
        refine onlyNot 19 110 rfl rfl (by kernel_rfl) rfl ?_ (.inr (by assumption))
        simp only [Act.put, sA, sZ, sS]
        refine takeNot 20 111 rfl rfl (by kernel_rfl) (by kernel_rfl) (by kernel_rfl) rfl (by assumption) ?_
        simp only [Act.put, sA, sZ, sS]
        refine takeNot 21 112 rfl rfl (by kernel_rfl) (by kernel_rfl) (by kernel_rfl) rfl (by assumption) ?_
        simp only [Act.put, sA, sZ, sS]
        refine takeNot 22 113 rfl rfl (by kernel_rfl) (by kernel_rfl) (by kernel_rfl) rfl (by assumption) ?_
        simp only [Act.put, sA, sZ, sS]
        refine takeNot 23 114 rfl rfl (by kernel_rfl) (by kernel_rfl) (by kernel_rfl) rfl (by assumption) ?_
        simp only [Act.put, sA, sZ, sS]
        refine onlyNot 24 115 rfl rfl (by kernel_rfl) rfl ?_ (.inr (by assumption))
        simp only [Act.put, sA, sZ, sS]
        refine takeNot 25 116 rfl rfl (by kernel_rfl) (by kernel_rfl) (by kernel_rfl) rfl (by assumption) ?_
        simp only [Act.put, sA, sZ, sS]
        refine tk 26 117 (v := .bool false) rfl rfl (fun W hW => rfl) ?_
        simp only [Act.put, sA, sZ, sS]
        refine done (by kernel_rfl) ?_ _
        replace HCUR := Lib.hid (below_trans HCUR.out hS)
        replace HRB := Lib.hid (HRB.out.below hS)
        clear hS HD1 HD2 HBX1 HBX2
        go_wp2_with (first
            | (go_at_call 12; refine (num_err _ _).mono ?_; rintro e w' ⟨rfl, rfl⟩)
            | (go_at_call 16
               (
                refine (HR2.out _ HCUR.out _ _ HRB.out).mono ?_
                rintro e W11 ⟨cs2, rfl, hcs2, hb11⟩
                replace hcs2 : GrOwn W11 _ graphZ cs2 := hcs2
                have HS2 := Lib.hid (st_graph.fresh (P := Tryz.prog) (W := W11) (el_graph.size hcs2) (el_graph.ones hcs2))
                have hcz2 := el_graph.size hcs2
                replace HCUR := Lib.hid (below_trans HCUR.out hb11)
                try replace HRB := Lib.hid (HRB.out.below hb11)
                have HX2 := Lib.hid (hcs2.rd (by simp [graphZ, totG]))
                clear HR2 hcs2 hb11))
            | ((with_reducible apply op_store); exact HS2.out _ rfl; exact rfl; exact rfl
               (
                have hbn := below_new (w := W11) (.cells cs2 25)
                have HBX3 := Lib.hid (show Lies W11.heap.size 25 cs2 (W11.alloc (.cells cs2 25)) from heap_alloc_new W11 _)
                replace HCUR := Lib.hid (below_trans HCUR.out hbn)
                try replace HD1 := Lib.hid (HD1.out.below hbn)
                try replace HD2 := Lib.hid (HD2.out.below hbn)
                try replace HX1 := Lib.hid (HX1.out.below hbn)
                try replace HBX1 := Lib.hid (HBX1.out.below hbn)
                try replace HBX2 := Lib.hid (HBX2.out.below hbn)
                try replace HRB := Lib.hid (HRB.out.below hbn)
                replace HX2 := Lib.hid (HX2.out.below hbn)
                clear hbn HS2
                generalize W11.alloc (.cells cs2 25) = W11n at *
                generalize W11.heap.size = B11 at *))
            | ((with_reducible apply op_load); exact HBX3.out.get hcz2; exact rfl)
            | (go_at_call 11
               (
                refine (HC4.out _ HCUR.out _ HX2.out).mono ?_
                rintro e W12 ho
                obtain ⟨p12, c12, rfl, hd12, hb12⟩ := ho.rd
                replace HCUR := Lib.hid (below_trans HCUR.out hb12)
                try replace HRB := Lib.hid (HRB.out.below hb12)
                have HD12 := Lib.hid hd12
                clear HC4 ho hd12 hb12))
            | (go_at_call 14
               (
                refine (bytes_any HD12.out HRB.out).mono ?_
                rintro e w' ⟨rfl, rfl⟩
                have heq2 : decide (bs0 = bs0) = true := decide_eq_true rfl))
            | (go_at_call 10
               (
                refine (worksG_any (HE.out.b HCUR.out)).mono ?_
                rintro e W13 ⟨rfl, hb13⟩
                replace HCUR := Lib.hid (below_trans HCUR.out hb13)
                clear hb13)))
        go_ret
        exact ⟨rfl, HCUR.out⟩
      · obtain ⟨e1, e2, e3⟩ := hboth ok1 ok2
        rw [ok2] at HC2
        clear hrd1 hsh hlo hboth hsame ok1 ok2
        have HEQ := Lib.hid (And.intro e1 (And.intro e2 e3))
        clear e1 e2 e3
        go_enter Tryz.func7, Tryz.ntmps7
        go_wp2_with (first
            | ((with_reducible apply op_load); exact HBX1.out.get hxs; exact rfl)
            | (go_at_call 9
               (
                refine (HZ1.out _ HCUR.out).mono ?_
                rintro e W1 ⟨s, rfl, hs, hb1⟩
                replace HCUR := Lib.hid (below_trans HCUR.out hb1)
                try replace HBX1 := Lib.hid (HBX1.out.below hb1)
                try replace HBX2 := Lib.hid (HBX2.out.below hb1)
                try replace HRB := Lib.hid (HRB.out.below hb1)
                clear HZ1 hs hb1
                cases s))
            | ((with_reducible apply op_loadH); exact HBX2.out.get hys; exact rfl; exact rfl)
            | (go_at_call 9
               (
                refine (HZ2.out _ HCUR.out).mono ?_
                rintro e W2 ⟨s2, rfl, hs2, hb2⟩
                replace HCUR := Lib.hid (below_trans HCUR.out hb2)
                try replace HBX1 := Lib.hid (HBX1.out.below hb2)
                try replace HBX2 := Lib.hid (HBX2.out.below hb2)
                try replace HRB := Lib.hid (HRB.out.below hb2)
                clear HZ2 hs2 hb2
                cases s2))
            | (go_at_call 10
               (
                refine (worksG_any (HE.out.b HCUR.out)).mono ?_
                rintro e W13 ⟨rfl, hb13⟩
                replace HCUR := Lib.hid (below_trans HCUR.out hb13)
                clear hb13))
            | (go_at_call 11
               (
                refine (HC1.out _ HCUR.out).mono ?_
                rintro e W3 ho
                obtain ⟨p1, c1, rfl, hd1, hb3⟩ := ho.rd
                replace HCUR := Lib.hid (below_trans HCUR.out hb3)
                try replace HBX1 := Lib.hid (HBX1.out.below hb3)
                try replace HBX2 := Lib.hid (HBX2.out.below hb3)
                try replace HRB := Lib.hid (HRB.out.below hb3)
                have HD1 := Lib.hid hd1
                clear HC1 ho hd1 hb3))
            | ((with_reducible apply op_load); exact HBX2.out.get hys; exact rfl)
            | (go_at_call 11
               (
                refine (HC2.out _ HCUR.out).mono ?_
                rintro e W4 ho
                obtain ⟨p2, c2, rfl, hd2, hb4⟩ := ho.rd
                replace HCUR := Lib.hid (below_trans HCUR.out hb4)
                try replace HD1 := Lib.hid (HD1.out.below hb4)
                try replace HBX1 := Lib.hid (HBX1.out.below hb4)
                try replace HBX2 := Lib.hid (HBX2.out.below hb4)
                try replace HRB := Lib.hid (HRB.out.below hb4)
                have HD2 := Lib.hid hd2
                clear HC2 ho hd2 hb4))
            | (go_at_call 12; refine (num_err _ _).mono ?_; rintro e w' ⟨rfl, rfl⟩)
            | (go_at_call 16
               (
                refine (HR1.out _ HCUR.out _ _ HD1.out).mono ?_
                rintro e W5 ⟨cs, rfl, hcs, hb5⟩
                replace hcs : GrOwn W5 _ v cs := hcs
                have HS := Lib.hid (st_graph.fresh (P := Tryz.prog) (W := W5) (el_graph.size hcs) (el_graph.ones hcs))
                have hcz := el_graph.size hcs
                replace HCUR := Lib.hid (below_trans HCUR.out hb5)
                try replace HD1 := Lib.hid (HD1.out.below hb5)
                try replace HD2 := Lib.hid (HD2.out.below hb5)
                try replace HBX1 := Lib.hid (HBX1.out.below hb5)
                try replace HBX2 := Lib.hid (HBX2.out.below hb5)
                try replace HRB := Lib.hid (HRB.out.below hb5)
                have HX1 := Lib.hid (hcs.rd (by omega))
                clear HR1 hcs hb5))
            | ((with_reducible apply op_store); exact HS.out _ rfl; exact rfl; exact rfl
               (
                have hbn := below_new (w := W5) (.cells cs 25)
                have HBX3 := Lib.hid (show Lies W5.heap.size 25 cs (W5.alloc (.cells cs 25)) from heap_alloc_new W5 _)
                replace HCUR := Lib.hid (below_trans HCUR.out hbn)
                try replace HD1 := Lib.hid (HD1.out.below hbn)
                try replace HD2 := Lib.hid (HD2.out.below hbn)
                try replace HX1 := Lib.hid (HX1.out.below hbn)
                try replace HBX1 := Lib.hid (HBX1.out.below hbn)
                try replace HBX2 := Lib.hid (HBX2.out.below hbn)
                try replace HRB := Lib.hid (HRB.out.below hbn)
                clear hbn HS
                generalize W5.alloc (.cells cs 25) = W5n at *
                generalize W5.heap.size = B5 at *))
            | ((with_reducible apply op_loadH); exact HBX3.out.get hcz; exact rfl; exact rfl)
            | ((with_reducible apply op_loadH); exact HBX1.out.get hxs; exact rfl; exact rfl)
            | (go_at_call 33
               (
                refine (HA1.out _ HCUR.out _ HX1.out).mono ?_
                rintro e W7 ⟨rfl, hb7⟩
                replace HCUR := Lib.hid (below_trans HCUR.out hb7)
                try replace HD1 := Lib.hid (HD1.out.below hb7)
                try replace HD2 := Lib.hid (HD2.out.below hb7)
                try replace HBX1 := Lib.hid (HBX1.out.below hb7)
                try replace HBX2 := Lib.hid (HBX2.out.below hb7)
                try replace HRB := Lib.hid (HRB.out.below hb7)
                have hpi : (0 : Int) < (bs1.length : Int) := by omega
                obtain ⟨a3, hs3, hrd3⟩ := slice_less HD1.out hpos
                have HSL := Lib.hid hs3
                have HDS := Lib.hid hrd3
                clear HA1 hb7 HX1 HBX3 hs3 hrd3))
            | ((with_reducible apply op_slice); exact HSL.out _; exact rfl; exact rfl; exact rfl; exact rfl; clear HSL)
            | (go_at_call 16
               (
                refine (HR3.out _ HCUR.out _ HDS.out).mono ?_
                rintro e W8 ⟨cs3, rfl, hcs3, hb8⟩
                have HS3 := Lib.hid (st_graph.fresh (P := Tryz.prog) (W := W8) (el_graph.size hcs3) (el_graph.ones hcs3))
                replace HCUR := Lib.hid (below_trans HCUR.out hb8)
                try replace HD1 := Lib.hid (HD1.out.below hb8)
                try replace HD2 := Lib.hid (HD2.out.below hb8)
                try replace HBX1 := Lib.hid (HBX1.out.below hb8)
                try replace HBX2 := Lib.hid (HBX2.out.below hb8)
                try replace HRB := Lib.hid (HRB.out.below hb8)
                clear HR3 hcs3 hb8 HDS))
            | ((with_reducible apply op_store); exact HS3.out _ rfl; exact rfl; exact rfl
               (
                have hbn := below_new (w := W8) (.cells cs3 25)
                have HBX4 := Lib.hid (show Lies W8.heap.size 25 cs3 (W8.alloc (.cells cs3 25)) from heap_alloc_new W8 _)
                replace HCUR := Lib.hid (below_trans HCUR.out hbn)
                try replace HD1 := Lib.hid (HD1.out.below hbn)
                try replace HD2 := Lib.hid (HD2.out.below hbn)
                try replace HX1 := Lib.hid (HX1.out.below hbn)
                try replace HBX1 := Lib.hid (HBX1.out.below hbn)
                try replace HBX2 := Lib.hid (HBX2.out.below hbn)
                try replace HRB := Lib.hid (HRB.out.below hbn)
                obtain ⟨v2, W2a, v3, W3a, q1, q2, q3, q4⟩ := append_zero HD1.out (by omega)
                have HQ1 := Lib.hid q1
                have HQ2 := Lib.hid q2
                have HQ3 := Lib.hid (And.intro q3 q4)
                clear q1 q2 q3 q4 HBX4
                clear hbn HS3
                generalize W8.alloc (.cells cs3 25) = W8n at *
                generalize W8.heap.size = B8 at *))
            | ((with_reducible apply op_append); exact HQ1.out; exact rfl; exact rfl; clear HQ1)
            | ((with_reducible apply op_append); exact HQ2.out; exact rfl; exact rfl; clear HQ2)
            | (go_at_call 16
               (
                refine (HR4.out _ (below_trans HCUR.out HQ3.out.2) _ HQ3.out.1).mono ?_
                rintro e W9 ⟨cs4, rfl, hcs4, hb9⟩
                have HS4 := Lib.hid (st_graph.fresh (P := Tryz.prog) (W := W9) (el_graph.size hcs4) (el_graph.ones hcs4))
                have hb9' := below_trans HQ3.out.2 hb9
                replace HCUR := Lib.hid (below_trans HCUR.out hb9')
                try replace HD1 := Lib.hid (HD1.out.below hb9')
                try replace HD2 := Lib.hid (HD2.out.below hb9')
                try replace HBX1 := Lib.hid (HBX1.out.below hb9')
                try replace HBX2 := Lib.hid (HBX2.out.below hb9')
                try replace HRB := Lib.hid (HRB.out.below hb9')
                clear HR4 hcs4 hb9 hb9' HQ3))
            | ((with_reducible apply op_store); exact HS4.out _ rfl; exact rfl; exact rfl
               (
                have hbn := below_new (w := W9) (.cells cs4 25)
                have HBX4 := Lib.hid (show Lies W9.heap.size 25 cs4 (W9.alloc (.cells cs4 25)) from heap_alloc_new W9 _)
                replace HCUR := Lib.hid (below_trans HCUR.out hbn)
                try replace HD1 := Lib.hid (HD1.out.below hbn)
                try replace HD2 := Lib.hid (HD2.out.below hbn)
                try replace HX1 := Lib.hid (HX1.out.below hbn)
                try replace HBX1 := Lib.hid (HBX1.out.below hbn)
                try replace HBX2 := Lib.hid (HBX2.out.below hbn)
                try replace HRB := Lib.hid (HRB.out.below hbn)
                clear hbn HS4 HBX4
                generalize W9.alloc (.cells cs4 25) = W9n at *
                generalize W9.heap.size = B9 at *)))
        · go_ret
          exact ⟨rfl, HCUR.out⟩
        · go_ret
          exact ⟨rfl, HCUR.out⟩
        obtain ⟨e1, e2, e3⟩ := HEQ.out
        refine plain_region_draws (fun W => Below W9n.heap.size W9n W) (by kernel_rfl) (show Below W9n.heap.size W9n W9n.drew from (Below.refl _ _).drew) (fun hS => ?_)
        refine tk 0 91 (v := .int .i64 0) rfl rfl (fun W hW => exec_move rfl rfl) ?_
        simp only [Act.put, sA, sZ, sS]
        refine onlyCall 1 92 rfl rfl (by kernel_rfl) rfl (exec_call [.int .i64 0] rfl rfl Tryz.func12 (by kernel_rfl) (by kernel_rfl)) ?_
        refine (num_err _ _).mono ?_
        rintro e w' ⟨rfl, rfl⟩
        refine ⟨_, rfl, .inr hS, ?_⟩
        simp only [Act.put, sA, sZ, sS]
        refine tk 2 93 (v := .bool true) rfl rfl (fun W hW => exec_bini rfl rfl rfl (he0 W)) ?_
        simp only [Act.put, sA, sZ, sS]
        refine tk 3 94 (v := .bool true) rfl rfl (fun W hW => exec_move rfl rfl) ?_
        simp only [Act.put, sA, sZ, sS]
        refine tk 4 95 (v := .int .i64 0) rfl rfl (fun W hW => exec_move rfl rfl) ?_
        simp only [Act.put, sA, sZ, sS]
        refine onlyCall 5 96 rfl rfl (by kernel_rfl) rfl (exec_call [.int .i64 0] rfl rfl Tryz.func12 (by kernel_rfl) (by kernel_rfl)) ?_
        refine (num_err _ _).mono ?_
        rintro e w' ⟨rfl, rfl⟩
        refine ⟨_, rfl, .inr hS, ?_⟩
        simp only [Act.put, sA, sZ, sS]
        refine tk 6 97 (v := .bool true) rfl rfl (fun W hW => exec_bini rfl rfl rfl (he0 W)) ?_
        simp only [Act.put, sA, sZ, sS]
        refine tk 7 98 (v := .bool true) rfl rfl (fun W hW => rfl) ?_
        simp only [Act.put, sA, sZ, sS]
        refine tk 8 99 (v := .bool true) rfl rfl (fun W hW => exec_move rfl rfl) ?_
        simp only [Act.put, sA, sZ, sS]
        refine tk 9 100 (v := .slice p1 bs1.length c1) rfl rfl (fun W hW => exec_move rfl rfl) ?_
        simp only [Act.put, sA, sZ, sS]
        refine tk 10 101 (v := .slice p2 bs2.length c2) rfl rfl (fun W hW => exec_move rfl rfl) ?_
        simp only [Act.put, sA, sZ, sS]
        refine tk 12 103 (v := .agg x) rfl rfl (fun W hW => exec_load rfl rfl ((HBX1.out.below hW).get hxs)) ?_
        simp only [Act.put, sA, sZ, sS]
        refine tk 13 104 (v := .agg y) rfl rfl (fun W hW => exec_load rfl rfl ((HBX2.out.below hW).get hys)) ?_
        simp only [Act.put, sA, sZ, sS]
        refine onlyCall 11 102 rfl rfl (by kernel_rfl) rfl (exec_call [.slice p1 bs1.length c1, .slice p2 bs2.length c2] rfl rfl Tryz.func14 (by kernel_rfl) (by kernel_rfl)) ?_
        refine (bytes_any (HD1.out.below hS) (HD2.out.below hS)).mono ?_
        rintro e w' ⟨rfl, rfl⟩
        rw [e1]
        refine ⟨_, rfl, .inr hS, ?_⟩
        simp only [Act.put, sA, sZ, sS]
        refine onlyCall 14 105 rfl rfl (by kernel_rfl) rfl (exec_call [.agg x, .agg y] rfl rfl Tryz.func33 (by kernel_rfl) (by kernel_rfl)) ?_
        refine (HA2.out _ (below_trans HCUR.out hS)).mono ?_
        rintro e Wk ⟨rfl, hbk⟩
        have hSk : Below W9n.heap.size W9n Wk := below_trans hS hbk
        refine ⟨_, rfl, .inr hSk, ?_⟩
        simp only [Act.put, sA, sZ, sS]
        refine tk 15 106 (v := .bool false) rfl rfl (fun W hW => exec_binbb rfl rfl rfl (hnn al W)) ?_
        simp only [Act.put, sA, sZ, sS]
        refine tk 16 107 (v := .bool false) rfl rfl (fun W hW => exec_move rfl rfl) ?_
        simp only [Act.put, sA, sZ, sS]
        refine tk 17 108 (v := .slice p1 bs1.length c1) rfl rfl (fun W hW => exec_move rfl rfl) ?_
        simp only [Act.put, sA, sZ, sS]
        refine tk 18 109 (v := .slice p2 bs2.length c2) rfl rfl (fun W hW => exec_move rfl rfl) ?_
        simp only [Act.put, sA, sZ, sS]
        refine onlyCall 19 110 rfl rfl (by kernel_rfl) rfl (exec_call [.slice p1 bs1.length c1, .slice p2 bs2.length c2] rfl rfl Tryz.func34 (by kernel_rfl) (by kernel_rfl)) ?_
        refine (begins_any (HD1.out.below hSk) (HD2.out.below hSk)).mono ?_
        rintro e Wl ⟨rfl, hbWl⟩
        rw [e2]
        have hSWl : Below W9n.heap.size W9n Wl := below_trans hSk hbWl
        refine ⟨_, rfl, .inr hSWl, ?_⟩
        simp only [Act.put, sA, sZ, sS]
        refine tk 20 111 (v := .bool false) rfl rfl (fun W hW => rfl) ?_
        simp only [Act.put, sA, sZ, sS]
        refine tk 21 112 (v := .bool false) rfl rfl (fun W hW => exec_move rfl rfl) ?_
        simp only [Act.put, sA, sZ, sS]
        refine tk 22 113 (v := .slice p2 bs2.length c2) rfl rfl (fun W hW => exec_move rfl rfl) ?_
        simp only [Act.put, sA, sZ, sS]
        refine tk 23 114 (v := .slice p1 bs1.length c1) rfl rfl (fun W hW => exec_move rfl rfl) ?_
        simp only [Act.put, sA, sZ, sS]
        refine onlyCall 24 115 rfl rfl (by kernel_rfl) rfl (exec_call [.slice p2 bs2.length c2, .slice p1 bs1.length c1] rfl rfl Tryz.func34 (by kernel_rfl) (by kernel_rfl)) ?_
        refine (begins_any (HD2.out.below hSWl) (HD1.out.below hSWl)).mono ?_
        rintro e Wm ⟨rfl, hbWm⟩
        rw [e3]
        have hSWm : Below W9n.heap.size W9n Wm := below_trans hSWl hbWm
        refine ⟨_, rfl, .inr hSWm, ?_⟩
        simp only [Act.put, sA, sZ, sS]
        refine tk 25 116 (v := .bool false) rfl rfl (fun W hW => rfl) ?_
        simp only [Act.put, sA, sZ, sS]
        refine tk 26 117 (v := .bool false) rfl rfl (fun W hW => rfl) ?_
        simp only [Act.put, sA, sZ, sS]
        refine done (by kernel_rfl) ?_ _
        replace HCUR := Lib.hid (below_trans HCUR.out hSWm)
        replace HRB := Lib.hid (HRB.out.below hSWm)
        clear hS hSk hbk hSWl hSWm hbWl hbWm HD1 HD2 HBX1 HBX2
        clear e1 e2 e3
        go_wp2_with (first
            | (go_at_call 12; refine (num_err _ _).mono ?_; rintro e w' ⟨rfl, rfl⟩)
            | (go_at_call 16
               (
                refine (HR2.out _ HCUR.out _ _ HRB.out).mono ?_
                rintro e W11 ⟨cs2, rfl, hcs2, hb11⟩
                replace hcs2 : GrOwn W11 _ graphZ cs2 := hcs2
                have HS2 := Lib.hid (st_graph.fresh (P := Tryz.prog) (W := W11) (el_graph.size hcs2) (el_graph.ones hcs2))
                have hcz2 := el_graph.size hcs2
                replace HCUR := Lib.hid (below_trans HCUR.out hb11)
                try replace HRB := Lib.hid (HRB.out.below hb11)
                have HX2 := Lib.hid (hcs2.rd (by simp [graphZ, totG]))
                clear HR2 hcs2 hb11))
            | ((with_reducible apply op_store); exact HS2.out _ rfl; exact rfl; exact rfl
               (
                have hbn := below_new (w := W11) (.cells cs2 25)
                have HBX3 := Lib.hid (show Lies W11.heap.size 25 cs2 (W11.alloc (.cells cs2 25)) from heap_alloc_new W11 _)
                replace HCUR := Lib.hid (below_trans HCUR.out hbn)
                try replace HD1 := Lib.hid (HD1.out.below hbn)
                try replace HD2 := Lib.hid (HD2.out.below hbn)
                try replace HX1 := Lib.hid (HX1.out.below hbn)
                try replace HBX1 := Lib.hid (HBX1.out.below hbn)
                try replace HBX2 := Lib.hid (HBX2.out.below hbn)
                try replace HRB := Lib.hid (HRB.out.below hbn)
                replace HX2 := Lib.hid (HX2.out.below hbn)
                clear hbn HS2
                generalize W11.alloc (.cells cs2 25) = W11n at *
                generalize W11.heap.size = B11 at *))
            | ((with_reducible apply op_load); exact HBX3.out.get hcz2; exact rfl)
            | (go_at_call 11
               (
                refine (HC4.out _ HCUR.out _ HX2.out).mono ?_
                rintro e W12 ho
                obtain ⟨p12, c12, rfl, hd12, hb12⟩ := ho.rd
                replace HCUR := Lib.hid (below_trans HCUR.out hb12)
                try replace HRB := Lib.hid (HRB.out.below hb12)
                have HD12 := Lib.hid hd12
                clear HC4 ho hd12 hb12))
            | (go_at_call 14
               (
                refine (bytes_any HD12.out HRB.out).mono ?_
                rintro e w' ⟨rfl, rfl⟩
                have heq2 : decide (bs0 = bs0) = true := decide_eq_true rfl))
            | (go_at_call 10
               (
                refine (worksG_any (HE.out.b HCUR.out)).mono ?_
                rintro e W13 ⟨rfl, hb13⟩
                replace HCUR := Lib.hid (below_trans HCUR.out hb13)
                clear hb13)))
        go_ret
        exact ⟨rfl, HCUR.out⟩
  | some x0 =>
    rw [hb0] at HR2
    obtain ⟨ht0, hr0, ho0, hbb⟩ := readG_tot hb0
    have ho1 : outG x0 = bs0 := by unfold outG; rw [if_pos ho0]; exact hbb.symm
    have HC4 := Lib.hid (fun W (g : Below w.heap.size w W) (z : Array Value) (hz : GrRd W x0 z) => codecGraph_any (hE.b g) hz hr0 (by omega))
    rw [ho1, ho0] at HC4
    clear hb0 hbb ho1 ho0 hr0 hE
    cases ok1 : okG v
    · rw [ok1] at HC1
      clear HR1 HR3 HR4 HA1 hrd1 hsh hlo hboth hpos ok1
      cases ok2 : okG u
      all_goals
        rw [ok2] at HC2
        clear ok2
      all_goals
        go_enter Tryz.func7, Tryz.ntmps7
        go_wp2_with (first
            | ((with_reducible apply op_load); exact HBX1.out.get hxs; exact rfl)
            | (go_at_call 9
               (
                refine (HZ1.out _ HCUR.out).mono ?_
                rintro e W1 ⟨s, rfl, hs, hb1⟩
                replace HCUR := Lib.hid (below_trans HCUR.out hb1)
                try replace HBX1 := Lib.hid (HBX1.out.below hb1)
                try replace HBX2 := Lib.hid (HBX2.out.below hb1)
                try replace HRB := Lib.hid (HRB.out.below hb1)
                clear HZ1 hs hb1
                cases s))
            | ((with_reducible apply op_loadH); exact HBX2.out.get hys; exact rfl; exact rfl)
            | (go_at_call 9
               (
                refine (HZ2.out _ HCUR.out).mono ?_
                rintro e W2 ⟨s2, rfl, hs2, hb2⟩
                replace HCUR := Lib.hid (below_trans HCUR.out hb2)
                try replace HBX1 := Lib.hid (HBX1.out.below hb2)
                try replace HBX2 := Lib.hid (HBX2.out.below hb2)
                try replace HRB := Lib.hid (HRB.out.below hb2)
                clear HZ2 hs2 hb2
                cases s2))
            | (go_at_call 10
               (
                refine (worksG_any (HE.out.b HCUR.out)).mono ?_
                rintro e W13 ⟨rfl, hb13⟩
                replace HCUR := Lib.hid (below_trans HCUR.out hb13)
                clear hb13))
            | (go_at_call 11
               (
                refine (HC1.out _ HCUR.out).mono ?_
                rintro e W3 ho
                obtain ⟨p1, c1, rfl, hd1, hb3⟩ := ho.rd
                replace HCUR := Lib.hid (below_trans HCUR.out hb3)
                try replace HBX1 := Lib.hid (HBX1.out.below hb3)
                try replace HBX2 := Lib.hid (HBX2.out.below hb3)
                try replace HRB := Lib.hid (HRB.out.below hb3)
                have HD1 := Lib.hid hd1
                clear HC1 ho hd1 hb3))
            | ((with_reducible apply op_load); exact HBX2.out.get hys; exact rfl)
            | (go_at_call 11
               (
                refine (HC2.out _ HCUR.out).mono ?_
                rintro e W4 ho
                obtain ⟨p2, c2, rfl, hd2, hb4⟩ := ho.rd
                replace HCUR := Lib.hid (below_trans HCUR.out hb4)
                try replace HD1 := Lib.hid (HD1.out.below hb4)
                try replace HBX1 := Lib.hid (HBX1.out.below hb4)
                try replace HBX2 := Lib.hid (HBX2.out.below hb4)
                try replace HRB := Lib.hid (HRB.out.below hb4)
                have HD2 := Lib.hid hd2
                clear HC2 ho hd2 hb4))
            | (go_at_call 12; refine (num_err _ _).mono ?_; rintro e w' ⟨rfl, rfl⟩)
            | (go_at_call 16
               (
                refine (HR1.out _ HCUR.out _ _ HD1.out).mono ?_
                rintro e W5 ⟨cs, rfl, hcs, hb5⟩
                replace hcs : GrOwn W5 _ v cs := hcs
                have HS := Lib.hid (st_graph.fresh (P := Tryz.prog) (W := W5) (el_graph.size hcs) (el_graph.ones hcs))
                have hcz := el_graph.size hcs
                replace HCUR := Lib.hid (below_trans HCUR.out hb5)
                try replace HD1 := Lib.hid (HD1.out.below hb5)
                try replace HD2 := Lib.hid (HD2.out.below hb5)
                try replace HBX1 := Lib.hid (HBX1.out.below hb5)
                try replace HBX2 := Lib.hid (HBX2.out.below hb5)
                try replace HRB := Lib.hid (HRB.out.below hb5)
                have HX1 := Lib.hid (hcs.rd (by omega))
                clear HR1 hcs hb5))
            | ((with_reducible apply op_store); exact HS.out _ rfl; exact rfl; exact rfl
               (
                have hbn := below_new (w := W5) (.cells cs 25)
                have HBX3 := Lib.hid (show Lies W5.heap.size 25 cs (W5.alloc (.cells cs 25)) from heap_alloc_new W5 _)
                replace HCUR := Lib.hid (below_trans HCUR.out hbn)
                try replace HD1 := Lib.hid (HD1.out.below hbn)
                try replace HD2 := Lib.hid (HD2.out.below hbn)
                try replace HX1 := Lib.hid (HX1.out.below hbn)
                try replace HBX1 := Lib.hid (HBX1.out.below hbn)
                try replace HBX2 := Lib.hid (HBX2.out.below hbn)
                try replace HRB := Lib.hid (HRB.out.below hbn)
                clear hbn HS
                generalize W5.alloc (.cells cs 25) = W5n at *
                generalize W5.heap.size = B5 at *))
            | ((with_reducible apply op_loadH); exact HBX3.out.get hcz; exact rfl; exact rfl)
            | ((with_reducible apply op_loadH); exact HBX1.out.get hxs; exact rfl; exact rfl)
            | (go_at_call 33
               (
                refine (HA1.out _ HCUR.out _ HX1.out).mono ?_
                rintro e W7 ⟨rfl, hb7⟩
                replace HCUR := Lib.hid (below_trans HCUR.out hb7)
                try replace HD1 := Lib.hid (HD1.out.below hb7)
                try replace HD2 := Lib.hid (HD2.out.below hb7)
                try replace HBX1 := Lib.hid (HBX1.out.below hb7)
                try replace HBX2 := Lib.hid (HBX2.out.below hb7)
                try replace HRB := Lib.hid (HRB.out.below hb7)
                have hpi : (0 : Int) < (bs1.length : Int) := by omega
                obtain ⟨a3, hs3, hrd3⟩ := slice_less HD1.out hpos
                have HSL := Lib.hid hs3
                have HDS := Lib.hid hrd3
                clear HA1 hb7 HX1 HBX3 hs3 hrd3))
            | ((with_reducible apply op_slice); exact HSL.out _; exact rfl; exact rfl; exact rfl; exact rfl; clear HSL)
            | (go_at_call 16
               (
                refine (HR3.out _ HCUR.out _ HDS.out).mono ?_
                rintro e W8 ⟨cs3, rfl, hcs3, hb8⟩
                have HS3 := Lib.hid (st_graph.fresh (P := Tryz.prog) (W := W8) (el_graph.size hcs3) (el_graph.ones hcs3))
                replace HCUR := Lib.hid (below_trans HCUR.out hb8)
                try replace HD1 := Lib.hid (HD1.out.below hb8)
                try replace HD2 := Lib.hid (HD2.out.below hb8)
                try replace HBX1 := Lib.hid (HBX1.out.below hb8)
                try replace HBX2 := Lib.hid (HBX2.out.below hb8)
                try replace HRB := Lib.hid (HRB.out.below hb8)
                clear HR3 hcs3 hb8 HDS))
            | ((with_reducible apply op_store); exact HS3.out _ rfl; exact rfl; exact rfl
               (
                have hbn := below_new (w := W8) (.cells cs3 25)
                have HBX4 := Lib.hid (show Lies W8.heap.size 25 cs3 (W8.alloc (.cells cs3 25)) from heap_alloc_new W8 _)
                replace HCUR := Lib.hid (below_trans HCUR.out hbn)
                try replace HD1 := Lib.hid (HD1.out.below hbn)
                try replace HD2 := Lib.hid (HD2.out.below hbn)
                try replace HX1 := Lib.hid (HX1.out.below hbn)
                try replace HBX1 := Lib.hid (HBX1.out.below hbn)
                try replace HBX2 := Lib.hid (HBX2.out.below hbn)
                try replace HRB := Lib.hid (HRB.out.below hbn)
                obtain ⟨v2, W2a, v3, W3a, q1, q2, q3, q4⟩ := append_zero HD1.out (by omega)
                have HQ1 := Lib.hid q1
                have HQ2 := Lib.hid q2
                have HQ3 := Lib.hid (And.intro q3 q4)
                clear q1 q2 q3 q4 HBX4
                clear hbn HS3
                generalize W8.alloc (.cells cs3 25) = W8n at *
                generalize W8.heap.size = B8 at *))
            | ((with_reducible apply op_append); exact HQ1.out; exact rfl; exact rfl; clear HQ1)
            | ((with_reducible apply op_append); exact HQ2.out; exact rfl; exact rfl; clear HQ2)
            | (go_at_call 16
               (
                refine (HR4.out _ (below_trans HCUR.out HQ3.out.2) _ HQ3.out.1).mono ?_
                rintro e W9 ⟨cs4, rfl, hcs4, hb9⟩
                have HS4 := Lib.hid (st_graph.fresh (P := Tryz.prog) (W := W9) (el_graph.size hcs4) (el_graph.ones hcs4))
                have hb9' := below_trans HQ3.out.2 hb9
                replace HCUR := Lib.hid (below_trans HCUR.out hb9')
                try replace HD1 := Lib.hid (HD1.out.below hb9')
                try replace HD2 := Lib.hid (HD2.out.below hb9')
                try replace HBX1 := Lib.hid (HBX1.out.below hb9')
                try replace HBX2 := Lib.hid (HBX2.out.below hb9')
                try replace HRB := Lib.hid (HRB.out.below hb9')
                clear HR4 hcs4 hb9 hb9' HQ3))
            | ((with_reducible apply op_store); exact HS4.out _ rfl; exact rfl; exact rfl
               (
                have hbn := below_new (w := W9) (.cells cs4 25)
                have HBX4 := Lib.hid (show Lies W9.heap.size 25 cs4 (W9.alloc (.cells cs4 25)) from heap_alloc_new W9 _)
                replace HCUR := Lib.hid (below_trans HCUR.out hbn)
                try replace HD1 := Lib.hid (HD1.out.below hbn)
                try replace HD2 := Lib.hid (HD2.out.below hbn)
                try replace HX1 := Lib.hid (HX1.out.below hbn)
                try replace HBX1 := Lib.hid (HBX1.out.below hbn)
                try replace HBX2 := Lib.hid (HBX2.out.below hbn)
                try replace HRB := Lib.hid (HRB.out.below hbn)
                clear hbn HS4 HBX4
                generalize W9.alloc (.cells cs4 25) = W9n at *
                generalize W9.heap.size = B9 at *)))
        · go_ret
          exact ⟨rfl, HCUR.out⟩
        · go_ret
          exact ⟨rfl, HCUR.out⟩
        refine plain_region_draws (fun W => Below W4.heap.size W4 W) (by kernel_rfl) (show Below W4.heap.size W4 W4.drew from (Below.refl _ _).drew) (fun hS => ?_)
        refine tk 0 91 (v := .int .i64 2) rfl rfl (fun W hW => exec_move rfl rfl) ?_
        simp only [Act.put, sA, sZ, sS]
        refine onlyCall 1 92 rfl rfl (by kernel_rfl) rfl (exec_call [.int .i64 2] rfl rfl Tryz.func12 (by kernel_rfl) (by kernel_rfl)) ?_
        refine (num_err _ _).mono ?_
        rintro e w' ⟨rfl, rfl⟩
        refine ⟨_, rfl, .inr hS, ?_⟩
        simp only [Act.put, sA, sZ, sS]
        refine tk 2 93 (v := .bool false) rfl rfl (fun W hW => exec_bini rfl rfl rfl (he2 W)) ?_
        simp only [Act.put, sA, sZ, sS]
        refine tk 3 94 (v := .bool false) rfl rfl (fun W hW => exec_move rfl rfl) ?_
        simp only [Act.put, sA, sZ, sS]
        refine takeNot 4 95 rfl rfl (by kernel_rfl) (by kernel_rfl) (by kernel_rfl) rfl (by assumption) ?_
        simp only [Act.put, sA, sZ, sS]
        refine onlyNot 5 96 rfl rfl (by kernel_rfl) rfl ?_ (.inr (by assumption))
        simp only [Act.put, sA, sZ, sS]
        refine takeNot 6 97 rfl rfl (by kernel_rfl) (by kernel_rfl) (by kernel_rfl) rfl (by assumption) ?_
        simp only [Act.put, sA, sZ, sS]
        refine tk 7 98 (v := .bool false) rfl rfl (fun W hW => rfl) ?_
        simp only [Act.put, sA, sZ, sS]
        refine tk 8 99 (v := .bool false) rfl rfl (fun W hW => exec_move rfl rfl) ?_
        simp only [Act.put, sA, sZ, sS]
        refine takeNot 9 100 rfl rfl (by kernel_rfl) (by kernel_rfl) (by kernel_rfl) rfl (by assumption) ?_
        simp only [Act.put, sA, sZ, sS]
        refine takeNot 10 101 rfl rfl (by kernel_rfl) (by kernel_rfl) (by kernel_rfl) rfl (by assumption) ?_
        simp only [Act.put, sA, sZ, sS]
        refine takeNot 12 103 rfl rfl (by kernel_rfl) (by kernel_rfl) (by kernel_rfl) rfl (by assumption) ?_
        simp only [Act.put, sA, sZ, sS]
        refine takeNot 13 104 rfl rfl (by kernel_rfl) (by kernel_rfl) (by kernel_rfl) rfl (by assumption) ?_
        simp only [Act.put, sA, sZ, sS]
        refine onlyNot 11 102 rfl rfl (by kernel_rfl) rfl ?_ (.inr (by assumption))
        simp only [Act.put, sA, sZ, sS]
        refine onlyNot 14 105 rfl rfl (by kernel_rfl) rfl ?_ (.inr (by assumption))
        simp only [Act.put, sA, sZ, sS]
        refine takeNot 15 106 rfl rfl (by kernel_rfl) (by kernel_rfl) (by kernel_rfl) rfl (by assumption) ?_
        simp only [Act.put, sA, sZ, sS]
        refine takeNot 16 107 rfl rfl (by kernel_rfl) (by kernel_rfl) (by kernel_rfl) rfl (by assumption) ?_
        simp only [Act.put, sA, sZ, sS]
        refine takeNot 17 108 rfl rfl (by kernel_rfl) (by kernel_rfl) (by kernel_rfl) rfl (by assumption) ?_
        simp only [Act.put, sA, sZ, sS]
        refine takeNot 18 109 rfl rfl (by kernel_rfl) (by kernel_rfl) (by kernel_rfl) rfl (by assumption) ?_
        simp only [Act.put, sA, sZ, sS]
        refine onlyNot 19 110 rfl rfl (by kernel_rfl) rfl ?_ (.inr (by assumption))
        simp only [Act.put, sA, sZ, sS]
        refine takeNot 20 111 rfl rfl (by kernel_rfl) (by kernel_rfl) (by kernel_rfl) rfl (by assumption) ?_
        simp only [Act.put, sA, sZ, sS]
        refine takeNot 21 112 rfl rfl (by kernel_rfl) (by kernel_rfl) (by kernel_rfl) rfl (by assumption) ?_
        simp only [Act.put, sA, sZ, sS]
        refine takeNot 22 113 rfl rfl (by kernel_rfl) (by kernel_rfl) (by kernel_rfl) rfl (by assumption) ?_
        simp only [Act.put, sA, sZ, sS]
        refine takeNot 23 114 rfl rfl (by kernel_rfl) (by kernel_rfl) (by kernel_rfl) rfl (by assumption) ?_
        simp only [Act.put, sA, sZ, sS]
        refine onlyNot 24 115 rfl rfl (by kernel_rfl) rfl ?_ (.inr (by assumption))
        simp only [Act.put, sA, sZ, sS]
        refine takeNot 25 116 rfl rfl (by kernel_rfl) (by kernel_rfl) (by kernel_rfl) rfl (by assumption) ?_
        simp only [Act.put, sA, sZ, sS]
        refine tk 26 117 (v := .bool false) rfl rfl (fun W hW => rfl) ?_
        simp only [Act.put, sA, sZ, sS]
        refine done (by kernel_rfl) ?_ _
        replace HCUR := Lib.hid (below_trans HCUR.out hS)
        replace HRB := Lib.hid (HRB.out.below hS)
        clear hS HD1 HD2 HBX1 HBX2
        go_wp2_with (first
            | (go_at_call 12; refine (num_err _ _).mono ?_; rintro e w' ⟨rfl, rfl⟩)
            | (go_at_call 16
               (
                refine (HR2.out _ HCUR.out _ _ HRB.out).mono ?_
                rintro e W11 ⟨cs2, rfl, hcs2, hb11⟩
                replace hcs2 : GrOwn W11 _ x0 cs2 := hcs2
                have HS2 := Lib.hid (st_graph.fresh (P := Tryz.prog) (W := W11) (el_graph.size hcs2) (el_graph.ones hcs2))
                have hcz2 := el_graph.size hcs2
                replace HCUR := Lib.hid (below_trans HCUR.out hb11)
                try replace HRB := Lib.hid (HRB.out.below hb11)
                have HX2 := Lib.hid (hcs2.rd (by omega))
                clear HR2 hcs2 hb11))
            | ((with_reducible apply op_store); exact HS2.out _ rfl; exact rfl; exact rfl
               (
                have hbn := below_new (w := W11) (.cells cs2 25)
                have HBX3 := Lib.hid (show Lies W11.heap.size 25 cs2 (W11.alloc (.cells cs2 25)) from heap_alloc_new W11 _)
                replace HCUR := Lib.hid (below_trans HCUR.out hbn)
                try replace HD1 := Lib.hid (HD1.out.below hbn)
                try replace HD2 := Lib.hid (HD2.out.below hbn)
                try replace HX1 := Lib.hid (HX1.out.below hbn)
                try replace HBX1 := Lib.hid (HBX1.out.below hbn)
                try replace HBX2 := Lib.hid (HBX2.out.below hbn)
                try replace HRB := Lib.hid (HRB.out.below hbn)
                replace HX2 := Lib.hid (HX2.out.below hbn)
                clear hbn HS2
                generalize W11.alloc (.cells cs2 25) = W11n at *
                generalize W11.heap.size = B11 at *))
            | ((with_reducible apply op_load); exact HBX3.out.get hcz2; exact rfl)
            | (go_at_call 11
               (
                refine (HC4.out _ HCUR.out _ HX2.out).mono ?_
                rintro e W12 ho
                obtain ⟨p12, c12, rfl, hd12, hb12⟩ := ho.rd
                replace HCUR := Lib.hid (below_trans HCUR.out hb12)
                try replace HRB := Lib.hid (HRB.out.below hb12)
                have HD12 := Lib.hid hd12
                clear HC4 ho hd12 hb12))
            | (go_at_call 14
               (
                refine (bytes_any HD12.out HRB.out).mono ?_
                rintro e w' ⟨rfl, rfl⟩
                have heq2 : decide (bs0 = bs0) = true := decide_eq_true rfl))
            | (go_at_call 10
               (
                refine (worksG_any (HE.out.b HCUR.out)).mono ?_
                rintro e W13 ⟨rfl, hb13⟩
                replace HCUR := Lib.hid (below_trans HCUR.out hb13)
                clear hb13)))
        go_ret
        exact ⟨rfl, HCUR.out⟩
    · have hpos := hpos ok1
      rw [hrd1 ok1] at HR1
      rw [hsh ok1] at HR3
      rw [hlo ok1] at HR4
      rw [ok1] at HC1
      have hsame := hsame ok1
      rw [hsame] at HA1
      cases ok2 : okG u
      · rw [ok2] at HC2
        clear hrd1 hsh hlo hboth hsame ok1 ok2
        go_enter Tryz.func7, Tryz.ntmps7
        go_wp2_with (first
            | ((with_reducible apply op_load); exact HBX1.out.get hxs; exact rfl)
            | (go_at_call 9
               (
                refine (HZ1.out _ HCUR.out).mono ?_
                rintro e W1 ⟨s, rfl, hs, hb1⟩
                replace HCUR := Lib.hid (below_trans HCUR.out hb1)
                try replace HBX1 := Lib.hid (HBX1.out.below hb1)
                try replace HBX2 := Lib.hid (HBX2.out.below hb1)
                try replace HRB := Lib.hid (HRB.out.below hb1)
                clear HZ1 hs hb1
                cases s))
            | ((with_reducible apply op_loadH); exact HBX2.out.get hys; exact rfl; exact rfl)
            | (go_at_call 9
               (
                refine (HZ2.out _ HCUR.out).mono ?_
                rintro e W2 ⟨s2, rfl, hs2, hb2⟩
                replace HCUR := Lib.hid (below_trans HCUR.out hb2)
                try replace HBX1 := Lib.hid (HBX1.out.below hb2)
                try replace HBX2 := Lib.hid (HBX2.out.below hb2)
                try replace HRB := Lib.hid (HRB.out.below hb2)
                clear HZ2 hs2 hb2
                cases s2))
            | (go_at_call 10
               (
                refine (worksG_any (HE.out.b HCUR.out)).mono ?_
                rintro e W13 ⟨rfl, hb13⟩
                replace HCUR := Lib.hid (below_trans HCUR.out hb13)
                clear hb13))
            | (go_at_call 11
               (
                refine (HC1.out _ HCUR.out).mono ?_
                rintro e W3 ho
                obtain ⟨p1, c1, rfl, hd1, hb3⟩ := ho.rd
                replace HCUR := Lib.hid (below_trans HCUR.out hb3)
                try replace HBX1 := Lib.hid (HBX1.out.below hb3)
                try replace HBX2 := Lib.hid (HBX2.out.below hb3)
                try replace HRB := Lib.hid (HRB.out.below hb3)
                have HD1 := Lib.hid hd1
                clear HC1 ho hd1 hb3))
            | ((with_reducible apply op_load); exact HBX2.out.get hys; exact rfl)
            | (go_at_call 11
               (
                refine (HC2.out _ HCUR.out).mono ?_
                rintro e W4 ho
                obtain ⟨p2, c2, rfl, hd2, hb4⟩ := ho.rd
                replace HCUR := Lib.hid (below_trans HCUR.out hb4)
                try replace HD1 := Lib.hid (HD1.out.below hb4)
                try replace HBX1 := Lib.hid (HBX1.out.below hb4)
                try replace HBX2 := Lib.hid (HBX2.out.below hb4)
                try replace HRB := Lib.hid (HRB.out.below hb4)
                have HD2 := Lib.hid hd2
                clear HC2 ho hd2 hb4))
            | (go_at_call 12; refine (num_err _ _).mono ?_; rintro e w' ⟨rfl, rfl⟩)
            | (go_at_call 16
               (
                refine (HR1.out _ HCUR.out _ _ HD1.out).mono ?_
                rintro e W5 ⟨cs, rfl, hcs, hb5⟩
                replace hcs : GrOwn W5 _ v cs := hcs
                have HS := Lib.hid (st_graph.fresh (P := Tryz.prog) (W := W5) (el_graph.size hcs) (el_graph.ones hcs))
                have hcz := el_graph.size hcs
                replace HCUR := Lib.hid (below_trans HCUR.out hb5)
                try replace HD1 := Lib.hid (HD1.out.below hb5)
                try replace HD2 := Lib.hid (HD2.out.below hb5)
                try replace HBX1 := Lib.hid (HBX1.out.below hb5)
                try replace HBX2 := Lib.hid (HBX2.out.below hb5)
                try replace HRB := Lib.hid (HRB.out.below hb5)
                have HX1 := Lib.hid (hcs.rd (by omega))
                clear HR1 hcs hb5))
            | ((with_reducible apply op_store); exact HS.out _ rfl; exact rfl; exact rfl
               (
                have hbn := below_new (w := W5) (.cells cs 25)
                have HBX3 := Lib.hid (show Lies W5.heap.size 25 cs (W5.alloc (.cells cs 25)) from heap_alloc_new W5 _)
                replace HCUR := Lib.hid (below_trans HCUR.out hbn)
                try replace HD1 := Lib.hid (HD1.out.below hbn)
                try replace HD2 := Lib.hid (HD2.out.below hbn)
                try replace HX1 := Lib.hid (HX1.out.below hbn)
                try replace HBX1 := Lib.hid (HBX1.out.below hbn)
                try replace HBX2 := Lib.hid (HBX2.out.below hbn)
                try replace HRB := Lib.hid (HRB.out.below hbn)
                clear hbn HS
                generalize W5.alloc (.cells cs 25) = W5n at *
                generalize W5.heap.size = B5 at *))
            | ((with_reducible apply op_loadH); exact HBX3.out.get hcz; exact rfl; exact rfl)
            | ((with_reducible apply op_loadH); exact HBX1.out.get hxs; exact rfl; exact rfl)
            | (go_at_call 33
               (
                refine (HA1.out _ HCUR.out _ HX1.out).mono ?_
                rintro e W7 ⟨rfl, hb7⟩
                replace HCUR := Lib.hid (below_trans HCUR.out hb7)
                try replace HD1 := Lib.hid (HD1.out.below hb7)
                try replace HD2 := Lib.hid (HD2.out.below hb7)
                try replace HBX1 := Lib.hid (HBX1.out.below hb7)
                try replace HBX2 := Lib.hid (HBX2.out.below hb7)
                try replace HRB := Lib.hid (HRB.out.below hb7)
                have hpi : (0 : Int) < (bs1.length : Int) := by omega
                obtain ⟨a3, hs3, hrd3⟩ := slice_less HD1.out hpos
                have HSL := Lib.hid hs3
                have HDS := Lib.hid hrd3
                clear HA1 hb7 HX1 HBX3 hs3 hrd3))
            | ((with_reducible apply op_slice); exact HSL.out _; exact rfl; exact rfl; exact rfl; exact rfl; clear HSL)
            | (go_at_call 16
               (
                refine (HR3.out _ HCUR.out _ HDS.out).mono ?_
                rintro e W8 ⟨cs3, rfl, hcs3, hb8⟩
                have HS3 := Lib.hid (st_graph.fresh (P := Tryz.prog) (W := W8) (el_graph.size hcs3) (el_graph.ones hcs3))
                replace HCUR := Lib.hid (below_trans HCUR.out hb8)
                try replace HD1 := Lib.hid (HD1.out.below hb8)
                try replace HD2 := Lib.hid (HD2.out.below hb8)
                try replace HBX1 := Lib.hid (HBX1.out.below hb8)
                try replace HBX2 := Lib.hid (HBX2.out.below hb8)
                try replace HRB := Lib.hid (HRB.out.below hb8)
                clear HR3 hcs3 hb8 HDS))
            | ((with_reducible apply op_store); exact HS3.out _ rfl; exact rfl; exact rfl
               (
                have hbn := below_new (w := W8) (.cells cs3 25)
                have HBX4 := Lib.hid (show Lies W8.heap.size 25 cs3 (W8.alloc (.cells cs3 25)) from heap_alloc_new W8 _)
                replace HCUR := Lib.hid (below_trans HCUR.out hbn)
                try replace HD1 := Lib.hid (HD1.out.below hbn)
                try replace HD2 := Lib.hid (HD2.out.below hbn)
                try replace HX1 := Lib.hid (HX1.out.below hbn)
                try replace HBX1 := Lib.hid (HBX1.out.below hbn)
                try replace HBX2 := Lib.hid (HBX2.out.below hbn)
                try replace HRB := Lib.hid (HRB.out.below hbn)
                obtain ⟨v2, W2a, v3, W3a, q1, q2, q3, q4⟩ := append_zero HD1.out (by omega)
                have HQ1 := Lib.hid q1
                have HQ2 := Lib.hid q2
                have HQ3 := Lib.hid (And.intro q3 q4)
                clear q1 q2 q3 q4 HBX4
                clear hbn HS3
                generalize W8.alloc (.cells cs3 25) = W8n at *
                generalize W8.heap.size = B8 at *))
            | ((with_reducible apply op_append); exact HQ1.out; exact rfl; exact rfl; clear HQ1)
            | ((with_reducible apply op_append); exact HQ2.out; exact rfl; exact rfl; clear HQ2)
            | (go_at_call 16
               (
                refine (HR4.out _ (below_trans HCUR.out HQ3.out.2) _ HQ3.out.1).mono ?_
                rintro e W9 ⟨cs4, rfl, hcs4, hb9⟩
                have HS4 := Lib.hid (st_graph.fresh (P := Tryz.prog) (W := W9) (el_graph.size hcs4) (el_graph.ones hcs4))
                have hb9' := below_trans HQ3.out.2 hb9
                replace HCUR := Lib.hid (below_trans HCUR.out hb9')
                try replace HD1 := Lib.hid (HD1.out.below hb9')
                try replace HD2 := Lib.hid (HD2.out.below hb9')
                try replace HBX1 := Lib.hid (HBX1.out.below hb9')
                try replace HBX2 := Lib.hid (HBX2.out.below hb9')
                try replace HRB := Lib.hid (HRB.out.below hb9')
                clear HR4 hcs4 hb9 hb9' HQ3))
            | ((with_reducible apply op_store); exact HS4.out _ rfl; exact rfl; exact rfl
               (
                have hbn := below_new (w := W9) (.cells cs4 25)
                have HBX4 := Lib.hid (show Lies W9.heap.size 25 cs4 (W9.alloc (.cells cs4 25)) from heap_alloc_new W9 _)
                replace HCUR := Lib.hid (below_trans HCUR.out hbn)
                try replace HD1 := Lib.hid (HD1.out.below hbn)
                try replace HD2 := Lib.hid (HD2.out.below hbn)
                try replace HX1 := Lib.hid (HX1.out.below hbn)
                try replace HBX1 := Lib.hid (HBX1.out.below hbn)
                try replace HBX2 := Lib.hid (HBX2.out.below hbn)
                try replace HRB := Lib.hid (HRB.out.below hbn)
                clear hbn HS4 HBX4
                generalize W9.alloc (.cells cs4 25) = W9n at *
                generalize W9.heap.size = B9 at *)))
        · go_ret
          exact ⟨rfl, HCUR.out⟩
        · go_ret
          exact ⟨rfl, HCUR.out⟩
        refine plain_region_draws (fun W => Below W9n.heap.size W9n W) (by kernel_rfl) (show Below W9n.heap.size W9n W9n.drew from (Below.refl _ _).drew) (fun hS => ?_)
        refine tk 0 91 (v := .int .i64 0) rfl rfl (fun W hW => exec_move rfl rfl) ?_
        simp only [Act.put, sA, sZ, sS]
        refine onlyCall 1 92 rfl rfl (by kernel_rfl) rfl (exec_call [.int .i64 0] rfl rfl Tryz.func12 (by kernel_rfl) (by kernel_rfl)) ?_
        refine (num_err _ _).mono ?_
        rintro e w' ⟨rfl, rfl⟩
        refine ⟨_, rfl, .inr hS, ?_⟩
        simp only [Act.put, sA, sZ, sS]
        refine tk 2 93 (v := .bool true) rfl rfl (fun W hW => exec_bini rfl rfl rfl (he0 W)) ?_
        simp only [Act.put, sA, sZ, sS]
        refine tk 3 94 (v := .bool true) rfl rfl (fun W hW => exec_move rfl rfl) ?_
        simp only [Act.put, sA, sZ, sS]
        refine tk 4 95 (v := .int .i64 2) rfl rfl (fun W hW => exec_move rfl rfl) ?_
        simp only [Act.put, sA, sZ, sS]
        refine onlyCall 5 96 rfl rfl (by kernel_rfl) rfl (exec_call [.int .i64 2] rfl rfl Tryz.func12 (by kernel_rfl) (by kernel_rfl)) ?_
        refine (num_err _ _).mono ?_
        rintro e w' ⟨rfl, rfl⟩
        refine ⟨_, rfl, .inr hS, ?_⟩
        simp only [Act.put, sA, sZ, sS]
        refine tk 6 97 (v := .bool false) rfl rfl (fun W hW => exec_bini rfl rfl rfl (he2 W)) ?_
        simp only [Act.put, sA, sZ, sS]
        refine tk 7 98 (v := .bool false) rfl rfl (fun W hW => rfl) ?_
        simp only [Act.put, sA, sZ, sS]
        refine tk 8 99 (v := .bool false) rfl rfl (fun W hW => exec_move rfl rfl) ?_
        simp only [Act.put, sA, sZ, sS]
        refine takeNot 9 100 rfl rfl (by kernel_rfl) (by kernel_rfl) (by kernel_rfl) rfl (by assumption) ?_
        simp only [Act.put, sA, sZ, sS]
        refine takeNot 10 101 rfl rfl (by kernel_rfl) (by kernel_rfl) (by kernel_rfl) rfl (by assumption) ?_
        simp only [Act.put, sA, sZ, sS]
        refine takeNot 12 103 rfl rfl (by kernel_rfl) (by kernel_rfl) (by kernel_rfl) rfl (by assumption) ?_
        simp only [Act.put, sA, sZ, sS]
        refine takeNot 13 104 rfl rfl (by kernel_rfl) (by kernel_rfl) (by kernel_rfl) rfl (by assumption) ?_
        simp only [Act.put, sA, sZ, sS]
        refine onlyNot 11 102 rfl rfl (by kernel_rfl) rfl ?_ (.inr (by assumption))
        simp only [Act.put, sA, sZ, sS]
        refine onlyNot 14 105 rfl rfl (by kernel_rfl) rfl ?_ (.inr (by assumption))
        simp only [Act.put, sA, sZ, sS]
        refine takeNot 15 106 rfl rfl (by kernel_rfl) (by kernel_rfl) (by kernel_rfl) rfl (by assumption) ?_
        simp only [Act.put, sA, sZ, sS]
        refine takeNot 16 107 rfl rfl (by kernel_rfl) (by kernel_rfl) (by kernel_rfl) rfl (by assumption) ?_
        simp only [Act.put, sA, sZ, sS]
        refine takeNot 17 108 rfl rfl (by kernel_rfl) (by kernel_rfl) (by kernel_rfl) rfl (by assumption) ?_
        simp only [Act.put, sA, sZ, sS]
        refine takeNot 18 109 rfl rfl (by kernel_rfl) (by kernel_rfl) (by kernel_rfl) rfl (by assumption) ?_
        simp only [Act.put, sA, sZ, sS]
        refine onlyNot 19 110 rfl rfl (by kernel_rfl) rfl ?_ (.inr (by assumption))
        simp only [Act.put, sA, sZ, sS]
        refine takeNot 20 111 rfl rfl (by kernel_rfl) (by kernel_rfl) (by kernel_rfl) rfl (by assumption) ?_
        simp only [Act.put, sA, sZ, sS]
        refine takeNot 21 112 rfl rfl (by kernel_rfl) (by kernel_rfl) (by kernel_rfl) rfl (by assumption) ?_
        simp only [Act.put, sA, sZ, sS]
        refine takeNot 22 113 rfl rfl (by kernel_rfl) (by kernel_rfl) (by kernel_rfl) rfl (by assumption) ?_
        simp only [Act.put, sA, sZ, sS]
        refine takeNot 23 114 rfl rfl (by kernel_rfl) (by kernel_rfl) (by kernel_rfl) rfl (by assumption) ?_
        simp only [Act.put, sA, sZ, sS]
        refine onlyNot 24 115 rfl rfl (by kernel_rfl) rfl ?_ (.inr (by assumption))
        simp only [Act.put, sA, sZ, sS]
        refine takeNot 25 116 rfl rfl (by kernel_rfl) (by kernel_rfl) (by kernel_rfl) rfl (by assumption) ?_
        simp only [Act.put, sA, sZ, sS]
        refine tk 26 117 (v := .bool false) rfl rfl (fun W hW => rfl) ?_
        simp only [Act.put, sA, sZ, sS]
        refine done (by kernel_rfl) ?_ _
        replace HCUR := Lib.hid (below_trans HCUR.out hS)
        replace HRB := Lib.hid (HRB.out.below hS)
        clear hS HD1 HD2 HBX1 HBX2
        go_wp2_with (first
            | (go_at_call 12; refine (num_err _ _).mono ?_; rintro e w' ⟨rfl, rfl⟩)
            | (go_at_call 16
               (
                refine (HR2.out _ HCUR.out _ _ HRB.out).mono ?_
                rintro e W11 ⟨cs2, rfl, hcs2, hb11⟩
                replace hcs2 : GrOwn W11 _ x0 cs2 := hcs2
                have HS2 := Lib.hid (st_graph.fresh (P := Tryz.prog) (W := W11) (el_graph.size hcs2) (el_graph.ones hcs2))
                have hcz2 := el_graph.size hcs2
                replace HCUR := Lib.hid (below_trans HCUR.out hb11)
                try replace HRB := Lib.hid (HRB.out.below hb11)
                have HX2 := Lib.hid (hcs2.rd (by omega))
                clear HR2 hcs2 hb11))
            | ((with_reducible apply op_store); exact HS2.out _ rfl; exact rfl; exact rfl
               (
                have hbn := below_new (w := W11) (.cells cs2 25)
                have HBX3 := Lib.hid (show Lies W11.heap.size 25 cs2 (W11.alloc (.cells cs2 25)) from heap_alloc_new W11 _)
                replace HCUR := Lib.hid (below_trans HCUR.out hbn)
                try replace HD1 := Lib.hid (HD1.out.below hbn)
                try replace HD2 := Lib.hid (HD2.out.below hbn)
                try replace HX1 := Lib.hid (HX1.out.below hbn)
                try replace HBX1 := Lib.hid (HBX1.out.below hbn)
                try replace HBX2 := Lib.hid (HBX2.out.below hbn)
                try replace HRB := Lib.hid (HRB.out.below hbn)
                replace HX2 := Lib.hid (HX2.out.below hbn)
                clear hbn HS2
                generalize W11.alloc (.cells cs2 25) = W11n at *
                generalize W11.heap.size = B11 at *))
            | ((with_reducible apply op_load); exact HBX3.out.get hcz2; exact rfl)
            | (go_at_call 11
               (
                refine (HC4.out _ HCUR.out _ HX2.out).mono ?_
                rintro e W12 ho
                obtain ⟨p12, c12, rfl, hd12, hb12⟩ := ho.rd
                replace HCUR := Lib.hid (below_trans HCUR.out hb12)
                try replace HRB := Lib.hid (HRB.out.below hb12)
                have HD12 := Lib.hid hd12
                clear HC4 ho hd12 hb12))
            | (go_at_call 14
               (
                refine (bytes_any HD12.out HRB.out).mono ?_
                rintro e w' ⟨rfl, rfl⟩
                have heq2 : decide (bs0 = bs0) = true := decide_eq_true rfl))
            | (go_at_call 10
               (
                refine (worksG_any (HE.out.b HCUR.out)).mono ?_
                rintro e W13 ⟨rfl, hb13⟩
                replace HCUR := Lib.hid (below_trans HCUR.out hb13)
                clear hb13)))
        go_ret
        exact ⟨rfl, HCUR.out⟩
      · obtain ⟨e1, e2, e3⟩ := hboth ok1 ok2
        rw [ok2] at HC2
        clear hrd1 hsh hlo hboth hsame ok1 ok2
        have HEQ := Lib.hid (And.intro e1 (And.intro e2 e3))
        clear e1 e2 e3
        go_enter Tryz.func7, Tryz.ntmps7
        go_wp2_with (first
            | ((with_reducible apply op_load); exact HBX1.out.get hxs; exact rfl)
            | (go_at_call 9
               (
                refine (HZ1.out _ HCUR.out).mono ?_
                rintro e W1 ⟨s, rfl, hs, hb1⟩
                replace HCUR := Lib.hid (below_trans HCUR.out hb1)
                try replace HBX1 := Lib.hid (HBX1.out.below hb1)
                try replace HBX2 := Lib.hid (HBX2.out.below hb1)
                try replace HRB := Lib.hid (HRB.out.below hb1)
                clear HZ1 hs hb1
                cases s))
            | ((with_reducible apply op_loadH); exact HBX2.out.get hys; exact rfl; exact rfl)
            | (go_at_call 9
               (
                refine (HZ2.out _ HCUR.out).mono ?_
                rintro e W2 ⟨s2, rfl, hs2, hb2⟩
                replace HCUR := Lib.hid (below_trans HCUR.out hb2)
                try replace HBX1 := Lib.hid (HBX1.out.below hb2)
                try replace HBX2 := Lib.hid (HBX2.out.below hb2)
                try replace HRB := Lib.hid (HRB.out.below hb2)
                clear HZ2 hs2 hb2
                cases s2))
            | (go_at_call 10
               (
                refine (worksG_any (HE.out.b HCUR.out)).mono ?_
                rintro e W13 ⟨rfl, hb13⟩
                replace HCUR := Lib.hid (below_trans HCUR.out hb13)
                clear hb13))
            | (go_at_call 11
               (
                refine (HC1.out _ HCUR.out).mono ?_
                rintro e W3 ho
                obtain ⟨p1, c1, rfl, hd1, hb3⟩ := ho.rd
                replace HCUR := Lib.hid (below_trans HCUR.out hb3)
                try replace HBX1 := Lib.hid (HBX1.out.below hb3)
                try replace HBX2 := Lib.hid (HBX2.out.below hb3)
                try replace HRB := Lib.hid (HRB.out.below hb3)
                have HD1 := Lib.hid hd1
                clear HC1 ho hd1 hb3))
            | ((with_reducible apply op_load); exact HBX2.out.get hys; exact rfl)
            | (go_at_call 11
               (
                refine (HC2.out _ HCUR.out).mono ?_
                rintro e W4 ho
                obtain ⟨p2, c2, rfl, hd2, hb4⟩ := ho.rd
                replace HCUR := Lib.hid (below_trans HCUR.out hb4)
                try replace HD1 := Lib.hid (HD1.out.below hb4)
                try replace HBX1 := Lib.hid (HBX1.out.below hb4)
                try replace HBX2 := Lib.hid (HBX2.out.below hb4)
                try replace HRB := Lib.hid (HRB.out.below hb4)
                have HD2 := Lib.hid hd2
                clear HC2 ho hd2 hb4))
            | (go_at_call 12; refine (num_err _ _).mono ?_; rintro e w' ⟨rfl, rfl⟩)
            | (go_at_call 16
               (
                refine (HR1.out _ HCUR.out _ _ HD1.out).mono ?_
                rintro e W5 ⟨cs, rfl, hcs, hb5⟩
                replace hcs : GrOwn W5 _ v cs := hcs
                have HS := Lib.hid (st_graph.fresh (P := Tryz.prog) (W := W5) (el_graph.size hcs) (el_graph.ones hcs))
                have hcz := el_graph.size hcs
                replace HCUR := Lib.hid (below_trans HCUR.out hb5)
                try replace HD1 := Lib.hid (HD1.out.below hb5)
                try replace HD2 := Lib.hid (HD2.out.below hb5)
                try replace HBX1 := Lib.hid (HBX1.out.below hb5)
                try replace HBX2 := Lib.hid (HBX2.out.below hb5)
                try replace HRB := Lib.hid (HRB.out.below hb5)
                have HX1 := Lib.hid (hcs.rd (by omega))
                clear HR1 hcs hb5))
            | ((with_reducible apply op_store); exact HS.out _ rfl; exact rfl; exact rfl
               (
                have hbn := below_new (w := W5) (.cells cs 25)
                have HBX3 := Lib.hid (show Lies W5.heap.size 25 cs (W5.alloc (.cells cs 25)) from heap_alloc_new W5 _)
                replace HCUR := Lib.hid (below_trans HCUR.out hbn)
                try replace HD1 := Lib.hid (HD1.out.below hbn)
                try replace HD2 := Lib.hid (HD2.out.below hbn)
                try replace HX1 := Lib.hid (HX1.out.below hbn)
                try replace HBX1 := Lib.hid (HBX1.out.below hbn)
                try replace HBX2 := Lib.hid (HBX2.out.below hbn)
                try replace HRB := Lib.hid (HRB.out.below hbn)
                clear hbn HS
                generalize W5.alloc (.cells cs 25) = W5n at *
                generalize W5.heap.size = B5 at *))
            | ((with_reducible apply op_loadH); exact HBX3.out.get hcz; exact rfl; exact rfl)
            | ((with_reducible apply op_loadH); exact HBX1.out.get hxs; exact rfl; exact rfl)
            | (go_at_call 33
               (
                refine (HA1.out _ HCUR.out _ HX1.out).mono ?_
                rintro e W7 ⟨rfl, hb7⟩
                replace HCUR := Lib.hid (below_trans HCUR.out hb7)
                try replace HD1 := Lib.hid (HD1.out.below hb7)
                try replace HD2 := Lib.hid (HD2.out.below hb7)
                try replace HBX1 := Lib.hid (HBX1.out.below hb7)
                try replace HBX2 := Lib.hid (HBX2.out.below hb7)
                try replace HRB := Lib.hid (HRB.out.below hb7)
                have hpi : (0 : Int) < (bs1.length : Int) := by omega
                obtain ⟨a3, hs3, hrd3⟩ := slice_less HD1.out hpos
                have HSL := Lib.hid hs3
                have HDS := Lib.hid hrd3
                clear HA1 hb7 HX1 HBX3 hs3 hrd3))
            | ((with_reducible apply op_slice); exact HSL.out _; exact rfl; exact rfl; exact rfl; exact rfl; clear HSL)
            | (go_at_call 16
               (
                refine (HR3.out _ HCUR.out _ HDS.out).mono ?_
                rintro e W8 ⟨cs3, rfl, hcs3, hb8⟩
                have HS3 := Lib.hid (st_graph.fresh (P := Tryz.prog) (W := W8) (el_graph.size hcs3) (el_graph.ones hcs3))
                replace HCUR := Lib.hid (below_trans HCUR.out hb8)
                try replace HD1 := Lib.hid (HD1.out.below hb8)
                try replace HD2 := Lib.hid (HD2.out.below hb8)
                try replace HBX1 := Lib.hid (HBX1.out.below hb8)
                try replace HBX2 := Lib.hid (HBX2.out.below hb8)
                try replace HRB := Lib.hid (HRB.out.below hb8)
                clear HR3 hcs3 hb8 HDS))
            | ((with_reducible apply op_store); exact HS3.out _ rfl; exact rfl; exact rfl
               (
                have hbn := below_new (w := W8) (.cells cs3 25)
                have HBX4 := Lib.hid (show Lies W8.heap.size 25 cs3 (W8.alloc (.cells cs3 25)) from heap_alloc_new W8 _)
                replace HCUR := Lib.hid (below_trans HCUR.out hbn)
                try replace HD1 := Lib.hid (HD1.out.below hbn)
                try replace HD2 := Lib.hid (HD2.out.below hbn)
                try replace HX1 := Lib.hid (HX1.out.below hbn)
                try replace HBX1 := Lib.hid (HBX1.out.below hbn)
                try replace HBX2 := Lib.hid (HBX2.out.below hbn)
                try replace HRB := Lib.hid (HRB.out.below hbn)
                obtain ⟨v2, W2a, v3, W3a, q1, q2, q3, q4⟩ := append_zero HD1.out (by omega)
                have HQ1 := Lib.hid q1
                have HQ2 := Lib.hid q2
                have HQ3 := Lib.hid (And.intro q3 q4)
                clear q1 q2 q3 q4 HBX4
                clear hbn HS3
                generalize W8.alloc (.cells cs3 25) = W8n at *
                generalize W8.heap.size = B8 at *))
            | ((with_reducible apply op_append); exact HQ1.out; exact rfl; exact rfl; clear HQ1)
            | ((with_reducible apply op_append); exact HQ2.out; exact rfl; exact rfl; clear HQ2)
            | (go_at_call 16
               (
                refine (HR4.out _ (below_trans HCUR.out HQ3.out.2) _ HQ3.out.1).mono ?_
                rintro e W9 ⟨cs4, rfl, hcs4, hb9⟩
                have HS4 := Lib.hid (st_graph.fresh (P := Tryz.prog) (W := W9) (el_graph.size hcs4) (el_graph.ones hcs4))
                have hb9' := below_trans HQ3.out.2 hb9
                replace HCUR := Lib.hid (below_trans HCUR.out hb9')
                try replace HD1 := Lib.hid (HD1.out.below hb9')
                try replace HD2 := Lib.hid (HD2.out.below hb9')
                try replace HBX1 := Lib.hid (HBX1.out.below hb9')
                try replace HBX2 := Lib.hid (HBX2.out.below hb9')
                try replace HRB := Lib.hid (HRB.out.below hb9')
                clear HR4 hcs4 hb9 hb9' HQ3))
            | ((with_reducible apply op_store); exact HS4.out _ rfl; exact rfl; exact rfl
               (
                have hbn := below_new (w := W9) (.cells cs4 25)
                have HBX4 := Lib.hid (show Lies W9.heap.size 25 cs4 (W9.alloc (.cells cs4 25)) from heap_alloc_new W9 _)
                replace HCUR := Lib.hid (below_trans HCUR.out hbn)
                try replace HD1 := Lib.hid (HD1.out.below hbn)
                try replace HD2 := Lib.hid (HD2.out.below hbn)
                try replace HX1 := Lib.hid (HX1.out.below hbn)
                try replace HBX1 := Lib.hid (HBX1.out.below hbn)
                try replace HBX2 := Lib.hid (HBX2.out.below hbn)
                try replace HRB := Lib.hid (HRB.out.below hbn)
                clear hbn HS4 HBX4
                generalize W9.alloc (.cells cs4 25) = W9n at *
                generalize W9.heap.size = B9 at *)))
        · go_ret
          exact ⟨rfl, HCUR.out⟩
        · go_ret
          exact ⟨rfl, HCUR.out⟩
        obtain ⟨e1, e2, e3⟩ := HEQ.out
        refine plain_region_draws (fun W => Below W9n.heap.size W9n W) (by kernel_rfl) (show Below W9n.heap.size W9n W9n.drew from (Below.refl _ _).drew) (fun hS => ?_)
        refine tk 0 91 (v := .int .i64 0) rfl rfl (fun W hW => exec_move rfl rfl) ?_
        simp only [Act.put, sA, sZ, sS]
        refine onlyCall 1 92 rfl rfl (by kernel_rfl) rfl (exec_call [.int .i64 0] rfl rfl Tryz.func12 (by kernel_rfl) (by kernel_rfl)) ?_
        refine (num_err _ _).mono ?_
        rintro e w' ⟨rfl, rfl⟩
        refine ⟨_, rfl, .inr hS, ?_⟩
        simp only [Act.put, sA, sZ, sS]
        refine tk 2 93 (v := .bool true) rfl rfl (fun W hW => exec_bini rfl rfl rfl (he0 W)) ?_
        simp only [Act.put, sA, sZ, sS]
        refine tk 3 94 (v := .bool true) rfl rfl (fun W hW => exec_move rfl rfl) ?_
        simp only [Act.put, sA, sZ, sS]
        refine tk 4 95 (v := .int .i64 0) rfl rfl (fun W hW => exec_move rfl rfl) ?_
        simp only [Act.put, sA, sZ, sS]
        refine onlyCall 5 96 rfl rfl (by kernel_rfl) rfl (exec_call [.int .i64 0] rfl rfl Tryz.func12 (by kernel_rfl) (by kernel_rfl)) ?_
        refine (num_err _ _).mono ?_
        rintro e w' ⟨rfl, rfl⟩
        refine ⟨_, rfl, .inr hS, ?_⟩
        simp only [Act.put, sA, sZ, sS]
        refine tk 6 97 (v := .bool true) rfl rfl (fun W hW => exec_bini rfl rfl rfl (he0 W)) ?_
        simp only [Act.put, sA, sZ, sS]
        refine tk 7 98 (v := .bool true) rfl rfl (fun W hW => rfl) ?_
        simp only [Act.put, sA, sZ, sS]
        refine tk 8 99 (v := .bool true) rfl rfl (fun W hW => exec_move rfl rfl) ?_
        simp only [Act.put, sA, sZ, sS]
        refine tk 9 100 (v := .slice p1 bs1.length c1) rfl rfl (fun W hW => exec_move rfl rfl) ?_
        simp only [Act.put, sA, sZ, sS]
        refine tk 10 101 (v := .slice p2 bs2.length c2) rfl rfl (fun W hW => exec_move rfl rfl) ?_
        simp only [Act.put, sA, sZ, sS]
        refine tk 12 103 (v := .agg x) rfl rfl (fun W hW => exec_load rfl rfl ((HBX1.out.below hW).get hxs)) ?_
        simp only [Act.put, sA, sZ, sS]
        refine tk 13 104 (v := .agg y) rfl rfl (fun W hW => exec_load rfl rfl ((HBX2.out.below hW).get hys)) ?_
        simp only [Act.put, sA, sZ, sS]
        refine onlyCall 11 102 rfl rfl (by kernel_rfl) rfl (exec_call [.slice p1 bs1.length c1, .slice p2 bs2.length c2] rfl rfl Tryz.func14 (by kernel_rfl) (by kernel_rfl)) ?_
        refine (bytes_any (HD1.out.below hS) (HD2.out.below hS)).mono ?_
        rintro e w' ⟨rfl, rfl⟩
        rw [e1]
        refine ⟨_, rfl, .inr hS, ?_⟩
        simp only [Act.put, sA, sZ, sS]
        refine onlyCall 14 105 rfl rfl (by kernel_rfl) rfl (exec_call [.agg x, .agg y] rfl rfl Tryz.func33 (by kernel_rfl) (by kernel_rfl)) ?_
        refine (HA2.out _ (below_trans HCUR.out hS)).mono ?_
        rintro e Wk ⟨rfl, hbk⟩
        have hSk : Below W9n.heap.size W9n Wk := below_trans hS hbk
        refine ⟨_, rfl, .inr hSk, ?_⟩
        simp only [Act.put, sA, sZ, sS]
        refine tk 15 106 (v := .bool false) rfl rfl (fun W hW => exec_binbb rfl rfl rfl (hnn al W)) ?_
        simp only [Act.put, sA, sZ, sS]
        refine tk 16 107 (v := .bool false) rfl rfl (fun W hW => exec_move rfl rfl) ?_
        simp only [Act.put, sA, sZ, sS]
        refine tk 17 108 (v := .slice p1 bs1.length c1) rfl rfl (fun W hW => exec_move rfl rfl) ?_
        simp only [Act.put, sA, sZ, sS]
        refine tk 18 109 (v := .slice p2 bs2.length c2) rfl rfl (fun W hW => exec_move rfl rfl) ?_
        simp only [Act.put, sA, sZ, sS]
        refine onlyCall 19 110 rfl rfl (by kernel_rfl) rfl (exec_call [.slice p1 bs1.length c1, .slice p2 bs2.length c2] rfl rfl Tryz.func34 (by kernel_rfl) (by kernel_rfl)) ?_
        refine (begins_any (HD1.out.below hSk) (HD2.out.below hSk)).mono ?_
        rintro e Wl ⟨rfl, hbWl⟩
        rw [e2]
        have hSWl : Below W9n.heap.size W9n Wl := below_trans hSk hbWl
        refine ⟨_, rfl, .inr hSWl, ?_⟩
        simp only [Act.put, sA, sZ, sS]
        refine tk 20 111 (v := .bool false) rfl rfl (fun W hW => rfl) ?_
        simp only [Act.put, sA, sZ, sS]
        refine tk 21 112 (v := .bool false) rfl rfl (fun W hW => exec_move rfl rfl) ?_
        simp only [Act.put, sA, sZ, sS]
        refine tk 22 113 (v := .slice p2 bs2.length c2) rfl rfl (fun W hW => exec_move rfl rfl) ?_
        simp only [Act.put, sA, sZ, sS]
        refine tk 23 114 (v := .slice p1 bs1.length c1) rfl rfl (fun W hW => exec_move rfl rfl) ?_
        simp only [Act.put, sA, sZ, sS]
        refine onlyCall 24 115 rfl rfl (by kernel_rfl) rfl (exec_call [.slice p2 bs2.length c2, .slice p1 bs1.length c1] rfl rfl Tryz.func34 (by kernel_rfl) (by kernel_rfl)) ?_
        refine (begins_any (HD2.out.below hSWl) (HD1.out.below hSWl)).mono ?_
        rintro e Wm ⟨rfl, hbWm⟩
        rw [e3]
        have hSWm : Below W9n.heap.size W9n Wm := below_trans hSWl hbWm
        refine ⟨_, rfl, .inr hSWm, ?_⟩
        simp only [Act.put, sA, sZ, sS]
        refine tk 25 116 (v := .bool false) rfl rfl (fun W hW => rfl) ?_
        simp only [Act.put, sA, sZ, sS]
        refine tk 26 117 (v := .bool false) rfl rfl (fun W hW => rfl) ?_
        simp only [Act.put, sA, sZ, sS]
        refine done (by kernel_rfl) ?_ _
        replace HCUR := Lib.hid (below_trans HCUR.out hSWm)
        replace HRB := Lib.hid (HRB.out.below hSWm)
        clear hS hSk hbk hSWl hSWm hbWl hbWm HD1 HD2 HBX1 HBX2
        clear e1 e2 e3
        go_wp2_with (first
            | (go_at_call 12; refine (num_err _ _).mono ?_; rintro e w' ⟨rfl, rfl⟩)
            | (go_at_call 16
               (
                refine (HR2.out _ HCUR.out _ _ HRB.out).mono ?_
                rintro e W11 ⟨cs2, rfl, hcs2, hb11⟩
                replace hcs2 : GrOwn W11 _ x0 cs2 := hcs2
                have HS2 := Lib.hid (st_graph.fresh (P := Tryz.prog) (W := W11) (el_graph.size hcs2) (el_graph.ones hcs2))
                have hcz2 := el_graph.size hcs2
                replace HCUR := Lib.hid (below_trans HCUR.out hb11)
                try replace HRB := Lib.hid (HRB.out.below hb11)
                have HX2 := Lib.hid (hcs2.rd (by omega))
                clear HR2 hcs2 hb11))
            | ((with_reducible apply op_store); exact HS2.out _ rfl; exact rfl; exact rfl
               (
                have hbn := below_new (w := W11) (.cells cs2 25)
                have HBX3 := Lib.hid (show Lies W11.heap.size 25 cs2 (W11.alloc (.cells cs2 25)) from heap_alloc_new W11 _)
                replace HCUR := Lib.hid (below_trans HCUR.out hbn)
                try replace HD1 := Lib.hid (HD1.out.below hbn)
                try replace HD2 := Lib.hid (HD2.out.below hbn)
                try replace HX1 := Lib.hid (HX1.out.below hbn)
                try replace HBX1 := Lib.hid (HBX1.out.below hbn)
                try replace HBX2 := Lib.hid (HBX2.out.below hbn)
                try replace HRB := Lib.hid (HRB.out.below hbn)
                replace HX2 := Lib.hid (HX2.out.below hbn)
                clear hbn HS2
                generalize W11.alloc (.cells cs2 25) = W11n at *
                generalize W11.heap.size = B11 at *))
            | ((with_reducible apply op_load); exact HBX3.out.get hcz2; exact rfl)
            | (go_at_call 11
               (
                refine (HC4.out _ HCUR.out _ HX2.out).mono ?_
                rintro e W12 ho
                obtain ⟨p12, c12, rfl, hd12, hb12⟩ := ho.rd
                replace HCUR := Lib.hid (below_trans HCUR.out hb12)
                try replace HRB := Lib.hid (HRB.out.below hb12)
                have HD12 := Lib.hid hd12
                clear HC4 ho hd12 hb12))
            | (go_at_call 14
               (
                refine (bytes_any HD12.out HRB.out).mono ?_
                rintro e w' ⟨rfl, rfl⟩
                have heq2 : decide (bs0 = bs0) = true := decide_eq_true rfl))
            | (go_at_call 10
               (
                refine (worksG_any (HE.out.b HCUR.out)).mono ?_
                rintro e W13 ⟨rfl, hb13⟩
                replace HCUR := Lib.hid (below_trans HCUR.out hb13)
                clear hb13)))
        go_ret
        exact ⟨rfl, HCUR.out⟩
end Go.Proofs.YthdfedfholmbmaaGreatDoor

namespace Go.Proofs.YthdfedfholmbmaaGreatDoor
open Go.ChangeShapes Go.WideShapes Go.ChangeAt Go.RowKit Go.Joins
theorem codecBack_lifted (os : Os) (started : os.Started) (H : Type) (enc : TypeId × Value → H) :
    ReturnsInHanded {} Tryz.checked os 7 .any (fun w args => (Rows.codecBackSpec.pre enc Tryz.prog Tryz.f7 [] false w args ∧ laidMetH Tryz.prog LD w) ∧ sizedMet enc Tryz.prog Tryz.f7 (OpenSpec.ofChange Rows.codecBackSpec) false w args)
      (Rows.codecBackSpec.post enc Tryz.prog Tryz.f7 false true false false) := by
  refine returns_tied started (by kernel_rfl) Tryz.func7 #[.agg #[.slice none 0 0, .slice none 0 0, .int .i64 0, .int .i64 0], .agg #[.slice none 0 0, .slice none 0 0, .int .i64 0, .int .i64 0], .slice none 0 0] (by kernel_rfl) (by kernel_rfl) (by kernel_rfl) (wit_shape _ _) (wit_laid _ _) ?_
  intro W base args ds gs before hval0 hW hz hE
  have hval : ∀ (j : Nat) t v, Tryz.f7.params[j]? = some t → args[j]? = some v → Value.okWide Tryz.prog W .any base t v := hval0
  have hW' := hW
  obtain ⟨p, q, hA0, hV, rfl, hfz, hnd⟩ := hW
  have hA : DataW.TrodAll enc Tryz.prog W 0 (fun _ => true) true Tryz.f7.params.toList args.toList ds p := hA0
  rw [Tryz.params7] at hA hval
  obtain ⟨v0, vs0, d0, ds0, p0, q0, hargs, rfl, rfl, h0, r0⟩ := trodAll_cons hA
  obtain ⟨v1, vs1, d1, ds1, p1, q1, rfl, rfl, rfl, h1, r1⟩ := trodAll_cons r0
  obtain ⟨v2, vs2, d2, ds2, p2, q2, rfl, rfl, rfl, h2, r2⟩ := trodAll_cons r1
  obtain ⟨rfl, rfl, rfl⟩ := trodAll_nil r2
  obtain ⟨rfl, rfl⟩ := trodVars_none hV
  obtain rfl : args = #[v0, v1, v2] := by cases args; simp_all
  rw [Tryz.params7] at hz
  obtain ⟨z0, z1, z2⟩ := fits_three hz
  obtain ⟨a0, x0, rfl, hx0, hr0⟩ := graph_in (hval 0 25 v0 rfl rfl) h0 z0
  obtain ⟨a1, x1, rfl, hx1, hr1⟩ := graph_in (hval 1 25 v1 rfl rfl) h1 z1
  obtain ⟨b2, c2, l2, rfl, hb2⟩ := bytes_in (hval 2 26 v2 rfl rfl) h2
  clear hA0 hval0
  refine (gback_any hE hx0 hx1 hr0 hr1 hb2).mono fun e W' ⟨he, hg⟩ => ?_
  subst he
  exact ⟨_, rfl, law_post laidT (by decide +kernel) Tryz.underlying4 (by kernel_rfl) rfl hW' rfl hg⟩
theorem codecBack_row : Rows.CodecBackSaid :=
  OpenClaim.holds_of_wide 7 Tryz.f7 rfl rfl rfl rfl rfl rfl rfl ⟨rfl, rfl, rfl, rfl, rfl⟩ rfl rfl rfl rfl rfl (by kernel_rfl) Tryz.func7 (by kernel_rfl)
    (of_decide_eq_true (by kernel_rfl)) (by unfold Func.isWrapper; first | (rw [if_pos (by decide +kernel)]; kernel_rfl) | (rw [if_neg (by decide +kernel)]; exact ⟨rfl, rfl⟩))
    (fun os started H enc _ => codecBack_lifted os started H enc)
theorem gback_law_holds : Rows.CodecBackCardSaid :=
  Claim7.holds_tied_plain_at .later [] [.data, .pinned] true (true, "51d6d183f3b9b26ed98afca7791da6a3b37e43a2ee8010f5d16b56af07fe616a") true
    codecBack_row (fun _ h => by cases h) (by kernel_rfl) (fun _ h => by cases h) codecBack_row_tie rfl ⟨rfl, rfl⟩ (by kernel_rfl) rfl
    (fun f fn hf hfn => by
      obtain rfl : f = 7 := Option.some.inj ((show Tryz.prog.funcNamed "lattice/latticelaw19.CodecBack" = some 7 by kernel_rfl).symm.trans hf) |>.symm
      obtain rfl : fn = Tryz.f7 := (Option.some.inj (Tryz.func7.symm.trans hfn)).symm
      exact ⟨by kernel_rfl, fun j t ht => by
        rw [Tryz.params7] at ht
        have hm : t ∈ [25, 25, 26] := by simpa using Array.mem_of_getElem? ht
        have hall : ([25, 25, 26].all fun u => !Tryz.prog.wantsStandIn u) = true := by kernel_rfl
        exact (show Tryz.prog.wantsStandIn t = false by simpa using List.all_eq_true.1 hall t hm)⟩)
    (by kernel_rfl)
#print axioms gback_law_holds
end Go.Proofs.YthdfedfholmbmaaGreatDoor
