/- CodecGraphs: for every graph and every bytes the law returns true, and the arguments read as they did. The listed tables of Go's library read as the program's text lays them. -/
import Derived.Test.YthdfedfholmbmaaGreatDoorZCgra
import Derived.Test.YthdfedfholmbmaaGreatDoorZCgrb
import Derived.Test.YthdfedfholmbmaaGreatDoorZCgrc
import Derived.Test.YthdfedfholmbmaaGreatDoorZCgre
import Derived.Test.YthdfedfholmbmaaGreatDoorCards
import Derived.Test.YthdfedfholmbmaaGreatDoorTie
set_option linter.unusedSimpArgs false
set_option linter.unusedVariables false
set_option maxRecDepth 100000
set_option maxHeartbeats 64000000
namespace Go.Proofs.YthdfedfholmbmaaGreatDoor
open Go.RowKit
theorem dgraph_any {w : World} {g : GraphD} {x : Array Value} (h : GrRd w g x) (hwf : wfG g) (hl : (Kb8 g).length ≤ 1000000000000) : Calls Tryz.prog 15 #[.agg x] w fun e w' => ∃ o, e = .returned o ∧ Buf w w' o (Kb8 g) := by
 obtain ⟨pn, cn, pr, cr, rfl, hn, hr⟩ := h
 have z1 : (g.nodes.length : Int) ≤ 140737488355328 := by have := hn.1.2.1; omega
 have z2 : (g.rels.length : Int) ≤ 140737488355328 := by have := hr.1.2.1; omega
 have hb := Kaf (w := w) (.cells #[.slice pn g.nodes.length cn, .slice pr g.rels.length cr, .int .i64 g.nextNode, .int .i64 g.nextRel] 25)
 have hg := heap_alloc_new w (.cells #[.slice pn g.nodes.length cn, .slice pr g.rels.length cr, .int .i64 g.nextNode, .int .i64 g.nextRel] 25)
 have hlt0 := (Array.getElem?_eq_some_iff.1 hg).1
 have hn1 := hn.below (fun h => h.below hb) hb
 have hr1 := hr.below (fun h => h.below hb) hb
 have e1 : Kb8 g = rowsC nodeC g.nodes ++ (rowsC relC g.rels ++ (numB (toU g.nextNode) ++ numB (toU g.nextRel))) := rfl
 have k1 : (numB g.nodes.length).length ≤ 10 := Ka7 hwf.1.1
 have k2 : (numB g.rels.length).length ≤ 10 := Ka7 hwf.2.1.1
 have k3 := Ka7 (Kbh hwf.2.2.1).1
 have k4 := Ka7 (Kbh hwf.2.2.2).1
 have u3 := Kb3 hwf.2.2.1
 have u4 := Kb3 hwf.2.2.2
 rw [e1] at hl ⊢
 simp only [List.length_append] at hl
 have H := Lib.hid (And.intro hn1 hr1)
 have HW := Lib.hid hwf
 have H0 := Lib.hid (And.intro hb (And.intro hg hlt0))
 clear hn hr hn1 hr1 hwf e1 hb hg hlt0
 go_enter Tryz.func15, Tryz.ntmps15
 go_wp2_with (go_at_call 46; refine (Kbj (n := g.nodes.length) (by omega) _).mono ?_; rintro e W1 ⟨o1, rfl, hB1⟩; have HB1 := Lib.hid hB1; clear hB1)
 generalize hw0 : w.alloc (.cells #[.slice pn g.nodes.length cn, .slice pr g.rels.length cr, .int .i64 g.nextNode, .int .i64 g.nextRel] 25) = w0 at *
 clear hw0
 go_loopw [3, 4] (fun o i W => ∃ (j : Nat) (ov : Value), j ≤ g.nodes.length ∧ i = .int .i64 (j : Int) ∧ ov = o ∧ Hid (Buf w0 W ov ([] ++ (numB g.nodes.length ++ (g.nodes.take j).flatMap nodeC)))) (fun _ i _ => g.nodes.length - (intOf i).toNat)
 case atStart => exact ⟨0, _, Nat.zero_le _, rfl, rfl, Lib.hid (by have := HB1.out; simpa using this)⟩
 case round =>
  clear HB1
  obtain ⟨j, ov, hj, rfl, rfl, HB⟩ := hrel
  have hbx := Kao HB.out.b H0.out.2.2 H0.out.2.1
  have p0 := Kab (o := 0) hbx rfl
  by_cases hlt : j < g.nodes.length
  ·have hlt1 : j + 1 ≤ g.nodes.length := hlt
   obtain ⟨b, of, cs, rfl, hs, hc, hv⟩ := H.out.1.get hlt
   have hstep := rows_step nodeC hlt
   have hl1 := rows_le nodeC (l := g.nodes) j
   have hl2 := rows_at_le nodeC hlt
   rw [List.length_append] at hl1
   have HLD := Lib.hid (StT.load (W := wr) Kbx hs fun i u hu => Kai HB.out.b (ltOf (hc i u hu)) (hc i u hu))
   have hcall := dnode_any (hv.below HB.out.b) (HW.out.1.2 _ (List.getElem_mem hlt)) (by omega)
   generalize g.nodes[j] = x1 at *
   have HST := Lib.hid hstep
   have HCL := Lib.hid hcall
   clear hstep hbx hs hc hv hcall
   go_wp2_with (first
    | ((with_reducible apply Kan); exact HLD.out; exact rfl)
    | (go_at_call 47
       (
        refine (HCL.out).mono ?_
        rintro e W1 ⟨o2, rfl, hB2⟩
        obtain ⟨vW1, W1a, ha, hI⟩ := HB.out.join hB2 (by (try simp only [List.length_append, List.length_cons, List.length_nil] at *); omega) 26
        have HA := Lib.hid ha
        have HR := Lib.hid hI
        clear hB2 ha hI))
    | ((with_reducible apply Kav); exact HA.out; exact rfl; exact rfl; clear HA))
   go_roundw
   case rel => exact ⟨j + 1, _, hlt1, by go_num, rfl, Lib.hid (by rw [HST.out, ← List.append_assoc]; exact HR.out)⟩
   case measure => simp [intOf]; omega
  ·obtain rfl : j = g.nodes.length := by omega
   have HBF := Lib.hid (show Buf w0 wr ov (rowsC nodeC g.nodes) from by have h := HB.out; rw [Kd9] at h; exact h)
   clear HB
   have p1 := Kab (o := 1) hbx rfl
   clear hbx
   go_wp2_with (first
    | (go_at_call 46
       (
        refine (Kbj (n := g.rels.length) (by omega) _).mono ?_
        rintro e W4 ⟨o2, rfl, hB2⟩
        obtain ⟨vW4, W4a, ha, hI⟩ := HBF.out.join hB2 (by (try simp only [List.length_append, List.length_cons, List.length_nil] at *); omega) 26
        have HA4 := Lib.hid ha
        have HR2 := Lib.hid hI
        clear hB2 ha hI))
    | ((with_reducible apply Kav); exact HA4.out; exact rfl; exact rfl; clear HA4))
   go_loopw [3, 5] (fun o i W => ∃ (j : Nat) (ov : Value), j ≤ g.rels.length ∧ i = .int .i64 (j : Int) ∧ ov = o ∧ Hid (Buf w0 W ov (rowsC nodeC g.nodes ++ (numB g.rels.length ++ (g.rels.take j).flatMap relC)))) (fun _ i _ => g.rels.length - (intOf i).toNat)
   case atStart => exact ⟨0, _, Nat.zero_le _, rfl, rfl, Lib.hid (by have := HR2.out; simpa using this)⟩
   case round =>
    clear HR2
    obtain ⟨j, ov, hj, rfl, rfl, HB⟩ := hrel
    have hbx := Kao HB.out.b H0.out.2.2 H0.out.2.1
    have p1 := Kab (o := 1) hbx rfl
    by_cases hlt : j < g.rels.length
    ·have hlt1 : j + 1 ≤ g.rels.length := hlt
     obtain ⟨b, of, cs, rfl, hs, hc, hv⟩ := H.out.2.get hlt
     have hstep := rows_step relC hlt
     have hl1 := rows_le relC (l := g.rels) j
     have hl2 := rows_at_le relC hlt
     rw [List.length_append] at hl1
     have HLD := Lib.hid (StT.load (W := wr) Kc9 hs fun i u hu => Kai HB.out.b (ltOf (hc i u hu)) (hc i u hu))
     have hcall := drel_any (hv.below HB.out.b) (HW.out.2.1.2 _ (List.getElem_mem hlt)) (by omega)
     generalize g.rels[j] = x1 at *
     have HST := Lib.hid hstep
     have HCL := Lib.hid hcall
     clear hstep hbx hs hc hv hcall
     go_wp2_with (first
      | ((with_reducible apply Kan); exact HLD.out; exact rfl)
      | (go_at_call 48
         (
          refine (HCL.out).mono ?_
          rintro e W1 ⟨o2, rfl, hB2⟩
          obtain ⟨vW1, W1a, ha, hI⟩ := HB.out.join hB2 (by (try simp only [List.length_append, List.length_cons, List.length_nil] at *); omega) 26
          have HA := Lib.hid ha
          have HR := Lib.hid hI
          clear hB2 ha hI))
      | ((with_reducible apply Kav); exact HA.out; exact rfl; exact rfl; clear HA))
     go_roundw
     case rel => exact ⟨j + 1, _, hlt1, by go_num, rfl, Lib.hid (by rw [HST.out, ← List.append_assoc]; exact HR.out)⟩
     case measure => simp [intOf]; omega
    ·obtain rfl : j = g.rels.length := by omega
     have HBF2 := Lib.hid (show Buf w0 wr ov (rowsC nodeC g.nodes ++ rowsC relC g.rels) from by have h := HB.out; rw [Kd9] at h; exact h)
     clear HB
     have p2 := Kab (o := 2) hbx rfl
     clear hbx
     have HC1 := Lib.hid (fun W => Kbj (n := toU g.nextNode) (Kbh HW.out.2.2.1).1 W)
     go_wp2_with (first
      | (go_at_call 46
         (
          refine (HC1.out _).mono ?_
          rintro e W5 ⟨o2, rfl, hB2⟩
          obtain ⟨vW5, W5a, ha, hI⟩ := HBF2.out.join hB2 (by (try simp only [List.length_append, List.length_cons, List.length_nil] at *); omega) 26
          have HA5 := Lib.hid ha
          have HRa := Lib.hid hI
          clear HC1
          have p3 := Kab (o := 3) (Kao hI.b H0.out.2.2 H0.out.2.1) rfl
          clear hB2 ha hI))
      | ((with_reducible apply Kav); exact HA5.out; exact rfl; exact rfl; clear HA5)
      | (go_at_call 46
         (
          refine (Kbj (n := toU g.nextRel) (Kbh HW.out.2.2.2).1 _).mono ?_
          rintro e W6 ⟨o2, rfl, hB2⟩
          obtain ⟨vW6, W6a, ha, hI⟩ := HRa.out.join hB2 (by (try simp only [List.length_append, List.length_cons, List.length_nil] at *); omega) 26
          have HA6 := Lib.hid ha
          have HRb := Lib.hid hI
          clear hB2 ha hI))
      | ((with_reducible apply Kav); exact HA6.out; exact rfl; exact rfl; clear HA6))
     go_ret
     refine ⟨_, rfl, ?_⟩
     have h := HRb.out.up H0.out.1
     simp only [List.append_assoc] at h
     exact h
end Go.Proofs.YthdfedfholmbmaaGreatDoor

namespace Go.Proofs.YthdfedfholmbmaaGreatDoor
open Go.RowKit
structure PairU (w : World) (s1 s2 : V) (g1 o1 g2 o2 : Nat) (c0 c1 c2 c3 c4 c5 d0 d1 d2 d3 d4 d5 : Value) (W : World) : Prop where
 b : Below w.heap.size w W
 h0 : W.cell? ⟨g1, o1, none⟩ = some c0
 h1 : W.cell? ⟨g1, o1 + 1, none⟩ = some c1
 h2 : W.cell? ⟨g1, o1 + 2, none⟩ = some c2
 h3 : W.cell? ⟨g1, o1 + 3, none⟩ = some c3
 h4 : W.cell? ⟨g1, o1 + 4, none⟩ = some c4
 h5 : W.cell? ⟨g1, o1 + 5, none⟩ = some c5
 q0 : W.cell? ⟨g2, o2, none⟩ = some d0
 q1 : W.cell? ⟨g2, o2 + 1, none⟩ = some d1
 q2 : W.cell? ⟨g2, o2 + 2, none⟩ = some d2
 q3 : W.cell? ⟨g2, o2 + 3, none⟩ = some d3
 q4 : W.cell? ⟨g2, o2 + 4, none⟩ = some d4
 q5 : W.cell? ⟨g2, o2 + 5, none⟩ = some d5
 r1 : VRd W s1 #[c0, c1, c2, c3, c4, c5]
 r2 : VRd W s2 #[d0, d1, d2, d3, d4, d5]
theorem PairU.keep {w W W' : World} {s1 s2 : V} {g1 o1 g2 o2 : Nat} {c0 c1 c2 c3 c4 c5 d0 d1 d2 d3 d4 d5 : Value} (h : PairU w s1 s2 g1 o1 g2 o2 c0 c1 c2 c3 c4 c5 d0 d1 d2 d3 d4 d5 W) (b : Below W.heap.size W W') : PairU w s1 s2 g1 o1 g2 o2 c0 c1 c2 c3 c4 c5 d0 d1 d2 d3 d4 d5 W' :=
 ⟨Kaa h.b b, Kai b (ltOf h.h0) h.h0, Kai b (ltOf h.h1) h.h1, Kai b (ltOf h.h2) h.h2, Kai b (ltOf h.h3) h.h3, Kai b (ltOf h.h4) h.h4, Kai b (ltOf h.h5) h.h5,
  Kai b (ltOf h.q0) h.q0, Kai b (ltOf h.q1) h.q1, Kai b (ltOf h.q2) h.q2, Kai b (ltOf h.q3) h.q3, Kai b (ltOf h.q4) h.q4, Kai b (ltOf h.q5) h.q5, h.r1.below b, h.r2.below b⟩
structure KeyTwo (w : World) (X Y : Array Value) (b1 o1 b2 o2 : Nat) (s1 s2 : List UInt8) (W : World) : Prop where
 two : TwoV w W X Y
 one : W.cell? ⟨b1, o1, none⟩ = some (.string (strB s1))
 sec : W.cell? ⟨b2, o2, none⟩ = some (.string (strB s2))
theorem KeyTwo.keep {w W W' : World} {X Y : Array Value} {b1 o1 b2 o2 : Nat} {s1 s2 : List UInt8} (h : KeyTwo w X Y b1 o1 b2 o2 s1 s2 W) (b : Below W.heap.size W W') : KeyTwo w X Y b1 o1 b2 o2 s1 s2 W' :=
 ⟨h.two.below b, Kai b (ltOf h.one) h.one, Kai b (ltOf h.sec) h.sec⟩
end Go.Proofs.YthdfedfholmbmaaGreatDoor

namespace Go.Proofs.YthdfedfholmbmaaGreatDoor
open Go.RowKit
structure AlU (w : World) (X Y : Array Value) (s1 : V) (g1 o1 g2 o2 : Nat) (c0 c1 c2 c3 c4 c5 d0 d1 d2 d3 d4 d5 : Value) (W : World) : Prop where
 two : TwoV w W X Y
 p : PairU w s1 s1 g1 o1 g2 o2 c0 c1 c2 c3 c4 c5 d0 d1 d2 d3 d4 d5 W
theorem AlU.keep {w W W' : World} {X Y : Array Value} {s1 : V} {g1 o1 g2 o2 : Nat} {c0 c1 c2 c3 c4 c5 d0 d1 d2 d3 d4 d5 : Value} (h : AlU w X Y s1 g1 o1 g2 o2 c0 c1 c2 c3 c4 c5 d0 d1 d2 d3 d4 d5 W) (b : Below W.heap.size W W') : AlU w X Y s1 g1 o1 g2 o2 c0 c1 c2 c3 c4 c5 d0 d1 d2 d3 d4 d5 W' := ⟨h.two.below b, h.p.keep b⟩
theorem alikeR_any : ∀ (v : V) (w : World) (x y : Array Value), VRd w v x → VRd w v y →
 Calls Tryz.prog 25 #[.agg x, .agg y] w fun e w' => e = .returned (.bool true) ∧ Below w.heap.size w w' := by
 refine V.ind fun k b n t ks l ih => ?_
 intro w x y hx hy
 obtain ⟨pk, ck, pl, cl, rfl, _, hk1, hl1⟩ := Kcu.1 hx
 obtain ⟨pk', ck', pl', cl', rfl, _, hk2, hl2⟩ := Kcu.1 hy
 have hT := TwoV.start w #[.int .i64 k, .bool b, .int .i64 n, .string (strB t), .slice pk ks.length ck, .slice pl l.length cl] #[.int .i64 k, .bool b, .int .i64 n, .string (strB t), .slice pk' ks.length ck', .slice pl' l.length cl']
 have z1 : (ks.length : Int) ≤ 140737488355328 := by have := hk1.1; have := hk1.2.1; omega
 have z2 : (l.length : Int) ≤ 140737488355328 := by have := hl1.1.2.1; omega
 have c0 := Kab (o := 0) hT.1 rfl; have c1 := Kab (o := 1) hT.1 rfl; have c2 := Kab (o := 2) hT.1 rfl; have c3 := Kab (o := 3) hT.1 rfl; have c4 := Kab (o := 4) hT.1 rfl; have c5 := Kab (o := 5) hT.1 rfl
 have q0 := Kab (o := 0) hT.2.1 rfl; have q1 := Kab (o := 1) hT.2.1 rfl; have q2 := Kab (o := 2) hT.2.1 rfl; have q3 := Kab (o := 3) hT.2.1 rfl; have q4 := Kab (o := 4) hT.2.1 rfl; have q5 := Kab (o := 5) hT.2.1 rfl
 have HT := Lib.hid hT
 have HK := Lib.hid (And.intro (And.intro hk1 hk2) (And.intro hl1 hl2))
 have HI := Lib.hid ih
 clear ih hx hy hT hk1 hk2 hl1 hl2
 go_enter Tryz.func25, Tryz.ntmps25
 go_wp2
 have HT0 := HT
 clear c0 c1 c2 c3 c4 c5 q0 q1 q2 q3 q4 q5
 go_loopw [5] (fun i wr => ∃ j : Nat, j ≤ ks.length ∧ i = .int .i64 (j : Int) ∧ Hid (TwoV w wr #[.int .i64 k, .bool b, .int .i64 n, .string (strB t), .slice pk ks.length ck, .slice pl l.length cl] #[.int .i64 k, .bool b, .int .i64 n, .string (strB t), .slice pk' ks.length ck', .slice pl' l.length cl'])) (fun i _ => ks.length - (intOf i).toNat)
 case atStart => exact ⟨0, Nat.zero_le _, rfl, HT0⟩
 case round =>
  clear HT HT0
  obtain ⟨j, hj, rfl, HT⟩ := hrel
  have hT1 := HT.out
  have c4 := Kab (o := 4) hT1.1 rfl; have c5 := Kab (o := 5) hT1.1 rfl
  have q4 := Kab (o := 4) hT1.2.1 rfl; have q5 := Kab (o := 5) hT1.2.1 rfl
  by_cases hlt : j < ks.length
  ·have hlt1 : j + 1 ≤ ks.length := hlt
   have hbd : Below w.heap.size w wr.drew := Kaa hT1.2.2 (Below.refl _ _).drew
   obtain ⟨b1, o1, rfl, r1, y1⟩ := (HK.out.1.1.below hbd).get hlt
   obtain ⟨b2, o2, rfl, r2, y2⟩ := (HK.out.1.2.below hbd).get hlt
   have hlt2 := hlt
   generalize ks[j] = s1 at *
   have hU0 : KeyTwo w #[.int .i64 k, .bool b, .int .i64 n, .string (strB t), .slice (some ⟨b1, o1, none⟩) ks.length ck, .slice pl l.length cl] #[.int .i64 k, .bool b, .int .i64 n, .string (strB t), .slice (some ⟨b2, o2, none⟩) ks.length ck', .slice pl' l.length cl'] b1 (o1 + j) b2 (o2 + j) s1 s1 wr.drew := ⟨hT1.below (Below.refl _ _).drew, r1, r2⟩
   have hne : ∀ W, (binOp .neq 9 (.string (strB s1)) (.string (strB s1))).run Tryz.prog W = .ok (.bool false) W := fun W => by rw [run_neStr]; simp
   clear r1 r2 y1 y2 hbd hT1
   go_wp2
   refine Kah (fun W => KeyTwo w #[.int .i64 k, .bool b, .int .i64 n, .string (strB t), .slice (some ⟨b1, o1, none⟩) ks.length ck, .slice pl l.length cl] #[.int .i64 k, .bool b, .int .i64 n, .string (strB t), .slice (some ⟨b2, o2, none⟩) ks.length ck', .slice pl' l.length cl'] b1 (o1 + j) b2 (o2 + j) s1 s1 W) (by kernel_rfl) hU0 (fun hU => ?_)
   refine tk 0 58 (v := .pointer (some ⟨w.heap.size, 4, none⟩)) rfl rfl (fun W hW => Kac rfl rfl (Kbw _ _ (by decide) W)) ?_
   simp only [Act.put, sA, sZ, sS]
   refine tk 1 59 (v := .slice (some ⟨b1, o1, none⟩) ks.length ck) rfl rfl (fun W hW => Kae rfl rfl (Kal (w := W) Tryz.underlying45 rfl (Kab hW.two.1 rfl))) ?_
   simp only [Act.put, sA, sZ, sS]
   refine tk 2 60 (v := .int .i64 (j : Int)) rfl rfl (fun W hW => Kag rfl rfl) ?_
   simp only [Act.put, sA, sZ, sS]
   refine tk 3 61 (v := .pointer (some ⟨b1, o1 + j, none⟩)) rfl rfl (fun W hW => Kam rfl rfl rfl (ia_keys _ _ _ _ _ hlt W)) ?_
   simp only [Act.put, sA, sZ, sS]
   refine tk 4 62 (v := .string (strB s1)) rfl rfl (fun W hW => Kae rfl rfl (Kal (w := W) Tryz.underlying9 rfl hW.one)) ?_
   simp only [Act.put, sA, sZ, sS]
   refine tk 5 63 (v := .pointer (some ⟨w.heap.size + 1, 4, none⟩)) rfl rfl (fun W hW => Kac rfl rfl (Kbw _ _ (by decide) W)) ?_
   simp only [Act.put, sA, sZ, sS]
   refine tk 6 64 (v := .slice (some ⟨b2, o2, none⟩) ks.length ck') rfl rfl (fun W hW => Kae rfl rfl (Kal (w := W) Tryz.underlying45 rfl (Kab hW.two.2.1 rfl))) ?_
   simp only [Act.put, sA, sZ, sS]
   refine tk 7 65 (v := .int .i64 (j : Int)) rfl rfl (fun W hW => Kag rfl rfl) ?_
   simp only [Act.put, sA, sZ, sS]
   refine tk 8 66 (v := .pointer (some ⟨b2, o2 + j, none⟩)) rfl rfl (fun W hW => Kam rfl rfl rfl (ia_keys _ _ _ _ _ hlt2 W)) ?_
   simp only [Act.put, sA, sZ, sS]
   refine tk 9 67 (v := .string (strB s1)) rfl rfl (fun W hW => Kae rfl rfl (Kal (w := W) Tryz.underlying9 rfl hW.sec)) ?_
   simp only [Act.put, sA, sZ, sS]
   refine tk 10 68 (v := .bool false) rfl rfl (fun W hW => Kdw rfl rfl rfl (hne W)) ?_
   simp only [Act.put, sA, sZ, sS]
   refine done (by kernel_rfl) ?_ _
   have HT0 := Lib.hid hU.two
   have c4 := Kab (o := 4) hU.two.1 rfl
   have q4 := Kab (o := 4) hU.two.2.1 rfl
   clear hU hU0 hne
   go_wp2
   go_roundw
   case rel => exact ⟨j + 1, by omega, by go_num, HT0⟩
   case measure => simp [intOf]; omega
  ·obtain rfl : j = ks.length := by omega
   have HT0 := HT
   clear hT1
   go_wp2
   go_loopw [6] (fun i wr => ∃ j : Nat, j ≤ l.length ∧ i = .int .i64 (j : Int) ∧ Hid (TwoV w wr #[.int .i64 k, .bool b, .int .i64 n, .string (strB t), .slice pk ks.length ck, .slice pl l.length cl] #[.int .i64 k, .bool b, .int .i64 n, .string (strB t), .slice pk' ks.length ck', .slice pl' l.length cl'])) (fun i _ => l.length - (intOf i).toNat)
   case atStart => exact ⟨0, Nat.zero_le _, rfl, HT0⟩
   case round =>
    clear HT HT0 c4 c5 q4 q5
    obtain ⟨j, hj, rfl, HT⟩ := hrel
    have hT1 := HT.out
    have c4 := Kab (o := 4) hT1.1 rfl; have c5 := Kab (o := 5) hT1.1 rfl
    have q4 := Kab (o := 4) hT1.2.1 rfl; have q5 := Kab (o := 5) hT1.2.1 rfl
    by_cases hlt : j < l.length
    ·have hlt1 : j + 1 ≤ l.length := hlt
     have hbd : Below w.heap.size w wr.drew := Kaa hT1.2.2 (Below.refl _ _).drew
     obtain ⟨g1, o1, pk1, ck1, pl1, cl1, rfl, ⟨a0, a1, a2, a3, a4, a5⟩, hv1⟩ := (HK.out.2.1.below hbd).at hlt
     obtain ⟨g2, o2, pk2, ck2, pl2, cl2, rfl, ⟨r0, r1, r2, r3, r4, r5⟩, hv2⟩ := (HK.out.2.2.below hbd).at hlt
     have hlt2 := hlt
     have HC := Lib.hid (HI.out l[j] (List.getElem_mem hlt))
     generalize l[j] = s1 at *
     have hU0 : AlU w #[.int .i64 k, .bool b, .int .i64 n, .string (strB t), .slice pk ks.length ck, .slice (some ⟨g1, o1, none⟩) l.length cl] #[.int .i64 k, .bool b, .int .i64 n, .string (strB t), .slice pk' ks.length ck', .slice (some ⟨g2, o2, none⟩) l.length cl'] s1 g1 (o1 + j * 6) g2 (o2 + j * 6) (.int .i64 s1.kind) (.bool s1.b) (.int .i64 s1.n) (.string (strB s1.text)) (.slice pk1 s1.keys.length ck1) (.slice pl1 s1.list.length cl1) (.int .i64 s1.kind) (.bool s1.b) (.int .i64 s1.n) (.string (strB s1.text)) (.slice pk2 s1.keys.length ck2) (.slice pl2 s1.list.length cl2) wr.drew := ⟨hT1.below (Below.refl _ _).drew, ⟨hbd, a0, a1, a2, a3, a4, a5, r0, r1, r2, r3, r4, r5, hv1, hv2⟩⟩
     clear a0 a1 a2 a3 a4 a5 r0 r1 r2 r3 r4 r5 hv1 hv2 hbd hT1
     go_wp2
     refine Kah (fun W => AlU w #[.int .i64 k, .bool b, .int .i64 n, .string (strB t), .slice pk ks.length ck, .slice (some ⟨g1, o1, none⟩) l.length cl] #[.int .i64 k, .bool b, .int .i64 n, .string (strB t), .slice pk' ks.length ck', .slice (some ⟨g2, o2, none⟩) l.length cl'] s1 g1 (o1 + j * 6) g2 (o2 + j * 6) (.int .i64 s1.kind) (.bool s1.b) (.int .i64 s1.n) (.string (strB s1.text)) (.slice pk1 s1.keys.length ck1) (.slice pl1 s1.list.length cl1) (.int .i64 s1.kind) (.bool s1.b) (.int .i64 s1.n) (.string (strB s1.text)) (.slice pk2 s1.keys.length ck2) (.slice pl2 s1.list.length cl2) W) (by kernel_rfl) hU0 (fun hU => ?_)
     refine tk 0 76 (v := .pointer (some ⟨w.heap.size, 5, none⟩)) rfl rfl (fun W hW => Kac rfl rfl (Kbw _ _ (by decide) W)) ?_
     simp only [Act.put, sA, sZ, sS]
     refine tk 1 77 (v := .slice (some ⟨g1, o1, none⟩) l.length cl) rfl rfl (fun W hW => Kae rfl rfl (Kal (w := W) Tryz.underlying46 rfl (Kab hW.two.1 rfl))) ?_
     simp only [Act.put, sA, sZ, sS]
     refine tk 2 78 (v := .int .i64 (j : Int)) rfl rfl (fun W hW => Kag rfl rfl) ?_
     simp only [Act.put, sA, sZ, sS]
     refine tk 3 79 (v := .pointer (some ⟨g1, o1 + j * 6, none⟩)) rfl rfl (fun W hW => Kam rfl rfl rfl (ia_vals _ _ _ _ _ hlt W)) ?_
     simp only [Act.put, sA, sZ, sS]
     refine tk 4 80 (v := .agg #[.int .i64 s1.kind, .bool s1.b, .int .i64 s1.n, .string (strB s1.text), .slice pk1 s1.keys.length ck1, .slice pl1 s1.list.length cl1]) rfl rfl (fun W hW => Kae rfl rfl (get_six hW.p.h0 hW.p.h1 hW.p.h2 hW.p.h3 hW.p.h4 hW.p.h5)) ?_
     simp only [Act.put, sA, sZ, sS]
     refine tk 5 81 (v := .pointer (some ⟨w.heap.size + 1, 5, none⟩)) rfl rfl (fun W hW => Kac rfl rfl (Kbw _ _ (by decide) W)) ?_
     simp only [Act.put, sA, sZ, sS]
     refine tk 6 82 (v := .slice (some ⟨g2, o2, none⟩) l.length cl') rfl rfl (fun W hW => Kae rfl rfl (Kal (w := W) Tryz.underlying46 rfl (Kab hW.two.2.1 rfl))) ?_
     simp only [Act.put, sA, sZ, sS]
     refine tk 7 83 (v := .int .i64 (j : Int)) rfl rfl (fun W hW => Kag rfl rfl) ?_
     simp only [Act.put, sA, sZ, sS]
     refine tk 8 84 (v := .pointer (some ⟨g2, o2 + j * 6, none⟩)) rfl rfl (fun W hW => Kam rfl rfl rfl (ia_vals _ _ _ _ _ hlt2 W)) ?_
     simp only [Act.put, sA, sZ, sS]
     refine tk 9 85 (v := .agg #[.int .i64 s1.kind, .bool s1.b, .int .i64 s1.n, .string (strB s1.text), .slice pk2 s1.keys.length ck2, .slice pl2 s1.list.length cl2]) rfl rfl (fun W hW => Kae rfl rfl (get_six hW.p.q0 hW.p.q1 hW.p.q2 hW.p.q3 hW.p.q4 hW.p.q5)) ?_
     simp only [Act.put, sA, sZ, sS]
     refine Kaw 10 86 rfl rfl (by kernel_rfl) rfl (Kau [.agg #[.int .i64 s1.kind, .bool s1.b, .int .i64 s1.n, .string (strB s1.text), .slice pk1 s1.keys.length ck1, .slice pl1 s1.list.length cl1], .agg #[.int .i64 s1.kind, .bool s1.b, .int .i64 s1.n, .string (strB s1.text), .slice pk2 s1.keys.length ck2, .slice pl2 s1.list.length cl2]] rfl rfl Tryz.func25 (by kernel_rfl) (by kernel_rfl)) ?_
     refine (HC.out _ _ _ hU.p.r1 hU.p.r2).mono ?_
     rintro e w5 ⟨rfl, hb5⟩
     have hU2 := hU.keep hb5
     clear hb5
     refine ⟨_, rfl, .inr hU2, ?_⟩
     simp only [Act.put, sA, sZ, sS]
     refine tk 11 87 (v := .bool false) rfl rfl (fun W hW => Kay (b := true) rfl rfl) ?_
     simp only [Act.put, sA, sZ, sS]
     refine done (by kernel_rfl) ?_ _
     have HT0 := Lib.hid hU2.two
     have c5 := Kab (o := 5) hU2.two.1 rfl
     have q5 := Kab (o := 5) hU2.two.2.1 rfl
     clear hU hU0 hU2 HC
     go_wp2
     go_roundw
     case rel => exact ⟨j + 1, by omega, by go_num, HT0⟩
     case measure => simp [intOf]; omega
    ·obtain rfl : j = l.length := by omega
     have HF := Lib.hid hT1.2.2
     clear hT1
     go_wp2
     go_ret
     exact ⟨rfl, HF.out⟩
end Go.Proofs.YthdfedfholmbmaaGreatDoor

namespace Go.Proofs.YthdfedfholmbmaaGreatDoor
open Go.RowKit
theorem eqs_self (s : List UInt8) (W : World) : (binOp .neq 9 (.string (strB s)) (.string (strB s))).run Tryz.prog W = .ok (.bool false) W := by simp [go_sem]
theorem Kei (n : Int) : (n != n) = false := by simp
theorem lprops_any {w : World} {p p2 : Option Addr} {c c2 : Nat} {l : List PropD} (h : GRd PRd 7 w p c l) (h2 : GRd PRd 7 w p2 c2 l) : Calls Tryz.prog 112 #[.slice p l.length c, .slice p2 l.length c2] w fun e w' => e = .returned (.bool true) ∧ Below w.heap.size w w' := by
 have z1 : (l.length : Int) ≤ 140737488355328 := by have := h.1.2.1; omega
 have zz := Kei (l.length : Int)
 have H := Lib.hid h
 have H2 := Lib.hid h2
 clear h h2
 go_enter Tryz.func112, Tryz.ntmps112
 go_wp2
 go_loopw [5] (fun i W => ∃ j : Nat, j ≤ l.length ∧ i = .int .i64 (j : Int) ∧ Hid (Below w.heap.size w W)) (fun i _ => l.length - (intOf i).toNat)
 case atStart => exact ⟨0, Nat.zero_le _, rfl, Lib.hid (Below.refl _ _)⟩
 case round =>
  obtain ⟨j, hj, rfl, HI⟩ := hrel
  by_cases hlt : j < l.length
  ·have hlt1 : j + 1 ≤ l.length := hlt
   obtain ⟨b, of, cs, rfl, hs, hc, hv⟩ := H.out.get hlt
   obtain ⟨b2, of2, ds, rfl, hs2, hc2, hv2⟩ := H2.out.get hlt
   obtain ⟨xv, ex, hkx, hvx⟩ := hv
   obtain ⟨yv, ey, hky, hvy⟩ := hv2
   have k0 : cs[0]? = some (.string (strB l[j].key)) := by rw [ex, Array.getElem?_append_left (by simp)]; rfl
   have l0 : ds[0]? = some (.string (strB l[j].key)) := by rw [ey, Array.getElem?_append_left (by simp)]; rfl
   have k1 : ∀ (i : Nat) (u : Value), xv[i]? = some u → cs[1 + i]? = some u := fun i u hu => by rw [ex, Array.getElem?_append_right (by simp)]; simpa using hu
   have l1 : ∀ (i : Nat) (u : Value), yv[i]? = some u → ds[1 + i]? = some u := fun i u hu => by rw [ey, Array.getElem?_append_right (by simp)]; simpa using hu
   have p0 := Kai HI.out (ltOf (hc 0 _ k0)) (hc 0 _ k0)
   have q0 := Kai HI.out (ltOf (hc2 0 _ l0)) (hc2 0 _ l0)
   have hlx := fun W (g : Below wr.heap.size wr W) => StT.load (P := Tryz.prog) (g := b) (o := of + j * 7 + 1) (W := W) Ka9 (Kdq.size hvx) fun i u hu => by rw [Nat.add_assoc]; exact Kai (Kaa HI.out g) (ltOf (hc _ u (k1 i u hu))) (hc _ u (k1 i u hu))
   have hly := fun W (g : Below wr.heap.size wr W) => StT.load (P := Tryz.prog) (g := b2) (o := of2 + j * 7 + 1) (W := W) Ka9 (Kdq.size hvy) fun i u hu => by rw [Nat.add_assoc]; exact Kai (Kaa HI.out g) (ltOf (hc2 _ u (l1 i u hu))) (hc2 _ u (l1 i u hu))
   have hcall := fun W (g : Below wr.heap.size wr W) => alikeR_any l[j].val W xv yv (hvx.below (Kaa HI.out g)) (hvy.below (Kaa HI.out g))
   rw [Nat.add_zero] at p0 q0
   have hes := eqs_self l[j].key
   have hS0 : Below wr.heap.size wr wr.drew := (Below.refl _ _).drew
   have hia : ∀ W' : World, (Instr.indexAt 68 (.slice (some ⟨b, of, none⟩) l.length c) (.int .i64 (j : Int))).run Tryz.prog W' = .ok (.pointer (some ⟨b, of + j * 7, none⟩)) W' := by intro W'; simp [go_sem, hlt]
   have hia2 : ∀ W' : World, (Instr.indexAt 68 (.slice (some ⟨b2, of2, none⟩) l.length c2) (.int .i64 (j : Int))).run Tryz.prog W' = .ok (.pointer (some ⟨b2, of2 + j * 7, none⟩)) W' := by intro W'; simp [go_sem, hlt]
   have hf0 : ∀ (b o : Nat) (W' : World), (Instr.fieldAt 136 (.pointer (some ⟨b, o, none⟩)) 0).run Tryz.prog W' = .ok (.pointer (some ⟨b, o, none⟩)) W' := by intro b o W'; simp [go_sem]
   have hf1 : ∀ (b o : Nat) (W' : World), (Instr.fieldAt 136 (.pointer (some ⟨b, o, none⟩)) 1).run Tryz.prog W' = .ok (.pointer (some ⟨b, o + 1, none⟩)) W' := by intro b o W'; simp [go_sem]
   have HX := Lib.hid (And.intro hes (And.intro hia (And.intro hia2 (And.intro hf0 (And.intro hf1 (And.intro p0 (And.intro q0 (And.intro hlx (And.intro hly (And.intro hcall hS0))))))))))
   clear hes hia hia2 hf0 hf1 p0 q0 hlx hly hcall hS0 ex ey hvx hvy hkx hky k0 k1 l0 l1 hs hs2 hc hc2
   generalize strB l[j].key = s1 at *
   go_wp2
   obtain ⟨hes, hia, hia2, hf0, hf1, p0, q0, hlx, hly, hcall, hS0⟩ := HX.out
   refine Kah (fun W => Below wr.heap.size wr W) (by kernel_rfl) hS0 (fun hS => ?_)
   refine tk 0 17 (v := .slice (some ⟨b, of, none⟩) l.length c) rfl rfl (fun W hW => Kag rfl rfl) ?_
   simp only [Act.put, sA, sZ, sS]
   refine tk 1 18 (v := .int .i64 (j : Int)) rfl rfl (fun W hW => Kag rfl rfl) ?_
   simp only [Act.put, sA, sZ, sS]
   refine tk 2 19 (v := .pointer (some ⟨b, of + j * 7, none⟩)) rfl rfl (fun W hW => Kam rfl rfl rfl (hia W)) ?_
   simp only [Act.put, sA, sZ, sS]
   refine tk 3 20 (v := .pointer (some ⟨b, of + j * 7, none⟩)) rfl rfl (fun W hW => Kac rfl rfl (hf0 _ _ W)) ?_
   simp only [Act.put, sA, sZ, sS]
   refine tk 4 21 (v := .string s1) rfl rfl (fun W hW => Kae rfl rfl (Kal (w := W) Tryz.underlying9 rfl (Kai hW (ltOf p0) p0))) ?_
   simp only [Act.put, sA, sZ, sS]
   refine tk 5 22 (v := .slice (some ⟨b2, of2, none⟩) l.length c2) rfl rfl (fun W hW => Kag rfl rfl) ?_
   simp only [Act.put, sA, sZ, sS]
   refine tk 6 23 (v := .int .i64 (j : Int)) rfl rfl (fun W hW => Kag rfl rfl) ?_
   simp only [Act.put, sA, sZ, sS]
   refine tk 7 24 (v := .pointer (some ⟨b2, of2 + j * 7, none⟩)) rfl rfl (fun W hW => Kam rfl rfl rfl (hia2 W)) ?_
   simp only [Act.put, sA, sZ, sS]
   refine tk 8 25 (v := .pointer (some ⟨b2, of2 + j * 7, none⟩)) rfl rfl (fun W hW => Kac rfl rfl (hf0 _ _ W)) ?_
   simp only [Act.put, sA, sZ, sS]
   refine tk 9 26 (v := .string s1) rfl rfl (fun W hW => Kae rfl rfl (Kal (w := W) Tryz.underlying9 rfl (Kai hW (ltOf q0) q0))) ?_
   simp only [Act.put, sA, sZ, sS]
   refine tk 10 27 (v := .bool false) rfl rfl (fun W hW => Kdw rfl rfl rfl (hes W)) ?_
   simp only [Act.put, sA, sZ, sS]
   refine tk 11 28 (v := .bool false) rfl rfl (fun W hW => Kag rfl rfl) ?_
   simp only [Act.put, sA, sZ, sS]
   refine tk 12 29 (v := .slice (some ⟨b, of, none⟩) l.length c) rfl rfl (fun W hW => Kag rfl rfl) ?_
   simp only [Act.put, sA, sZ, sS]
   refine tk 13 30 (v := .int .i64 (j : Int)) rfl rfl (fun W hW => Kag rfl rfl) ?_
   simp only [Act.put, sA, sZ, sS]
   refine tk 14 31 (v := .pointer (some ⟨b, of + j * 7, none⟩)) rfl rfl (fun W hW => Kam rfl rfl rfl (hia W)) ?_
   simp only [Act.put, sA, sZ, sS]
   refine tk 15 32 (v := .pointer (some ⟨b, of + j * 7 + 1, none⟩)) rfl rfl (fun W hW => Kac rfl rfl (hf1 _ _ W)) ?_
   simp only [Act.put, sA, sZ, sS]
   refine tk 16 33 (v := .agg xv) rfl rfl (fun W hW => Kae rfl rfl (hlx W hW)) ?_
   simp only [Act.put, sA, sZ, sS]
   refine tk 17 34 (v := .slice (some ⟨b2, of2, none⟩) l.length c2) rfl rfl (fun W hW => Kag rfl rfl) ?_
   simp only [Act.put, sA, sZ, sS]
   refine tk 18 35 (v := .int .i64 (j : Int)) rfl rfl (fun W hW => Kag rfl rfl) ?_
   simp only [Act.put, sA, sZ, sS]
   refine tk 19 36 (v := .pointer (some ⟨b2, of2 + j * 7, none⟩)) rfl rfl (fun W hW => Kam rfl rfl rfl (hia2 W)) ?_
   simp only [Act.put, sA, sZ, sS]
   refine tk 20 37 (v := .pointer (some ⟨b2, of2 + j * 7 + 1, none⟩)) rfl rfl (fun W hW => Kac rfl rfl (hf1 _ _ W)) ?_
   simp only [Act.put, sA, sZ, sS]
   refine tk 21 38 (v := .agg yv) rfl rfl (fun W hW => Kae rfl rfl (hly W hW)) ?_
   simp only [Act.put, sA, sZ, sS]
   refine Kaw 22 39 rfl rfl (by kernel_rfl) rfl (Kau [.agg xv, .agg yv] rfl rfl Tryz.func25 (by kernel_rfl) (by kernel_rfl)) ?_
   refine (hcall _ hS).mono ?_
   rintro e ww ⟨rfl, hbw⟩
   have hSw := Kaa hS hbw
   refine ⟨_, rfl, .inr hSw, ?_⟩
   simp only [Act.put, sA, sZ, sS]
   refine tk 23 40 (v := .bool false) rfl rfl (fun W hW => Kay (b := true) rfl rfl) ?_
   simp only [Act.put, sA, sZ, sS]
   refine tk 24 41 (v := .bool false) rfl rfl (fun W hW => rfl) ?_
   simp only [Act.put, sA, sZ, sS]
   refine done (by kernel_rfl) ?_ _
   have HF := Lib.hid (Kaa HI.out hSw)
   clear hes hia hia2 hf0 hf1 p0 q0 hlx hly hcall hS0 HX hS hSw hbw
   go_wp2
   go_roundw
   case rel => exact ⟨j + 1, hlt1, by go_num, HF⟩
   case measure => simp [intOf]; omega
  ·obtain rfl : j = l.length := by omega
   go_wp2
   go_ret
   exact ⟨rfl, HI.out⟩
theorem lnode_any {w : World} {a : NodeD} {x y : Array Value} (ha : NRd w a x) (hb : NRd w a y) : Calls Tryz.prog 61 #[.agg x, .agg y] w fun e w' => e = .returned (.bool true) ∧ Below w.heap.size w w' := by
 obtain ⟨pl, cl, pp, cp, rfl, hl, hp⟩ := ha
 obtain ⟨ql, dl, qp, dp, rfl, hl2, hp2⟩ := hb
 have hb1 := Kaf (w := w) (.cells #[.int .i64 a.id, .slice pl a.labels.length cl, .slice pp a.props.length cp] 70)
 have hb2 := Kaf (w := w.alloc (.cells #[.int .i64 a.id, .slice pl a.labels.length cl, .slice pp a.props.length cp] 70)) (.cells #[.int .i64 a.id, .slice ql a.labels.length dl, .slice qp a.props.length dp] 70)
 have hbc : Below w.heap.size w ((w.alloc (.cells #[.int .i64 a.id, .slice pl a.labels.length cl, .slice pp a.props.length cp] 70)).alloc (.cells #[.int .i64 a.id, .slice ql a.labels.length dl, .slice qp a.props.length dp] 70)) := Kaa hb1 hb2
 have hx8 := Kao hb2 (by simp) (heap_alloc_new w (.cells #[.int .i64 a.id, .slice pl a.labels.length cl, .slice pp a.props.length cp] 70))
 have hx9 := heap_alloc_new (w.alloc (.cells #[.int .i64 a.id, .slice pl a.labels.length cl, .slice pp a.props.length cp] 70)) (.cells #[.int .i64 a.id, .slice ql a.labels.length dl, .slice qp a.props.length dp] 70)
 have zi := Kei a.id
 have z1 : (a.labels.length : Int) ≤ 140737488355328 := by have := hl.2.1.1; omega
 have zz := Kei (a.labels.length : Int)
 have HP := Lib.hid (lprops_any (hp.below (fun h => h.below hbc) hbc) (hp2.below (fun h => h.below hbc) hbc))
 have HX8 := Lib.hid hx8
 have HX9 := Lib.hid (show ((w.alloc (.cells #[.int .i64 a.id, .slice pl a.labels.length cl, .slice pp a.props.length cp] 70)).alloc (.cells #[.int .i64 a.id, .slice ql a.labels.length dl, .slice qp a.props.length dp] 70)).heap[w.heap.size + 1]? = some (.cells #[.int .i64 a.id, .slice ql a.labels.length dl, .slice qp a.props.length dp] 70 (0, 0)) from by simpa only [World.size_alloc] using hx9)
 have p0 := Kab (o := 0) HX8.out rfl
 have q0 := Kab (o := 0) HX9.out rfl
 have p1 := Kab (o := 1) HX8.out rfl
 have q1 := Kab (o := 1) HX9.out rfl
 have p2 := Kab (o := 2) HX8.out rfl
 have q2 := Kab (o := 2) HX9.out rfl
 have hlt9 : w.heap.size + 1 < ((w.alloc (.cells #[.int .i64 a.id, .slice pl a.labels.length cl, .slice pp a.props.length cp] 70)).alloc (.cells #[.int .i64 a.id, .slice ql a.labels.length dl, .slice qp a.props.length dp] 70)).heap.size := by simp
 have HB := Lib.hid (And.intro hbc hlt9)
 have HL := Lib.hid (hl.below hbc)
 have HL2 := Lib.hid (hl2.below hbc)
 clear hb1 hb2 hbc hx8 hx9 hl hl2 hp hp2 hlt9
 go_enter Tryz.func61, Tryz.ntmps61
 go_wp2_with (first
  | (go_at_call 112
     (
      refine HP.out.mono ?_
      rintro e W2 ⟨rfl, hbw⟩
      have HF := Lib.hid hbw
      clear hbw HP)))
 clear p0 p1 p2 q0 q1 q2
 generalize (w.alloc (.cells #[.int .i64 a.id, .slice pl a.labels.length cl, .slice pp a.props.length cp] 70)).alloc (.cells #[.int .i64 a.id, .slice ql a.labels.length dl, .slice qp a.props.length dp] 70) = W0 at *
 go_loopw [5] (fun i W => ∃ j : Nat, j ≤ a.labels.length ∧ i = .int .i64 (j : Int) ∧ Hid (Below W0.heap.size W0 W)) (fun i _ => a.labels.length - (intOf i).toNat)
 case atStart => exact ⟨0, Nat.zero_le _, rfl, HF⟩
 case round =>
  obtain ⟨j, hj, rfl, HI⟩ := hrel
  have p1 := Kab (o := 1) (Kao HI.out (Nat.lt_of_succ_lt HB.out.2) HX8.out) rfl
  have q1 := Kab (o := 1) (Kao HI.out HB.out.2 HX9.out) rfl
  by_cases hlt : j < a.labels.length
  ·have hlt1 : j + 1 ≤ a.labels.length := hlt
   obtain ⟨b, of, rfl, hc, _⟩ := (HL.out.below HI.out).get hlt
   obtain ⟨b2, of2, rfl, hc2, _⟩ := (HL2.out.below HI.out).get hlt
   have hes := eqs_self a.labels[j]
   generalize strB a.labels[j] = s1 at *
   have hS0 : Below wr.heap.size wr wr.drew := (Below.refl _ _).drew
   have hg1 : ∀ (b : Nat) (W' : World), (Instr.fieldAt 70 (.pointer (some ⟨b, 0, none⟩)) 1).run Tryz.prog W' = .ok (.pointer (some ⟨b, 1, none⟩)) W' := by intro b W'; simp [go_sem]
   have hia : ∀ (b of c : Nat) (W' : World), (Instr.indexAt 45 (.slice (some ⟨b, of, none⟩) a.labels.length c) (.int .i64 (j : Int))).run Tryz.prog W' = .ok (.pointer (some ⟨b, of + j, none⟩)) W' := by intro b of c W'; simp [go_sem, hlt]
   have HX := Lib.hid (And.intro hes (And.intro hS0 (And.intro hg1 (And.intro hia (And.intro p1 (And.intro q1 (And.intro hc hc2)))))))
   clear hes hS0 hg1 hia hc hc2
   go_wp2
   obtain ⟨hes, hS0, hg1, hia, p1, q1, hc, hc2⟩ := HX.out
   refine Kah (fun W => Below wr.heap.size wr W) (by kernel_rfl) hS0 (fun hS => ?_)
   refine tk 0 35 (v := .pointer (some ⟨w.heap.size, 1, none⟩)) rfl rfl (fun W hW => Kac rfl rfl (hg1 _ W)) ?_
   simp only [Act.put, sA, sZ, sS]
   refine tk 1 36 (v := .slice (some ⟨b, of, none⟩) a.labels.length cl) rfl rfl (fun W hW => Kae rfl rfl (Kal (w := W) Tryz.underlying45 rfl (Kai hW (ltOf p1) p1))) ?_
   simp only [Act.put, sA, sZ, sS]
   refine tk 2 37 (v := .int .i64 (j : Int)) rfl rfl (fun W hW => Kag rfl rfl) ?_
   simp only [Act.put, sA, sZ, sS]
   refine tk 3 38 (v := .pointer (some ⟨b, of + j, none⟩)) rfl rfl (fun W hW => Kam rfl rfl rfl (hia _ _ _ W)) ?_
   simp only [Act.put, sA, sZ, sS]
   refine tk 4 39 (v := .string s1) rfl rfl (fun W hW => Kae rfl rfl (Kal (w := W) Tryz.underlying9 rfl (Kai hW (ltOf hc) hc))) ?_
   simp only [Act.put, sA, sZ, sS]
   refine tk 5 40 (v := .pointer (some ⟨w.heap.size + 1, 1, none⟩)) rfl rfl (fun W hW => Kac rfl rfl (hg1 _ W)) ?_
   simp only [Act.put, sA, sZ, sS]
   refine tk 6 41 (v := .slice (some ⟨b2, of2, none⟩) a.labels.length dl) rfl rfl (fun W hW => Kae rfl rfl (Kal (w := W) Tryz.underlying45 rfl (Kai hW (ltOf q1) q1))) ?_
   simp only [Act.put, sA, sZ, sS]
   refine tk 7 42 (v := .int .i64 (j : Int)) rfl rfl (fun W hW => Kag rfl rfl) ?_
   simp only [Act.put, sA, sZ, sS]
   refine tk 8 43 (v := .pointer (some ⟨b2, of2 + j, none⟩)) rfl rfl (fun W hW => Kam rfl rfl rfl (hia _ _ _ W)) ?_
   simp only [Act.put, sA, sZ, sS]
   refine tk 9 44 (v := .string s1) rfl rfl (fun W hW => Kae rfl rfl (Kal (w := W) Tryz.underlying9 rfl (Kai hW (ltOf hc2) hc2))) ?_
   simp only [Act.put, sA, sZ, sS]
   refine tk 10 45 (v := .bool false) rfl rfl (fun W hW => Kdw rfl rfl rfl (hes W)) ?_
   simp only [Act.put, sA, sZ, sS]
   refine done (by kernel_rfl) ?_ _
   have HF2 := Lib.hid (Kaa HI.out hS)
   clear hes hS0 hg1 hia hc hc2 p1 q1 HX hS
   go_wp2
   go_roundw
   case rel => exact ⟨j + 1, hlt1, by go_num, HF2⟩
   case measure => simp [intOf]; omega
  ·obtain rfl : j = a.labels.length := by omega
   go_wp2
   go_ret
   exact ⟨rfl, Kaa HB.out.1 HI.out⟩
theorem lrel_any {w : World} {a : RelD} {x y : Array Value} (ha : RRd w a x) (hb : RRd w a y) : Calls Tryz.prog 62 #[.agg x, .agg y] w fun e w' => e = .returned (.bool true) ∧ Below w.heap.size w w' := by
 obtain ⟨pp, cp, rfl, hty, hp⟩ := ha
 obtain ⟨qp, dp, rfl, hty2, hp2⟩ := hb
 have hb1 := Kaf (w := w) (.cells #[.int .i64 a.id, .int .i64 a.src, .int .i64 a.dst, .string (strB a.type), .slice pp a.props.length cp] 72)
 have hb2 := Kaf (w := w.alloc (.cells #[.int .i64 a.id, .int .i64 a.src, .int .i64 a.dst, .string (strB a.type), .slice pp a.props.length cp] 72)) (.cells #[.int .i64 a.id, .int .i64 a.src, .int .i64 a.dst, .string (strB a.type), .slice qp a.props.length dp] 72)
 have hbc : Below w.heap.size w ((w.alloc (.cells #[.int .i64 a.id, .int .i64 a.src, .int .i64 a.dst, .string (strB a.type), .slice pp a.props.length cp] 72)).alloc (.cells #[.int .i64 a.id, .int .i64 a.src, .int .i64 a.dst, .string (strB a.type), .slice qp a.props.length dp] 72)) := Kaa hb1 hb2
 have hx8 := Kao hb2 (by simp) (heap_alloc_new w (.cells #[.int .i64 a.id, .int .i64 a.src, .int .i64 a.dst, .string (strB a.type), .slice pp a.props.length cp] 72))
 have hx9 := heap_alloc_new (w.alloc (.cells #[.int .i64 a.id, .int .i64 a.src, .int .i64 a.dst, .string (strB a.type), .slice pp a.props.length cp] 72)) (.cells #[.int .i64 a.id, .int .i64 a.src, .int .i64 a.dst, .string (strB a.type), .slice qp a.props.length dp] 72)
 have hpe := lprops_any (hp.below (fun h => h.below hbc) hbc) (hp2.below (fun h => h.below hbc) hbc)
 have hes : ((strB a.type).toList == (strB a.type).toList) = true := by simp
 have p0 := Kab (o := 0) hx8 rfl
 have q0 := Kab (o := 0) hx9 rfl
 have p1 := Kab (o := 1) hx8 rfl
 have q1 := Kab (o := 1) hx9 rfl
 have p2 := Kab (o := 2) hx8 rfl
 have q2 := Kab (o := 2) hx9 rfl
 have p3 := Kab (o := 3) hx8 rfl
 have q3 := Kab (o := 3) hx9 rfl
 have p4 := Kab (o := 4) hx8 rfl
 have q4 := Kab (o := 4) hx9 rfl
 simp only [World.size_alloc] at q0 q1 q2 q3 q4
 have HPE := Lib.hid hpe
 have HB := Lib.hid hbc
 clear hb1 hb2 hbc hx8 hx9 hpe hp hp2 hty hty2
 generalize strB a.type = s1 at *
 go_enter Tryz.func62, Tryz.ntmps62
 go_wp2_with (go_at_call 112; refine HPE.out.mono ?_; rintro e W3 ⟨rfl, hbw⟩; have HF := Lib.hid (Kaa HB.out hbw); clear hbw HPE)
 go_ret
 exact ⟨rfl, HF.out⟩
theorem lgraph_any {w : World} {a : GraphD} {x y : Array Value} (ha : GrRd w a x) (hb : GrRd w a y) : Calls Tryz.prog 18 #[.agg x, .agg y] w fun e w' => e = .returned (.bool true) ∧ Below w.heap.size w w' := by
 obtain ⟨pn, cn, pr, cr, rfl, hn, hr⟩ := ha
 obtain ⟨qn, dn, qr, dr, rfl, hn2, hr2⟩ := hb
 have hb1 := Kaf (w := w) (.cells #[.slice pn a.nodes.length cn, .slice pr a.rels.length cr, .int .i64 a.nextNode, .int .i64 a.nextRel] 25)
 have hb2 := Kaf (w := w.alloc (.cells #[.slice pn a.nodes.length cn, .slice pr a.rels.length cr, .int .i64 a.nextNode, .int .i64 a.nextRel] 25)) (.cells #[.slice qn a.nodes.length dn, .slice qr a.rels.length dr, .int .i64 a.nextNode, .int .i64 a.nextRel] 25)
 have hbc : Below w.heap.size w ((w.alloc (.cells #[.slice pn a.nodes.length cn, .slice pr a.rels.length cr, .int .i64 a.nextNode, .int .i64 a.nextRel] 25)).alloc (.cells #[.slice qn a.nodes.length dn, .slice qr a.rels.length dr, .int .i64 a.nextNode, .int .i64 a.nextRel] 25)) := Kaa hb1 hb2
 have hx8 := Kao hb2 (by simp) (heap_alloc_new w (.cells #[.slice pn a.nodes.length cn, .slice pr a.rels.length cr, .int .i64 a.nextNode, .int .i64 a.nextRel] 25))
 have hx9 := heap_alloc_new (w.alloc (.cells #[.slice pn a.nodes.length cn, .slice pr a.rels.length cr, .int .i64 a.nextNode, .int .i64 a.nextRel] 25)) (.cells #[.slice qn a.nodes.length dn, .slice qr a.rels.length dr, .int .i64 a.nextNode, .int .i64 a.nextRel] 25)
 have z1 : (a.nodes.length : Int) ≤ 140737488355328 := by have := hn.1.2.1; omega
 have z2 : (a.rels.length : Int) ≤ 140737488355328 := by have := hr.1.2.1; omega
 have zn := Kei (a.nodes.length : Int)
 have zr := Kei (a.rels.length : Int)
 have zk := Kei a.nextNode
 have zl := Kei a.nextRel
 have HX8 := Lib.hid hx8
 have HX9 := Lib.hid (show ((w.alloc (.cells #[.slice pn a.nodes.length cn, .slice pr a.rels.length cr, .int .i64 a.nextNode, .int .i64 a.nextRel] 25)).alloc (.cells #[.slice qn a.nodes.length dn, .slice qr a.rels.length dr, .int .i64 a.nextNode, .int .i64 a.nextRel] 25)).heap[w.heap.size + 1]? = some (.cells #[.slice qn a.nodes.length dn, .slice qr a.rels.length dr, .int .i64 a.nextNode, .int .i64 a.nextRel] 25 (0, 0)) from by simpa only [World.size_alloc] using hx9)
 have p0 := Kab (o := 0) HX8.out rfl
 have q0 := Kab (o := 0) HX9.out rfl
 have p1 := Kab (o := 1) HX8.out rfl
 have q1 := Kab (o := 1) HX9.out rfl
 have p2 := Kab (o := 2) HX8.out rfl
 have q2 := Kab (o := 2) HX9.out rfl
 have p3 := Kab (o := 3) HX8.out rfl
 have q3 := Kab (o := 3) HX9.out rfl
 have hlt9 : w.heap.size + 1 < ((w.alloc (.cells #[.slice pn a.nodes.length cn, .slice pr a.rels.length cr, .int .i64 a.nextNode, .int .i64 a.nextRel] 25)).alloc (.cells #[.slice qn a.nodes.length dn, .slice qr a.rels.length dr, .int .i64 a.nextNode, .int .i64 a.nextRel] 25)).heap.size := by simp
 have HBX := Lib.hid (fun (W : World) (g : Below ((w.alloc (.cells #[.slice pn a.nodes.length cn, .slice pr a.rels.length cr, .int .i64 a.nextNode, .int .i64 a.nextRel] 25)).alloc (.cells #[.slice qn a.nodes.length dn, .slice qr a.rels.length dr, .int .i64 a.nextNode, .int .i64 a.nextRel] 25)).heap.size ((w.alloc (.cells #[.slice pn a.nodes.length cn, .slice pr a.rels.length cr, .int .i64 a.nextNode, .int .i64 a.nextRel] 25)).alloc (.cells #[.slice qn a.nodes.length dn, .slice qr a.rels.length dr, .int .i64 a.nextNode, .int .i64 a.nextRel] 25)) W) => And.intro (Kao g (Nat.lt_of_succ_lt hlt9) HX8.out) (Kao g hlt9 HX9.out))
 have HB := Lib.hid hbc
 have HN := Lib.hid (hn.below (fun h => h.below hbc) hbc)
 have HN2 := Lib.hid (hn2.below (fun h => h.below hbc) hbc)
 have HR := Lib.hid (hr.below (fun h => h.below hbc) hbc)
 have HR2 := Lib.hid (hr2.below (fun h => h.below hbc) hbc)
 clear hb1 hb2 hbc hx8 hx9 hn hn2 hr hr2 hlt9 HX8 HX9
 go_enter Tryz.func18, Tryz.ntmps18
 go_wp2
 clear p0 p1 p2 p3 q0 q1 q2 q3
 generalize (w.alloc (.cells #[.slice pn a.nodes.length cn, .slice pr a.rels.length cr, .int .i64 a.nextNode, .int .i64 a.nextRel] 25)).alloc (.cells #[.slice qn a.nodes.length dn, .slice qr a.rels.length dr, .int .i64 a.nextNode, .int .i64 a.nextRel] 25) = W0 at *
 go_loopw [5] (fun i W => ∃ j : Nat, j ≤ a.nodes.length ∧ i = .int .i64 (j : Int) ∧ Hid (Below W0.heap.size W0 W)) (fun i _ => a.nodes.length - (intOf i).toNat)
 case atStart => exact ⟨0, Nat.zero_le _, rfl, Lib.hid (Below.refl _ _)⟩
 case round =>
  obtain ⟨j, hj, rfl, HI⟩ := hrel
  have p := HBX.out _ HI.out
  have p0 := Kab (o := 0) p.1 rfl
  have q0 := Kab (o := 0) p.2 rfl
  clear p
  by_cases hlt : j < a.nodes.length
  ·have hlt1 : j + 1 ≤ a.nodes.length := hlt
   obtain ⟨b, of, cs, rfl, hs, hc, hv⟩ := HN.out.get hlt
   obtain ⟨b2, of2, ds, rfl, hs2, hc2, hv2⟩ := HN2.out.get hlt
   have hlx := fun W (g : Below wr.heap.size wr W) => StT.load (P := Tryz.prog) (g := b) (o := of + j * 3) (W := W) Kbx hs fun i u hu => Kai (Kaa HI.out g) (ltOf (hc i u hu)) (hc i u hu)
   have hly := fun W (g : Below wr.heap.size wr W) => StT.load (P := Tryz.prog) (g := b2) (o := of2 + j * 3) (W := W) Kbx hs2 fun i u hu => Kai (Kaa HI.out g) (ltOf (hc2 i u hu)) (hc2 i u hu)
   have hcall := fun W (g : Below wr.heap.size wr W) => lnode_any (hv.below (Kaa HI.out g)) (hv2.below (Kaa HI.out g))
   have hS0 : Below wr.heap.size wr wr.drew := (Below.refl _ _).drew
   have hg1 : ∀ (b : Nat) (W' : World), (Instr.fieldAt 25 (.pointer (some ⟨b, 0, none⟩)) 0).run Tryz.prog W' = .ok (.pointer (some ⟨b, 0, none⟩)) W' := by intro b W'; simp [go_sem]
   have hia : ∀ (b of c : Nat) (W' : World), (Instr.indexAt 22 (.slice (some ⟨b, of, none⟩) a.nodes.length c) (.int .i64 (j : Int))).run Tryz.prog W' = .ok (.pointer (some ⟨b, of + j * 3, none⟩)) W' := by intro b of c W'; simp [go_sem, hlt]
   have HX := Lib.hid (And.intro hlx (And.intro hly (And.intro hcall (And.intro hS0 (And.intro hg1 (And.intro hia (And.intro p0 q0)))))))
   clear hlx hly hcall hS0 hg1 hia hs hs2 hc hc2 hv hv2
   generalize a.nodes[j] = nj at *
   go_wp2
   obtain ⟨hlx, hly, hcall, hS0, hg1, hia, p0, q0⟩ := HX.out
   refine Kah (fun W => Below wr.heap.size wr W) (by kernel_rfl) hS0 (fun hS => ?_)
   refine tk 0 44 (v := .pointer (some ⟨w.heap.size, 0, none⟩)) rfl rfl (fun W hW => Kac rfl rfl (hg1 _ W)) ?_
   simp only [Act.put, sA, sZ, sS]
   refine tk 1 45 (v := .slice (some ⟨b, of, none⟩) a.nodes.length cn) rfl rfl (fun W hW => Kae rfl rfl (Kal (w := W) Tryz.underlying22 rfl (Kai hW (ltOf p0) p0))) ?_
   simp only [Act.put, sA, sZ, sS]
   refine tk 2 46 (v := .int .i64 (j : Int)) rfl rfl (fun W hW => Kag rfl rfl) ?_
   simp only [Act.put, sA, sZ, sS]
   refine tk 3 47 (v := .pointer (some ⟨b, of + j * 3, none⟩)) rfl rfl (fun W hW => Kam rfl rfl rfl (hia _ _ _ W)) ?_
   simp only [Act.put, sA, sZ, sS]
   refine tk 4 48 (v := .agg cs) rfl rfl (fun W hW => Kae rfl rfl (hlx W hW)) ?_
   simp only [Act.put, sA, sZ, sS]
   refine tk 5 49 (v := .pointer (some ⟨w.heap.size + 1, 0, none⟩)) rfl rfl (fun W hW => Kac rfl rfl (hg1 _ W)) ?_
   simp only [Act.put, sA, sZ, sS]
   refine tk 6 50 (v := .slice (some ⟨b2, of2, none⟩) a.nodes.length dn) rfl rfl (fun W hW => Kae rfl rfl (Kal (w := W) Tryz.underlying22 rfl (Kai hW (ltOf q0) q0))) ?_
   simp only [Act.put, sA, sZ, sS]
   refine tk 7 51 (v := .int .i64 (j : Int)) rfl rfl (fun W hW => Kag rfl rfl) ?_
   simp only [Act.put, sA, sZ, sS]
   refine tk 8 52 (v := .pointer (some ⟨b2, of2 + j * 3, none⟩)) rfl rfl (fun W hW => Kam rfl rfl rfl (hia _ _ _ W)) ?_
   simp only [Act.put, sA, sZ, sS]
   refine tk 9 53 (v := .agg ds) rfl rfl (fun W hW => Kae rfl rfl (hly W hW)) ?_
   simp only [Act.put, sA, sZ, sS]
   refine Kaw 10 54 rfl rfl (by kernel_rfl) rfl (Kau [.agg cs, .agg ds] rfl rfl Tryz.func61 (by kernel_rfl) (by kernel_rfl)) ?_
   refine (hcall _ hS).mono ?_
   rintro e ww ⟨rfl, hbw⟩
   have hSw := Kaa hS hbw
   refine ⟨_, rfl, .inr hSw, ?_⟩
   simp only [Act.put, sA, sZ, sS]
   refine tk 11 55 (v := .bool false) rfl rfl (fun W hW => Kay (b := true) rfl rfl) ?_
   simp only [Act.put, sA, sZ, sS]
   refine done (by kernel_rfl) ?_ _
   have HF := Lib.hid (Kaa HI.out hSw)
   clear hlx hly hcall hS0 hg1 hia p0 q0 HX hS hSw hbw
   go_wp2
   go_roundw
   case rel => exact ⟨j + 1, hlt1, by go_num, HF⟩
   case measure => simp [intOf]; omega
  ·obtain rfl : j = a.nodes.length := by omega
   go_wp2
   clear p0 q0
   go_loopw [6] (fun i W => ∃ j : Nat, j ≤ a.rels.length ∧ i = .int .i64 (j : Int) ∧ Hid (Below W0.heap.size W0 W)) (fun i _ => a.rels.length - (intOf i).toNat)
   case atStart => exact ⟨0, Nat.zero_le _, rfl, HI⟩
   case round =>
    clear HI
    obtain ⟨j, hj, rfl, HI⟩ := hrel
    have p := HBX.out _ HI.out
    have p0 := Kab (o := 1) p.1 rfl
    have q0 := Kab (o := 1) p.2 rfl
    clear p
    by_cases hlt : j < a.rels.length
    ·have hlt1 : j + 1 ≤ a.rels.length := hlt
     obtain ⟨b, of, cs, rfl, hs, hc, hv⟩ := HR.out.get hlt
     obtain ⟨b2, of2, ds, rfl, hs2, hc2, hv2⟩ := HR2.out.get hlt
     have hlx := fun W (g : Below wr.heap.size wr W) => StT.load (P := Tryz.prog) (g := b) (o := of + j * 5) (W := W) Kc9 hs fun i u hu => Kai (Kaa HI.out g) (ltOf (hc i u hu)) (hc i u hu)
     have hly := fun W (g : Below wr.heap.size wr W) => StT.load (P := Tryz.prog) (g := b2) (o := of2 + j * 5) (W := W) Kc9 hs2 fun i u hu => Kai (Kaa HI.out g) (ltOf (hc2 i u hu)) (hc2 i u hu)
     have hcall := fun W (g : Below wr.heap.size wr W) => lrel_any (hv.below (Kaa HI.out g)) (hv2.below (Kaa HI.out g))
     have hS0 : Below wr.heap.size wr wr.drew := (Below.refl _ _).drew
     have hg1 : ∀ (b : Nat) (W' : World), (Instr.fieldAt 25 (.pointer (some ⟨b, 0, none⟩)) 1).run Tryz.prog W' = .ok (.pointer (some ⟨b, 1, none⟩)) W' := by intro b W'; simp [go_sem]
     have hia : ∀ (b of c : Nat) (W' : World), (Instr.indexAt 23 (.slice (some ⟨b, of, none⟩) a.rels.length c) (.int .i64 (j : Int))).run Tryz.prog W' = .ok (.pointer (some ⟨b, of + j * 5, none⟩)) W' := by intro b of c W'; simp [go_sem, hlt]
     have HX := Lib.hid (And.intro hlx (And.intro hly (And.intro hcall (And.intro hS0 (And.intro hg1 (And.intro hia (And.intro p0 q0)))))))
     clear hlx hly hcall hS0 hg1 hia hs hs2 hc hc2 hv hv2
     generalize a.rels[j] = nj at *
     go_wp2
     obtain ⟨hlx, hly, hcall, hS0, hg1, hia, p0, q0⟩ := HX.out
     refine Kah (fun W => Below wr.heap.size wr W) (by kernel_rfl) hS0 (fun hS => ?_)
     refine tk 0 63 (v := .pointer (some ⟨w.heap.size, 1, none⟩)) rfl rfl (fun W hW => Kac rfl rfl (hg1 _ W)) ?_
     simp only [Act.put, sA, sZ, sS]
     refine tk 1 64 (v := .slice (some ⟨b, of, none⟩) a.rels.length cr) rfl rfl (fun W hW => Kae rfl rfl (Kal (w := W) Tryz.underlying23 rfl (Kai hW (ltOf p0) p0))) ?_
     simp only [Act.put, sA, sZ, sS]
     refine tk 2 65 (v := .int .i64 (j : Int)) rfl rfl (fun W hW => Kag rfl rfl) ?_
     simp only [Act.put, sA, sZ, sS]
     refine tk 3 66 (v := .pointer (some ⟨b, of + j * 5, none⟩)) rfl rfl (fun W hW => Kam rfl rfl rfl (hia _ _ _ W)) ?_
     simp only [Act.put, sA, sZ, sS]
     refine tk 4 67 (v := .agg cs) rfl rfl (fun W hW => Kae rfl rfl (hlx W hW)) ?_
     simp only [Act.put, sA, sZ, sS]
     refine tk 5 68 (v := .pointer (some ⟨w.heap.size + 1, 1, none⟩)) rfl rfl (fun W hW => Kac rfl rfl (hg1 _ W)) ?_
     simp only [Act.put, sA, sZ, sS]
     refine tk 6 69 (v := .slice (some ⟨b2, of2, none⟩) a.rels.length dr) rfl rfl (fun W hW => Kae rfl rfl (Kal (w := W) Tryz.underlying23 rfl (Kai hW (ltOf q0) q0))) ?_
     simp only [Act.put, sA, sZ, sS]
     refine tk 7 70 (v := .int .i64 (j : Int)) rfl rfl (fun W hW => Kag rfl rfl) ?_
     simp only [Act.put, sA, sZ, sS]
     refine tk 8 71 (v := .pointer (some ⟨b2, of2 + j * 5, none⟩)) rfl rfl (fun W hW => Kam rfl rfl rfl (hia _ _ _ W)) ?_
     simp only [Act.put, sA, sZ, sS]
     refine tk 9 72 (v := .agg ds) rfl rfl (fun W hW => Kae rfl rfl (hly W hW)) ?_
     simp only [Act.put, sA, sZ, sS]
     refine Kaw 10 73 rfl rfl (by kernel_rfl) rfl (Kau [.agg cs, .agg ds] rfl rfl Tryz.func62 (by kernel_rfl) (by kernel_rfl)) ?_
     refine (hcall _ hS).mono ?_
     rintro e ww ⟨rfl, hbw⟩
     have hSw := Kaa hS hbw
     refine ⟨_, rfl, .inr hSw, ?_⟩
     simp only [Act.put, sA, sZ, sS]
     refine tk 11 74 (v := .bool false) rfl rfl (fun W hW => Kay (b := true) rfl rfl) ?_
     simp only [Act.put, sA, sZ, sS]
     refine done (by kernel_rfl) ?_ _
     have HF := Lib.hid (Kaa HI.out hSw)
     clear hlx hly hcall hS0 hg1 hia p0 q0 HX hS hSw hbw
     go_wp2
     go_roundw
     case rel => exact ⟨j + 1, hlt1, by go_num, HF⟩
     case measure => simp [intOf]; omega
    ·obtain rfl : j = a.rels.length := by omega
     go_wp2
     go_ret
     exact ⟨rfl, Kaa HB.out HI.out⟩
end Go.Proofs.YthdfedfholmbmaaGreatDoor

namespace Go.Proofs.YthdfedfholmbmaaGreatDoor
def WayG {α : Type} (ok : α → Bool) (enc : α → List UInt8) (b : List UInt8) (v1 : α) (l1 : List UInt8) (b1 : Bool) (o : Option α) : Prop :=
 (b1 = true ∧ o = none) ∨ (b1 = false ∧ 0 < l1.length ∧ o = none) ∨ (b1 = false ∧ l1 = [] ∧ ok v1 = false ∧ o = none) ∨ (b1 = false ∧ l1 = [] ∧ ok v1 = true ∧ enc v1 ≠ b ∧ o = none) ∨ (b1 = false ∧ l1 = [] ∧ ok v1 = true ∧ enc v1 = b ∧ o = some v1)
theorem wayG_of {α : Type} {d : Dec α} {ok : α → Bool} {enc : α → List UInt8} {f : Rs → α × Rs} {b : List UInt8} (h1 : (f (b, false)).2.2 = false → (f (b, false)).2.1 = [] → ok (f (b, false)).1 = true → enc (f (b, false)).1 = b → readW d ok b = some (f (b, false)).1)
 (h2 : ¬ ((f (b, false)).2.2 = false ∧ (f (b, false)).2.1 = [] ∧ ok (f (b, false)).1 = true ∧ enc (f (b, false)).1 = b) → readW d ok b = none) : WayG ok enc b (f (b, false)).1 (f (b, false)).2.1 (f (b, false)).2.2 (readW d ok b) := by
 generalize f (b, false) = r at *
 obtain ⟨v1, l1, b1⟩ := r
 cases b1
 ·cases l1 with
  | cons c r => exact .inr (.inl ⟨rfl, by simp, h2 (by simp)⟩)
  | nil =>
    cases hk : ok v1
    ·exact .inr (.inr (.inl ⟨rfl, rfl, hk, h2 (by simp [hk])⟩))
    ·by_cases he : enc v1 = b
     ·exact .inr (.inr (.inr (.inr ⟨rfl, rfl, hk, he, h1 rfl rfl hk he⟩)))
     ·exact .inr (.inr (.inr (.inl ⟨rfl, rfl, hk, he, h2 (by simp [he])⟩)))
 ·exact .inl ⟨rfl, h2 (by simp)⟩
theorem way_graph {b : List UInt8} (hl : b.length ≤ 3000) : WayG okG Kb8 b (Kc1 (b, false)).1 (Kc1 (b, false)).2.1 (Kc1 (b, false)).2.2 (readW Kc8 okG b) := by
 obtain ⟨h1, h2⟩ := read_doc (ok := okG) (b := b) rt_graph df_graph ds_graph (fun x h r t => Kee h r (by omega))
 unfold docOk at h1 h2
 exact wayG_of (fun a1 a2 a3 a4 => h1 ⟨a1, a2, a3, a4⟩) h2
end Go.Proofs.YthdfedfholmbmaaGreatDoor

namespace Go.Proofs.YthdfedfholmbmaaGreatDoor
open Go.RowKit
theorem graphZ_rd (W : World) : GrRd W graphZ #[.slice none 0 0, .slice none 0 0, .int .i64 0, .int .i64 0] := (graphZ_own (P := fun _ => True)).rd (by simp [graphZ, totG])
theorem errG_no : errG false = 2 := rfl
theorem errG_yes : errG true = 0 := rfl
theorem graphC_small {v : GraphD} (hr : rngG v) (ht : totG v ≤ 3000) : (Kb8 v).length ≤ 800000 := by have := graphC_len hr (by omega); omega
theorem cgraphs_any {w : World} (hE : Env w) {v : GraphD} {x : Array Value} (hx : GrRd w v x) (hr1 : rngG v) {p : Option Addr} {c : Nat} {bs0 : List UInt8} (hrb : RdB w (.slice p bs0.length c) bs0) :
 Calls Tryz.prog 3 #[.agg x, .slice p bs0.length c] w fun e w' => e = .returned (.bool true) ∧ Below w.heap.size w w' := by
 have z1 := Kdn hrb
 have hxs := ef_graph.size hx
 have hb1 := Kaf (w := w) (.cells x 25)
 have HBX1 := Lib.hid (show Lies w.heap.size 25 x (w.alloc (.cells x 25)) from heap_alloc_new w (.cells x 25))
 have HCUR := Lib.hid hb1
 have HE := Lib.hid hE
 have HZ1 := Lib.hid (fun W (g : Below w.heap.size w W) => smallG_any (hx.below g))
 have HRB := Lib.hid (hrb.below hb1)
 by_cases ht1 : totG v ≤ 3000
 rotate_left
 ·clear hx hrb hb1 hE hr1
  go_enter Tryz.func3, Tryz.ntmps3
  go_wp2_with (first
   | ((with_reducible apply Kan); exact HBX1.out.get hxs; exact rfl)
   | ((with_reducible apply Kd0); exact HBX1.out.get hxs; exact rfl; exact rfl)
   | (go_at_call 9
      (
       refine (HZ1.out _ HCUR.out).mono ?_
       rintro e W1 ⟨s, rfl, hs, hb1⟩
       obtain rfl : s = false := by cases s; rfl; exact absurd (hs rfl) ht1
       replace HCUR := Lib.hid (Kaa HCUR.out hb1)
       try replace HBX1 := Lib.hid (HBX1.out.below hb1)
       try replace HRB := Lib.hid (HRB.out.below hb1)
       clear HZ1 hs hb1
  ))
   | (go_at_call 10
      (
       refine (worksG_any (HE.out.b HCUR.out)).mono ?_
       rintro e W13 ⟨rfl, hb13⟩
       replace HCUR := Lib.hid (Kaa HCUR.out hb13)
       clear hb13)))
  all_goals
   go_ret
   exact ⟨rfl, HCUR.out⟩
 by_cases hbl : bs0.length ≤ 3000
 rotate_left
 ·have hbi : (3000 : Int) < (bs0.length : Int) := by omega
  clear hx hrb hb1 hE hr1
  go_enter Tryz.func3, Tryz.ntmps3
  go_wp2_with (first
   | ((with_reducible apply Kan); exact HBX1.out.get hxs; exact rfl)
   | ((with_reducible apply Kd0); exact HBX1.out.get hxs; exact rfl; exact rfl)
   | (go_at_call 9
      (
       refine (HZ1.out _ HCUR.out).mono ?_
       rintro e W1 ⟨s, rfl, hs, hb1⟩
       skip
       replace HCUR := Lib.hid (Kaa HCUR.out hb1)
       try replace HBX1 := Lib.hid (HBX1.out.below hb1)
       try replace HRB := Lib.hid (HRB.out.below hb1)
       clear HZ1 hs hb1
       cases s
  ))
   | (go_at_call 10
      (
       refine (worksG_any (HE.out.b HCUR.out)).mono ?_
       rintro e W13 ⟨rfl, hb13⟩
       replace HCUR := Lib.hid (Kaa HCUR.out hb13)
       clear hb13)))
  all_goals
   go_ret
   exact ⟨rfl, HCUR.out⟩
 have hbi : ¬ (3000 : Int) < (bs0.length : Int) := by omega
 have HC1 := Lib.hid (fun W (g : Below w.heap.size w W) => codecGraph_any (hE.b g) (hx.below g) hr1 (by omega))
 have HK1 := Lib.hid (fun W (g : Below w.heap.size w W) => Kcd (hE.b g) (hx.below g) (by omega))
 have HR2 := Lib.hid (fun W (g : Below w.heap.size w W) (p : Option Addr) (c : Nat) (hd : RdB W (.slice p bs0.length c) bs0) => readPub_G (hE.b g) hd (by omega))
 have hwl := graphC_small hr1 ht1
 have hdv : okG v = true → Hid (∀ W, Below w.heap.size w W → Calls Tryz.prog 15 #[.agg x] W fun e w' => ∃ o, e = .returned o ∧ Buf W w' o (Kb8 v)) := fun h => Lib.hid fun W g => dgraph_any (hx.below g) (Kee h hr1 (by omega)) (by omega)
 have hway := way_graph hbl
 have hrng : rngG (Kc1 (bs0, false)).1 := ds_graph.rng _
 have hsiz := ds_graph.size (bs0, false)
 have HVR := Lib.hid (fun (w : World) W q (hd : DSt 40 w W q bs0 false) => (show Calls Tryz.prog 17 #[.pointer (some ⟨q, 0, none⟩)] W (Docs w W q (Kc1 (bs0, false)) (okGraph W)) from drgraph_any hd (by omega)))
 have hrt : ∀ y, readW Kc8 okG bs0 = some y → totG y ≤ 3000 := fun y h => by have := (readG_tot h).1; omega
 have HT0 : Hid (totG ((readW Kc8 okG bs0).getD graphZ) ≤ 900000) := Lib.hid (by
  cases hr : readW Kc8 okG bs0 with
  | none => exact Nat.le_trans (show totG graphZ ≤ 900000 by simp [graphZ, totG]) (Nat.le_refl _)
  | some y => have := hrt y hr; simp only [Option.getD_some]; omega)
 generalize readW Kc8 okG bs0 = o at *
 generalize Kc1 (bs0, false) = r at *
 obtain ⟨v1, l1, b1⟩ := r
 have HW := Lib.hid (And.intro hway (And.intro hrng hsiz))
 clear hway hrng hsiz hrt
 cases ok1 : okG v
 have hout : outG v = [] := by unfold outG; rw [ok1]; rfl
 rw [ok1, hout, errG_no] at HC1
 rw [ok1, errG_no] at HK1
 clear hdv hx hrb hb1 hE hr1 hout hwl ok1
 rotate_left
 have hout : outG v = Kb8 v := by unfold outG; rw [ok1]; rfl
 have HDV := hdv ok1
 rw [ok1, hout, errG_yes] at HC1
 rw [ok1, errG_yes] at HK1
 generalize Kb8 v = bs1 at *
 clear hdv hx hrb hb1 hE hr1 hout hwl ok1
 all_goals
  go_enter Tryz.func3, Tryz.ntmps3
  go_wp2_with (first
   | ((with_reducible apply Kan); exact HBX1.out.get hxs; exact rfl)
   | ((with_reducible apply Kd0); exact HBX1.out.get hxs; exact rfl; exact rfl)
   | (go_at_call 9
      (
       refine (HZ1.out _ HCUR.out).mono ?_
       rintro e W1 ⟨s, rfl, hs, hb1⟩
       skip
       replace HCUR := Lib.hid (Kaa HCUR.out hb1)
       try replace HBX1 := Lib.hid (HBX1.out.below hb1)
       try replace HRB := Lib.hid (HRB.out.below hb1)
       clear HZ1 hs hb1
       cases s))
   | (go_at_call 10
      (
       refine (worksG_any (HE.out.b HCUR.out)).mono ?_
       rintro e W13 ⟨rfl, hb13⟩
       replace HCUR := Lib.hid (Kaa HCUR.out hb13)
       clear hb13))
   | (go_at_call 11
      (
       refine (HC1.out _ HCUR.out).mono ?_
       rintro e W3 ho
       obtain ⟨p1, c1, rfl, hd1, hb3⟩ := ho.rd
       replace HCUR := Lib.hid (Kaa HCUR.out hb3)
       try replace HBX1 := Lib.hid (HBX1.out.below hb3)
       try replace HRB := Lib.hid (HRB.out.below hb3)
       have HD1 := Lib.hid hd1
       clear HC1 ho hd1 hb3))
   | (go_at_call 13
      (
       refine (HK1.out _ HCUR.out).mono ?_
       rintro e W4 ⟨rfl, hb4⟩
       replace HCUR := Lib.hid (Kaa HCUR.out hb4)
       try replace HD1 := Lib.hid (HD1.out.below hb4)
       try replace HBX1 := Lib.hid (HBX1.out.below hb4)
       try replace HRB := Lib.hid (HRB.out.below hb4)
       clear HK1 hb4))
   | (go_at_call 12; refine (num_err _ _).mono ?_; rintro e w' ⟨rfl, rfl⟩)
   | (go_at_call 15
      (
       refine (HDV.out _ HCUR.out).mono ?_
       rintro e W5 ⟨o5, rfl, hB5⟩
       obtain ⟨p5, c5, rfl⟩ := hB5.shape
       have hb5 := hB5.b
       replace HCUR := Lib.hid (Kaa HCUR.out hb5)
       try replace HD1 := Lib.hid (HD1.out.below hb5)
       try replace HBX1 := Lib.hid (HBX1.out.below hb5)
       try replace HRB := Lib.hid (HRB.out.below hb5)
       have HD5 := Lib.hid hB5.rd
       clear HDV hB5 hb5))
   | (go_at_call 14
      (
       refine (bytes_any HD1.out HD5.out).mono ?_
       rintro e w' ⟨rfl, rfl⟩
       have heq1 : decide (bs1 = bs1) = true := decide_eq_true rfl
       clear HD5 HD1))
   | (go_at_call 16
      (
       refine (HR2.out _ HCUR.out _ _ HRB.out).mono ?_
       rintro e W11 hg
       have HG := Lib.hid hg
       obtain ⟨cs2, rfl, hcs2, hb11⟩ := HG.out
       have HS2 := Lib.hid (Kbq.fresh (P := Tryz.prog) (W := W11) (Kb1.size hcs2) (Kb1.ones hcs2))
       have hcz2 := Kb1.size hcs2
       replace HCUR := Lib.hid (Kaa HCUR.out hb11)
       try replace HBX1 := Lib.hid (HBX1.out.below hb11)
       try replace HRB := Lib.hid (HRB.out.below hb11)
       have HX2 := Lib.hid (hcs2.rd HT0.out)
       clear HR2 HG hg hcs2 hb11))
   | ((with_reducible apply Kad); exact HS2.out _ rfl; exact rfl; exact rfl
      (
       have hbn := Kaf (w := W11) (.cells cs2 25)
       have HBX3 := Lib.hid (show Lies W11.heap.size 25 cs2 (W11.alloc (.cells cs2 25)) from heap_alloc_new W11 _)
       replace HCUR := Lib.hid (Kaa HCUR.out hbn)
       try replace HD1 := Lib.hid (HD1.out.below hbn)
       try replace HX1 := Lib.hid (HX1.out.below hbn)
       try replace HX2 := Lib.hid (HX2.out.below hbn)
       try replace HBX1 := Lib.hid (HBX1.out.below hbn)
       try replace HBX2 := Lib.hid (HBX2.out.below hbn)
       try replace HRB := Lib.hid (HRB.out.below hbn)
       try replace HDS := Lib.hid (HDS.out.below hbn)
       clear hbn HS2
       generalize W11.alloc (.cells cs2 25) = W11n at *
       generalize W11.heap.size = B11 at *)))
  ·go_ret
   exact ⟨rfl, HCUR.out⟩
  have hbx := Kaf (w := W11n) (.cells #[.slice p bs0.length c, .bool false] 40)
  have hbe := heap_alloc_new W11n (.cells #[.slice p bs0.length c, .bool false] 40)
  have HRV := Lib.hid (HVR.out W11n _ W11n.heap.size ⟨hbx, Nat.le_refl _, p, c, hbe, HRB.out⟩)
  obtain ⟨hway, hrng, hsiz⟩ := HW.out
  clear hbx hbe HVR HW
  try clear HBX1
  generalize W11n.alloc (.cells #[.slice p bs0.length c, .bool false] 40) = W12 at *
  have hcz2 := hcz2
  rcases hway with ⟨rfl, rfl⟩ | ⟨rfl, hl1, rfl⟩ | ⟨rfl, rfl, hk1, rfl⟩ | ⟨rfl, rfl, hk1, hne, rfl⟩ | ⟨rfl, rfl, hk1, he, rfl⟩
  clear hsiz hrng
  rotate_left
  have ht1 : totG v1 ≤ 900000 := by have := hsiz rfl; omega
  have hli : (0 : Int) < (l1.length : Int) := by omega
  clear hsiz hrng
  rotate_left
  have ht1 : totG v1 ≤ 900000 := by have := hsiz rfl; omega
  have HK2 := Lib.hid (fun W (g : Below w.heap.size w W) (z : Array Value) (hz : GrRd W v1 z) => Kcd (HE.out.b g) hz (by omega))
  rw [hk1, errG_no] at HK2
  clear hsiz hrng hk1
  rotate_left
  have ht0 : totG v1 ≤ 3000 := by have := hsiz rfl; omega
  have ht1 : totG v1 ≤ 900000 := by omega
  have HK2 := Lib.hid (fun W (g : Below w.heap.size w W) (z : Array Value) (hz : GrRd W v1 z) => Kcd (HE.out.b g) hz (by omega))
  rw [hk1, errG_yes] at HK2
  have hvl := graphC_small hrng ht0
  have HDV2 := Lib.hid (fun W (z : Array Value) (hz : GrRd W v1 z) => dgraph_any hz (Kee hk1 hrng (by omega)) (by omega))
  have hnd : decide (Kb8 v1 = bs0) = false := decide_eq_false hne
  generalize Kb8 v1 = bs2 at *
  clear hsiz hrng hk1 ht0 hvl hne
  rotate_left
  have ht0 : totG v1 ≤ 3000 := by have := hsiz rfl; omega
  have ht1 : totG v1 ≤ 900000 := by omega
  have HK2 := Lib.hid (fun W (g : Below w.heap.size w W) (z : Array Value) (hz : GrRd W v1 z) => Kcd (HE.out.b g) hz (by omega))
  rw [hk1, errG_yes] at HK2
  have hvl := graphC_small hrng ht0
  have HDV2 := Lib.hid (fun W (z : Array Value) (hz : GrRd W v1 z) => dgraph_any hz (Kee hk1 hrng (by omega)) (by omega))
  rw [he] at HDV2
  have hnd : decide (bs0 = bs0) = true := decide_eq_true rfl
  clear hsiz hrng hk1 ht0 hvl he
  rotate_left
  all_goals
   go_wp2_with (first
    | (go_at_call 17
       (
        refine HRV.out.mono ?_
        rintro e W14 ⟨v14, rfl, ⟨cs, rfl, hown⟩, hD, hT⟩
        replace hD : DSt 40 W11n W14 W11n.heap.size _ _ := hD
        replace hown : GrOwn W14 (fun b => W12.heap.size ≤ b) v1 cs := hown
        have hb14 := hD.b
        replace HCUR := Lib.hid (Kaa HCUR.out hb14)
        try replace HX2 := Lib.hid (HX2.out.below hb14)
        try replace HBX3 := Lib.hid (HBX3.out.below hb14)
        try replace HRB := Lib.hid (HRB.out.below hb14)
        have HS3 := Lib.hid (Kbq.fresh (P := Tryz.prog) (W := W14) (Kb1.size hown) (Kb1.ones hown))
        have hcz := Kb1.size hown
        try have HX1 := Lib.hid (hown.rd ht1)
        have HDS := Lib.hid hD
        clear hown hT hD hb14 HRV))
    | ((with_reducible apply Kad); exact HS3.out _ rfl; exact rfl; exact rfl
       (
        have hbn := Kaf (w := W14) (.cells cs 25)
        have HBX2 := Lib.hid (show Lies W14.heap.size 25 cs (W14.alloc (.cells cs 25)) from heap_alloc_new W14 _)
        replace HCUR := Lib.hid (Kaa HCUR.out hbn)
        try replace HD1 := Lib.hid (HD1.out.below hbn)
        try replace HX1 := Lib.hid (HX1.out.below hbn)
        try replace HX2 := Lib.hid (HX2.out.below hbn)
        try replace HBX1 := Lib.hid (HBX1.out.below hbn)
        try replace HBX3 := Lib.hid (HBX3.out.below hbn)
        try replace HRB := Lib.hid (HRB.out.below hbn)
        try replace HDS := Lib.hid (HDS.out.below hbn)
        clear hbn HS3
        generalize W14.alloc (.cells cs 25) = W14n at *
        generalize W14.heap.size = B14 at *
        obtain ⟨pz, cz, m1, m2⟩ := HDS.out.box
        have r0 := Kab (o := 0) m1 rfl
        have r1 := Kab (o := 1) m1 rfl
        clear m1 m2 HDS))
    | ((with_reducible apply Kan); exact HBX2.out.get hcz; exact rfl)
    | ((with_reducible apply Kd0); exact HBX2.out.get hcz; exact rfl; exact rfl)
    | ((with_reducible apply Kan); exact HBX3.out.get hcz2; exact rfl)
    | ((with_reducible apply Kd0); exact HBX3.out.get hcz2; exact rfl; exact rfl)
    | (go_at_call 13
       (
        refine (HK2.out _ HCUR.out _ HX1.out).mono ?_
        rintro e W15 ⟨rfl, hb15⟩
        replace HCUR := Lib.hid (Kaa HCUR.out hb15)
        try replace HX1 := Lib.hid (HX1.out.below hb15)
        try replace HX2 := Lib.hid (HX2.out.below hb15)
        try replace HBX2 := Lib.hid (HBX2.out.below hb15)
        try replace HBX3 := Lib.hid (HBX3.out.below hb15)
        try replace HRB := Lib.hid (HRB.out.below hb15)
        clear HK2 hb15))
    | (go_at_call 15
       (
        refine (HDV2.out _ _ HX1.out).mono ?_
        rintro e W16 ⟨o16, rfl, hB16⟩
        obtain ⟨p16, c16, rfl⟩ := hB16.shape
        have hb16 := hB16.b
        replace HCUR := Lib.hid (Kaa HCUR.out hb16)
        try replace HX1 := Lib.hid (HX1.out.below hb16)
        try replace HX2 := Lib.hid (HX2.out.below hb16)
        try replace HBX2 := Lib.hid (HBX2.out.below hb16)
        try replace HBX3 := Lib.hid (HBX3.out.below hb16)
        try replace HRB := Lib.hid (HRB.out.below hb16)
        have HD16 := Lib.hid hB16.rd
        clear HDV2 hB16 hb16))
    | (go_at_call 14
       (
        refine (bytes_any HD16.out HRB.out).mono ?_
        rintro e w' ⟨rfl, rfl⟩
        clear HD16))
    | (go_at_call 12; refine (num_err _ _).mono ?_; rintro e w' ⟨rfl, rfl⟩)
    | (go_at_call 18
       (
        first
         | refine (lgraph_any HX2.out HX1.out).mono ?_
         | refine (lgraph_any HX2.out (graphZ_rd _)).mono ?_
        rintro e W17 ⟨rfl, hb17⟩
        replace HCUR := Lib.hid (Kaa HCUR.out hb17)
        clear hb17))
    | (go_at_call 10
       (
        refine (worksG_any (HE.out.b HCUR.out)).mono ?_
        rintro e W13 ⟨rfl, hb13⟩
        replace HCUR := Lib.hid (Kaa HCUR.out hb13)
        clear hb13)))
   go_ret
   exact ⟨rfl, HCUR.out⟩
end Go.Proofs.YthdfedfholmbmaaGreatDoor

namespace Go.Proofs.YthdfedfholmbmaaGreatDoor
open Go.ChangeShapes Go.WideShapes Go.ChangeAt Go.RowKit Go.Joins
theorem codecGraphs_lifted (os : Os) (started : os.Started) (H : Type) (enc : TypeId × Value → H) :
 ReturnsInHanded {} Tryz.checked os 3 .any (fun w args => (Rows.codecGraphsSpec.pre enc Tryz.prog Tryz.f3 [] false w args ∧ laidMetH Tryz.prog LD w) ∧ sizedMet enc Tryz.prog Tryz.f3 (OpenSpec.ofChange Rows.codecGraphsSpec) false w args)
  (Rows.codecGraphsSpec.post enc Tryz.prog Tryz.f3 false true false false) := by
 refine returns_tied started (by kernel_rfl) Tryz.func3 #[.agg #[.slice none 0 0, .slice none 0 0, .int .i64 0, .int .i64 0], .slice none 0 0] (by kernel_rfl) (by kernel_rfl) (by kernel_rfl) (wit_shape _ _) (wit_laid _ _) ?_
 intro W base args ds gs before hval0 hW hz hE
 have hval : ∀ (j : Nat) t v, Tryz.f3.params[j]? = some t → args[j]? = some v → Value.okWide Tryz.prog W .any base t v := hval0
 have hW' := hW
 obtain ⟨p, q, hA0, hV, rfl, hfz, hnd⟩ := hW
 have hA : DataW.TrodAll enc Tryz.prog W 0 (fun _ => true) true Tryz.f3.params.toList args.toList ds p := hA0
 rw [Tryz.params3] at hA hval
 obtain ⟨v0, vs0, d0, ds0, p0, q0, hargs, rfl, rfl, h0, r0⟩ := trodAll_cons hA
 obtain ⟨v1, vs1, d1, ds1, p1, q1, rfl, rfl, rfl, h1, r1⟩ := trodAll_cons r0
 obtain ⟨rfl, rfl, rfl⟩ := trodAll_nil r1
 obtain ⟨rfl, rfl⟩ := trodVars_none hV
 obtain rfl : args = #[v0, v1] := by cases args; simp_all
 rw [Tryz.params3] at hz
 obtain ⟨z0, z1⟩ := fits_two hz
 obtain ⟨a0, x0, rfl, hx0, hr0⟩ := graph_in (hval 0 25 v0 rfl rfl) h0 z0
 obtain ⟨b1, c1, l1, rfl, hb1⟩ := bytes_in (hval 1 26 v1 rfl rfl) h1
 clear hA0 hval0
 refine (cgraphs_any hE hx0 hr0 hb1).mono fun e W' ⟨he, hg⟩ => ?_
 subst he
 exact ⟨_, rfl, law_post laidT (by decide +kernel) Tryz.underlying4 (by kernel_rfl) rfl hW' rfl hg⟩
theorem codecGraphs_row : Rows.CodecGraphsSaid :=
 OpenClaim.holds_of_wide 3 Tryz.f3 rfl rfl rfl rfl rfl rfl rfl ⟨rfl, rfl, rfl, rfl, rfl⟩ rfl rfl rfl rfl rfl (by kernel_rfl) Tryz.func3 (by kernel_rfl)
  (of_decide_eq_true (by kernel_rfl)) (by unfold Func.isWrapper; first | (rw [if_pos (by decide +kernel)]; kernel_rfl) | (rw [if_neg (by decide +kernel)]; exact ⟨rfl, rfl⟩))
  (fun os started H enc _ => codecGraphs_lifted os started H enc)
theorem cgraphs_law_holds : Rows.CodecGraphsCardSaid :=
 Claim7.holds_tied_plain_at .later [] [.data, .pinned] true (true, "51d6d183f3b9b26ed98afca7791da6a3b37e43a2ee8010f5d16b56af07fe616a") true
  codecGraphs_row (fun _ h => by cases h) (by kernel_rfl) (fun _ h => by cases h) codecGraphs_row_tie rfl ⟨rfl, rfl⟩ (by kernel_rfl) rfl
  (fun f fn hf hfn => by
    obtain rfl : f = 3 := Option.some.inj ((show Tryz.prog.funcNamed "lattice/latticelaw19.CodecGraphs" = some 3 by kernel_rfl).symm.trans hf) |>.symm
    obtain rfl : fn = Tryz.f3 := (Option.some.inj (Tryz.func3.symm.trans hfn)).symm
    exact ⟨by kernel_rfl, fun j t ht => by
     rw [Tryz.params3] at ht
     have hm : t ∈ [25, 26] := by simpa using Array.mem_of_getElem? ht
     have hall : ([25, 26].all fun u => !Tryz.prog.wantsStandIn u) = true := by kernel_rfl
     exact (show Tryz.prog.wantsStandIn t = false by simpa using List.all_eq_true.1 hall t hm)⟩)
  (by kernel_rfl)
#print axioms cgraphs_law_holds
end Go.Proofs.YthdfedfholmbmaaGreatDoor
