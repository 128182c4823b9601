/- CodecChanges: for every changes and every bytes the law returns true, and the arguments read as they did. The listed tables of Go's library read as the program's text lays them. -/
import Derived.Test.YthdfedfholmbmaaGreatDoorZCcha
import Derived.Test.YthdfedfholmbmaaGreatDoorZCchb
import Derived.Test.YthdfedfholmbmaaGreatDoorZCchc
import Derived.Test.YthdfedfholmbmaaGreatDoorZCchd
import Derived.Test.YthdfedfholmbmaaGreatDoorZCche
import Derived.Test.YthdfedfholmbmaaGreatDoorCards
import Derived.Test.YthdfedfholmbmaaGreatDoorTie
set_option linter.unusedSimpArgs false
set_option linter.unusedVariables false
set_option maxRecDepth 100000
set_option maxHeartbeats 64000000
namespace Go.Proofs.YthdfedfholmbmaaGreatDoor
open Go.RowKit
theorem eqs_self (s : List UInt8) (W : World) : (binOp .neq 9 (.string (strB s)) (.string (strB s))).run Tryz.prog W = .ok (.bool false) W := by simp [go_sem]
theorem nei_self (n : Int) : (n != n) = false := by simp
theorem lprops_any {w : World} {p p2 : Option Addr} {c c2 : Nat} {l : List PropD} (h : GRd PRd 7 w p c l) (h2 : GRd PRd 7 w p2 c2 l) : Calls Tryz.prog 112 #[.slice p l.length c, .slice p2 l.length c2] w fun e w' => e = .returned (.bool true) ∧ Below w.heap.size w w' := by
 have z1 : (l.length : Int) ≤ 140737488355328 := by have := h.1.2.1; omega
 have zz := nei_self (l.length : Int)
 have H := yh h
 have H2 := yh h2
 clear h h2
 go_enter Tryz.func112, Tryz.ntmps112
 go_wp2
 go_loopw [5] (fun i W => ∃ j : Nat, j ≤ l.length ∧ i = .int .i64 (j : Int) ∧ Hid (Below w.heap.size w W)) (fun i _ => l.length - (intOf i).toNat)
 case atStart => exact ⟨0, Nat.zero_le _, rfl, yh (Below.refl _ _)⟩
 case round =>
  obtain ⟨j, hj, rfl, HI⟩ := hrel
  by_cases hlt : j < l.length
  ·have hlt1 : j + 1 ≤ l.length := hlt
   obtain ⟨b, of, cs, rfl, hs, hc, hv⟩ := H.out.get hlt
   obtain ⟨b2, of2, ds, rfl, hs2, hc2, hv2⟩ := H2.out.get hlt
   obtain ⟨xv, ex, hkx, hvx⟩ := hv
   obtain ⟨yv, ey, hky, hvy⟩ := hv2
   have k0 : cs[0]? = some (.string (strB l[j].key)) := by rw [ex, Array.getElem?_append_left (by simp)]; rfl
   have l0 : ds[0]? = some (.string (strB l[j].key)) := by rw [ey, Array.getElem?_append_left (by simp)]; rfl
   have k1 : ∀ (i : Nat) (u : Value), xv[i]? = some u → cs[1 + i]? = some u := fun i u hu => by rw [ex, Array.getElem?_append_right (by simp)]; simpa using hu
   have l1 : ∀ (i : Nat) (u : Value), yv[i]? = some u → ds[1 + i]? = some u := fun i u hu => by rw [ey, Array.getElem?_append_right (by simp)]; simpa using hu
   have p0 := Kag HI.out (ltOf (hc 0 _ k0)) (hc 0 _ k0)
   have q0 := Kag HI.out (ltOf (hc2 0 _ l0)) (hc2 0 _ l0)
   have hlx := fun W (g : Below wr.heap.size wr W) => StT.load (P := Tryz.prog) (g := b) (o := of + j * 7 + 1) (W := W) Kbk (Kd8.size hvx) fun i u hu => by rw [Nat.add_assoc]; exact Kag (Kaa HI.out g) (ltOf (hc _ u (k1 i u hu))) (hc _ u (k1 i u hu))
   have hly := fun W (g : Below wr.heap.size wr W) => StT.load (P := Tryz.prog) (g := b2) (o := of2 + j * 7 + 1) (W := W) Kbk (Kd8.size hvy) fun i u hu => by rw [Nat.add_assoc]; exact Kag (Kaa HI.out g) (ltOf (hc2 _ u (l1 i u hu))) (hc2 _ u (l1 i u hu))
   have hcall := fun W (g : Below wr.heap.size wr W) => alikeR_any l[j].val W xv yv (hvx.below (Kaa HI.out g)) (hvy.below (Kaa HI.out g))
   rw [Nat.add_zero] at p0 q0
   have hes := eqs_self l[j].key
   have hS0 : Below wr.heap.size wr wr.drew := (Below.refl _ _).drew
   have hia : ∀ W' : World, (Instr.indexAt 68 (.slice (some ⟨b, of, none⟩) l.length c) (.int .i64 (j : Int))).run Tryz.prog W' = .ok (.pointer (some ⟨b, of + j * 7, none⟩)) W' := by intro W'; simp [go_sem, hlt]
   have hia2 : ∀ W' : World, (Instr.indexAt 68 (.slice (some ⟨b2, of2, none⟩) l.length c2) (.int .i64 (j : Int))).run Tryz.prog W' = .ok (.pointer (some ⟨b2, of2 + j * 7, none⟩)) W' := by intro W'; simp [go_sem, hlt]
   have hf0 : ∀ (b o : Nat) (W' : World), (Instr.fieldAt 136 (.pointer (some ⟨b, o, none⟩)) 0).run Tryz.prog W' = .ok (.pointer (some ⟨b, o, none⟩)) W' := by intro b o W'; simp [go_sem]
   have hf1 : ∀ (b o : Nat) (W' : World), (Instr.fieldAt 136 (.pointer (some ⟨b, o, none⟩)) 1).run Tryz.prog W' = .ok (.pointer (some ⟨b, o + 1, none⟩)) W' := by intro b o W'; simp [go_sem]
   have HX := yh (And.intro hes (And.intro hia (And.intro hia2 (And.intro hf0 (And.intro hf1 (And.intro p0 (And.intro q0 (And.intro hlx (And.intro hly (And.intro hcall hS0))))))))))
   clear hes hia hia2 hf0 hf1 p0 q0 hlx hly hcall hS0 ex ey hvx hvy hkx hky k0 k1 l0 l1 hs hs2 hc hc2
   generalize strB l[j].key = s1 at *
   go_wp2
   obtain ⟨hes, hia, hia2, hf0, hf1, p0, q0, hlx, hly, hcall, hS0⟩ := HX.out
   refine Kao (fun W => Below wr.heap.size wr W) (by kernel_rfl) hS0 (fun hS => ?_)
   refine tk 0 17 (v:=.slice (some ⟨b, of, none⟩) l.length c) rfl rfl (fun W hW=>Kaf rfl rfl) ?_
   simp only[Act.put,sA,sZ,sS]
   refine tk 1 18 (v:=.int .i64 (j : Int)) rfl rfl (fun W hW=>Kaf rfl rfl) ?_
   simp only[Act.put,sA,sZ,sS]
   refine tk 2 19 (v:=.pointer (some ⟨b, of + j * 7, none⟩)) rfl rfl (fun W hW=>Kak rfl rfl rfl (hia W)) ?_
   simp only[Act.put,sA,sZ,sS]
   refine tk 3 20 (v:=.pointer (some ⟨b, of + j * 7, none⟩)) rfl rfl (fun W hW=>Kae rfl rfl (hf0 _ _ W)) ?_
   simp only[Act.put,sA,sZ,sS]
   refine tk 4 21 (v:=.string s1) rfl rfl (fun W hW=>Kah rfl rfl (Kaj (w := W) Tryz.underlying9 rfl (Kag hW (ltOf p0) p0))) ?_
   simp only[Act.put,sA,sZ,sS]
   refine tk 5 22 (v:=.slice (some ⟨b2, of2, none⟩) l.length c2) rfl rfl (fun W hW=>Kaf rfl rfl) ?_
   simp only[Act.put,sA,sZ,sS]
   refine tk 6 23 (v:=.int .i64 (j : Int)) rfl rfl (fun W hW=>Kaf rfl rfl) ?_
   simp only[Act.put,sA,sZ,sS]
   refine tk 7 24 (v:=.pointer (some ⟨b2, of2 + j * 7, none⟩)) rfl rfl (fun W hW=>Kak rfl rfl rfl (hia2 W)) ?_
   simp only[Act.put,sA,sZ,sS]
   refine tk 8 25 (v:=.pointer (some ⟨b2, of2 + j * 7, none⟩)) rfl rfl (fun W hW=>Kae rfl rfl (hf0 _ _ W)) ?_
   simp only[Act.put,sA,sZ,sS]
   refine tk 9 26 (v:=.string s1) rfl rfl (fun W hW=>Kah rfl rfl (Kaj (w := W) Tryz.underlying9 rfl (Kag hW (ltOf q0) q0))) ?_
   simp only[Act.put,sA,sZ,sS]
   refine tk 10 27 (v:=.bool false) rfl rfl (fun W hW=>Ked rfl rfl rfl (hes W)) ?_
   simp only[Act.put,sA,sZ,sS]
   refine tk 11 28 (v:=.bool false) rfl rfl (fun W hW=>Kaf rfl rfl) ?_
   simp only[Act.put,sA,sZ,sS]
   refine tk 12 29 (v:=.slice (some ⟨b, of, none⟩) l.length c) rfl rfl (fun W hW=>Kaf rfl rfl) ?_
   simp only[Act.put,sA,sZ,sS]
   refine tk 13 30 (v:=.int .i64 (j : Int)) rfl rfl (fun W hW=>Kaf rfl rfl) ?_
   simp only[Act.put,sA,sZ,sS]
   refine tk 14 31 (v:=.pointer (some ⟨b, of + j * 7, none⟩)) rfl rfl (fun W hW=>Kak rfl rfl rfl (hia W)) ?_
   simp only[Act.put,sA,sZ,sS]
   refine tk 15 32 (v:=.pointer (some ⟨b, of + j * 7 + 1, none⟩)) rfl rfl (fun W hW=>Kae rfl rfl (hf1 _ _ W)) ?_
   simp only[Act.put,sA,sZ,sS]
   refine tk 16 33 (v:=.agg xv) rfl rfl (fun W hW=>Kah rfl rfl (hlx W hW)) ?_
   simp only[Act.put,sA,sZ,sS]
   refine tk 17 34 (v:=.slice (some ⟨b2, of2, none⟩) l.length c2) rfl rfl (fun W hW=>Kaf rfl rfl) ?_
   simp only[Act.put,sA,sZ,sS]
   refine tk 18 35 (v:=.int .i64 (j : Int)) rfl rfl (fun W hW=>Kaf rfl rfl) ?_
   simp only[Act.put,sA,sZ,sS]
   refine tk 19 36 (v:=.pointer (some ⟨b2, of2 + j * 7, none⟩)) rfl rfl (fun W hW=>Kak rfl rfl rfl (hia2 W)) ?_
   simp only[Act.put,sA,sZ,sS]
   refine tk 20 37 (v:=.pointer (some ⟨b2, of2 + j * 7 + 1, none⟩)) rfl rfl (fun W hW=>Kae rfl rfl (hf1 _ _ W)) ?_
   simp only[Act.put,sA,sZ,sS]
   refine tk 21 38 (v:=.agg yv) rfl rfl (fun W hW=>Kah rfl rfl (hly W hW)) ?_
   simp only[Act.put,sA,sZ,sS]
   refine Kbi 22 39 rfl rfl (by kernel_rfl) rfl (Ka0 [.agg xv, .agg yv] rfl rfl Tryz.func25 (by kernel_rfl) (by kernel_rfl)) ?_
   refine (hcall _ hS).mono ?_
   rintro e ww ⟨rfl, hbw⟩
   have hSw := Kaa hS hbw
   refine ⟨_, rfl, .inr hSw, ?_⟩
   simp only[Act.put,sA,sZ,sS]
   refine tk 23 40 (v:=.bool false) rfl rfl (fun W hW=>Kb0 (b := true) rfl rfl) ?_
   simp only[Act.put,sA,sZ,sS]
   refine tk 24 41 (v:=.bool false) rfl rfl (fun W hW=>rfl) ?_
   simp only[Act.put,sA,sZ,sS]
   refine done (by kernel_rfl) ?_ _
   have HF := yh (Kaa HI.out hSw)
   clear hes hia hia2 hf0 hf1 p0 q0 hlx hly hcall hS0 HX hS hSw hbw
   go_wp2
   go_roundw
   case rel => exact ⟨j + 1, hlt1, by go_num, HF⟩
   case measure => simp [intOf]; omega
  ·obtain rfl : j = l.length := by omega
   go_wp2
   go_ret
   exact ⟨rfl, HI.out⟩
theorem lnode_any {w : World} {a : NodeD} {x y : Array Value} (ha : NRd w a x) (hb : NRd w a y) : Calls Tryz.prog 61 #[.agg x, .agg y] w fun e w' => e = .returned (.bool true) ∧ Below w.heap.size w w' := by
 obtain ⟨pl, cl, pp, cp, rfl, hl, hp⟩ := ha
 obtain ⟨ql, dl, qp, dp, rfl, hl2, hp2⟩ := hb
 have hb1 := Kad (w := w) (.cells #[.int .i64 a.id, .slice pl a.labels.length cl, .slice pp a.props.length cp] 70)
 have hb2 := Kad (w := w.alloc (.cells #[.int .i64 a.id, .slice pl a.labels.length cl, .slice pp a.props.length cp] 70)) (.cells #[.int .i64 a.id, .slice ql a.labels.length dl, .slice qp a.props.length dp] 70)
 have hbc : Below w.heap.size w ((w.alloc (.cells #[.int .i64 a.id, .slice pl a.labels.length cl, .slice pp a.props.length cp] 70)).alloc (.cells #[.int .i64 a.id, .slice ql a.labels.length dl, .slice qp a.props.length dp] 70)) := Kaa hb1 hb2
 have hx8 := Kap hb2 (by simp) (heap_alloc_new w (.cells #[.int .i64 a.id, .slice pl a.labels.length cl, .slice pp a.props.length cp] 70))
 have hx9 := heap_alloc_new (w.alloc (.cells #[.int .i64 a.id, .slice pl a.labels.length cl, .slice pp a.props.length cp] 70)) (.cells #[.int .i64 a.id, .slice ql a.labels.length dl, .slice qp a.props.length dp] 70)
 have zi := nei_self a.id
 have z1 : (a.labels.length : Int) ≤ 140737488355328 := by have := hl.2.1.1; omega
 have zz := nei_self (a.labels.length : Int)
 have HP := yh (lprops_any (hp.below (fun h => h.below hbc) hbc) (hp2.below (fun h => h.below hbc) hbc))
 have HX8 := yh hx8
 have HX9 := yh (show ((w.alloc (.cells #[.int .i64 a.id, .slice pl a.labels.length cl, .slice pp a.props.length cp] 70)).alloc (.cells #[.int .i64 a.id, .slice ql a.labels.length dl, .slice qp a.props.length dp] 70)).heap[w.heap.size + 1]? = some (.cells #[.int .i64 a.id, .slice ql a.labels.length dl, .slice qp a.props.length dp] 70 (0, 0)) from by simpa only [World.size_alloc] using hx9)
 have p0 := Kab (o := 0) HX8.out rfl
 have q0 := Kab (o := 0) HX9.out rfl
 have p1 := Kab (o := 1) HX8.out rfl
 have q1 := Kab (o := 1) HX9.out rfl
 have p2 := Kab (o := 2) HX8.out rfl
 have q2 := Kab (o := 2) HX9.out rfl
 have hlt9 : w.heap.size + 1 < ((w.alloc (.cells #[.int .i64 a.id, .slice pl a.labels.length cl, .slice pp a.props.length cp] 70)).alloc (.cells #[.int .i64 a.id, .slice ql a.labels.length dl, .slice qp a.props.length dp] 70)).heap.size := by simp
 have HB := yh (And.intro hbc hlt9)
 have HL := yh (hl.below hbc)
 have HL2 := yh (hl2.below hbc)
 clear hb1 hb2 hbc hx8 hx9 hl hl2 hp hp2 hlt9
 go_enter Tryz.func61, Tryz.ntmps61
 go_wp2_with (first
  | (go_at_call 112
     (
      refine HP.out.mono ?_
      rintro e W2 ⟨rfl, hbw⟩
      have HF := yh hbw
      clear hbw HP)))
 clear p0 p1 p2 q0 q1 q2
 generalize (w.alloc (.cells #[.int .i64 a.id, .slice pl a.labels.length cl, .slice pp a.props.length cp] 70)).alloc (.cells #[.int .i64 a.id, .slice ql a.labels.length dl, .slice qp a.props.length dp] 70) = W0 at *
 go_loopw [5] (fun i W => ∃ j : Nat, j ≤ a.labels.length ∧ i = .int .i64 (j : Int) ∧ Hid (Below W0.heap.size W0 W)) (fun i _ => a.labels.length - (intOf i).toNat)
 case atStart => exact ⟨0, Nat.zero_le _, rfl, HF⟩
 case round =>
  obtain ⟨j, hj, rfl, HI⟩ := hrel
  have p1 := Kab (o := 1) (Kap HI.out (Nat.lt_of_succ_lt HB.out.2) HX8.out) rfl
  have q1 := Kab (o := 1) (Kap HI.out HB.out.2 HX9.out) rfl
  by_cases hlt : j < a.labels.length
  ·have hlt1 : j + 1 ≤ a.labels.length := hlt
   obtain ⟨b, of, rfl, hc, _⟩ := (HL.out.below HI.out).get hlt
   obtain ⟨b2, of2, rfl, hc2, _⟩ := (HL2.out.below HI.out).get hlt
   have hes := eqs_self a.labels[j]
   generalize strB a.labels[j] = s1 at *
   have hS0 : Below wr.heap.size wr wr.drew := (Below.refl _ _).drew
   have hg1 : ∀ (b : Nat) (W' : World), (Instr.fieldAt 70 (.pointer (some ⟨b, 0, none⟩)) 1).run Tryz.prog W' = .ok (.pointer (some ⟨b, 1, none⟩)) W' := by intro b W'; simp [go_sem]
   have hia : ∀ (b of c : Nat) (W' : World), (Instr.indexAt 45 (.slice (some ⟨b, of, none⟩) a.labels.length c) (.int .i64 (j : Int))).run Tryz.prog W' = .ok (.pointer (some ⟨b, of + j, none⟩)) W' := by intro b of c W'; simp [go_sem, hlt]
   have HX := yh (And.intro hes (And.intro hS0 (And.intro hg1 (And.intro hia (And.intro p1 (And.intro q1 (And.intro hc hc2)))))))
   clear hes hS0 hg1 hia hc hc2
   go_wp2
   obtain ⟨hes, hS0, hg1, hia, p1, q1, hc, hc2⟩ := HX.out
   refine Kao (fun W => Below wr.heap.size wr W) (by kernel_rfl) hS0 (fun hS => ?_)
   refine tk 0 35 (v:=.pointer (some ⟨w.heap.size, 1, none⟩)) rfl rfl (fun W hW=>Kae rfl rfl (hg1 _ W)) ?_
   simp only[Act.put,sA,sZ,sS]
   refine tk 1 36 (v:=.slice (some ⟨b, of, none⟩) a.labels.length cl) rfl rfl (fun W hW=>Kah rfl rfl (Kaj (w := W) Tryz.underlying45 rfl (Kag hW (ltOf p1) p1))) ?_
   simp only[Act.put,sA,sZ,sS]
   refine tk 2 37 (v:=.int .i64 (j : Int)) rfl rfl (fun W hW=>Kaf rfl rfl) ?_
   simp only[Act.put,sA,sZ,sS]
   refine tk 3 38 (v:=.pointer (some ⟨b, of + j, none⟩)) rfl rfl (fun W hW=>Kak rfl rfl rfl (hia _ _ _ W)) ?_
   simp only[Act.put,sA,sZ,sS]
   refine tk 4 39 (v:=.string s1) rfl rfl (fun W hW=>Kah rfl rfl (Kaj (w := W) Tryz.underlying9 rfl (Kag hW (ltOf hc) hc))) ?_
   simp only[Act.put,sA,sZ,sS]
   refine tk 5 40 (v:=.pointer (some ⟨w.heap.size + 1, 1, none⟩)) rfl rfl (fun W hW=>Kae rfl rfl (hg1 _ W)) ?_
   simp only[Act.put,sA,sZ,sS]
   refine tk 6 41 (v:=.slice (some ⟨b2, of2, none⟩) a.labels.length dl) rfl rfl (fun W hW=>Kah rfl rfl (Kaj (w := W) Tryz.underlying45 rfl (Kag hW (ltOf q1) q1))) ?_
   simp only[Act.put,sA,sZ,sS]
   refine tk 7 42 (v:=.int .i64 (j : Int)) rfl rfl (fun W hW=>Kaf rfl rfl) ?_
   simp only[Act.put,sA,sZ,sS]
   refine tk 8 43 (v:=.pointer (some ⟨b2, of2 + j, none⟩)) rfl rfl (fun W hW=>Kak rfl rfl rfl (hia _ _ _ W)) ?_
   simp only[Act.put,sA,sZ,sS]
   refine tk 9 44 (v:=.string s1) rfl rfl (fun W hW=>Kah rfl rfl (Kaj (w := W) Tryz.underlying9 rfl (Kag hW (ltOf hc2) hc2))) ?_
   simp only[Act.put,sA,sZ,sS]
   refine tk 10 45 (v:=.bool false) rfl rfl (fun W hW=>Ked rfl rfl rfl (hes W)) ?_
   simp only[Act.put,sA,sZ,sS]
   refine done (by kernel_rfl) ?_ _
   have HF2 := yh (Kaa HI.out hS)
   clear hes hS0 hg1 hia hc hc2 p1 q1 HX hS
   go_wp2
   go_roundw
   case rel => exact ⟨j + 1, hlt1, by go_num, HF2⟩
   case measure => simp [intOf]; omega
  ·obtain rfl : j = a.labels.length := by omega
   go_wp2
   go_ret
   exact ⟨rfl, Kaa HB.out.1 HI.out⟩
theorem lrel_any {w : World} {a : RelD} {x y : Array Value} (ha : RRd w a x) (hb : RRd w a y) : Calls Tryz.prog 62 #[.agg x, .agg y] w fun e w' => e = .returned (.bool true) ∧ Below w.heap.size w w' := by
 obtain ⟨pp, cp, rfl, hty, hp⟩ := ha
 obtain ⟨qp, dp, rfl, hty2, hp2⟩ := hb
 have hb1 := Kad (w := w) (.cells #[.int .i64 a.id, .int .i64 a.src, .int .i64 a.dst, .string (strB a.type), .slice pp a.props.length cp] 72)
 have hb2 := Kad (w := w.alloc (.cells #[.int .i64 a.id, .int .i64 a.src, .int .i64 a.dst, .string (strB a.type), .slice pp a.props.length cp] 72)) (.cells #[.int .i64 a.id, .int .i64 a.src, .int .i64 a.dst, .string (strB a.type), .slice qp a.props.length dp] 72)
 have hbc : Below w.heap.size w ((w.alloc (.cells #[.int .i64 a.id, .int .i64 a.src, .int .i64 a.dst, .string (strB a.type), .slice pp a.props.length cp] 72)).alloc (.cells #[.int .i64 a.id, .int .i64 a.src, .int .i64 a.dst, .string (strB a.type), .slice qp a.props.length dp] 72)) := Kaa hb1 hb2
 have hx8 := Kap hb2 (by simp) (heap_alloc_new w (.cells #[.int .i64 a.id, .int .i64 a.src, .int .i64 a.dst, .string (strB a.type), .slice pp a.props.length cp] 72))
 have hx9 := heap_alloc_new (w.alloc (.cells #[.int .i64 a.id, .int .i64 a.src, .int .i64 a.dst, .string (strB a.type), .slice pp a.props.length cp] 72)) (.cells #[.int .i64 a.id, .int .i64 a.src, .int .i64 a.dst, .string (strB a.type), .slice qp a.props.length dp] 72)
 have hpe := lprops_any (hp.below (fun h => h.below hbc) hbc) (hp2.below (fun h => h.below hbc) hbc)
 have hes : ((strB a.type).toList == (strB a.type).toList) = true := by simp
 have p0 := Kab (o := 0) hx8 rfl
 have q0 := Kab (o := 0) hx9 rfl
 have p1 := Kab (o := 1) hx8 rfl
 have q1 := Kab (o := 1) hx9 rfl
 have p2 := Kab (o := 2) hx8 rfl
 have q2 := Kab (o := 2) hx9 rfl
 have p3 := Kab (o := 3) hx8 rfl
 have q3 := Kab (o := 3) hx9 rfl
 have p4 := Kab (o := 4) hx8 rfl
 have q4 := Kab (o := 4) hx9 rfl
 simp only [World.size_alloc] at q0 q1 q2 q3 q4
 have HPE := yh hpe
 have HB := yh hbc
 clear hb1 hb2 hbc hx8 hx9 hpe hp hp2 hty hty2
 generalize strB a.type = s1 at *
 go_enter Tryz.func62, Tryz.ntmps62
 go_wp2_with (go_at_call 112; refine HPE.out.mono ?_; rintro e W3 ⟨rfl, hbw⟩; have HF := yh (Kaa HB.out hbw); clear hbw HPE)
 go_ret
 exact ⟨rfl, HF.out⟩
theorem nek_self (n : Int) (W : World) : (binOp .neq 67 (.int .i64 n) (.int .i64 n)).run Tryz.prog W = .ok (.bool false) W := by simp [go_sem]
theorem ne64_self (n : Int) (W : World) : (binOp .neq 2 (.int .i64 n) (.int .i64 n)).run Tryz.prog W = .ok (.bool false) W := by simp [go_sem]
theorem lchanges_any {w : World} {p p' : Option Addr} {c c2 : Nat} {l : List ChangeD} (h : GRd CRd 11 w p c l) (h2 : GRd CRd 11 w p' c2 l) : Calls Tryz.prog 32 #[.slice p l.length c, .slice p' l.length c2] w fun e w' => e = .returned (.bool true) ∧ Below w.heap.size w w' := by
 have z1 : (l.length : Int) ≤ 140737488355328 := by have := h.1.2.1; omega
 have zz := nei_self (l.length : Int)
 have H := yh h
 have H2 := yh h2
 clear h h2
 go_enter Tryz.func32, Tryz.ntmps32
 go_wp2
 go_loopw [5] (fun i W => ∃ j : Nat, j ≤ l.length ∧ i = .int .i64 (j : Int) ∧ Hid (Below w.heap.size w W)) (fun i _ => l.length - (intOf i).toNat)
 case atStart => exact ⟨0, Nat.zero_le _, rfl, yh (Below.refl _ _)⟩
 case round =>
  obtain ⟨j, hj, rfl, HI⟩ := hrel
  by_cases hlt : j < l.length
  ·have hlt1 : j + 1 ≤ l.length := hlt
   obtain ⟨b, of, cs, rfl, hs, hc, hv⟩ := H.out.get hlt
   obtain ⟨b2, of2, ds, rfl, hs2, hc2, hv2⟩ := H2.out.get hlt
   obtain ⟨xa, xb, hna, hrb, x0, x1, x2, xna, xrb⟩ := Kb8 hv
   obtain ⟨ya, yb, hna2, hrb2, y0, y1, y2, yna, yrb⟩ := Kb8 hv2
   have p0 := Kag HI.out (ltOf (hc 0 _ x0)) (hc 0 _ x0)
   have p1 := Kag HI.out (ltOf (hc 1 _ x1)) (hc 1 _ x1)
   have p2 := Kag HI.out (ltOf (hc 2 _ x2)) (hc 2 _ x2)
   have q0 := Kag HI.out (ltOf (hc2 0 _ y0)) (hc2 0 _ y0)
   have q1 := Kag HI.out (ltOf (hc2 1 _ y1)) (hc2 1 _ y1)
   have q2 := Kag HI.out (ltOf (hc2 2 _ y2)) (hc2 2 _ y2)
   have hn1 := fun W (g : Below wr.heap.size wr W) => StT.load (P := Tryz.prog) (g := b) (o := of + j * 11 + 3) (W := W) Kb2 (Kd3.size hna) fun i u hu => by rw [Nat.add_assoc]; exact Kag (Kaa HI.out g) (ltOf (hc _ u (xna i u hu))) (hc _ u (xna i u hu))
   have hn2 := fun W (g : Below wr.heap.size wr W) => StT.load (P := Tryz.prog) (g := b2) (o := of2 + j * 11 + 3) (W := W) Kb2 (Kd3.size hna2) fun i u hu => by rw [Nat.add_assoc]; exact Kag (Kaa HI.out g) (ltOf (hc2 _ u (yna i u hu))) (hc2 _ u (yna i u hu))
   have hr1 := fun W (g : Below wr.heap.size wr W) => StT.load (P := Tryz.prog) (g := b) (o := of + j * 11 + 6) (W := W) Kdj (ef_rel.size hrb) fun i u hu => by rw [Nat.add_assoc]; exact Kag (Kaa HI.out g) (ltOf (hc _ u (xrb i u hu))) (hc _ u (xrb i u hu))
   have hr2 := fun W (g : Below wr.heap.size wr W) => StT.load (P := Tryz.prog) (g := b2) (o := of2 + j * 11 + 6) (W := W) Kdj (ef_rel.size hrb2) fun i u hu => by rw [Nat.add_assoc]; exact Kag (Kaa HI.out g) (ltOf (hc2 _ u (yrb i u hu))) (hc2 _ u (yrb i u hu))
   have hcn := fun W (g : Below wr.heap.size wr W) => lnode_any (hna.below (Kaa HI.out g)) (hna2.below (Kaa HI.out g))
   have hcr := fun W (g : Below wr.heap.size wr W) => lrel_any (hrb.below (Kaa HI.out g)) (hrb2.below (Kaa HI.out g))
   rw [Nat.add_zero] at p0 q0
   have hS0 : Below wr.heap.size wr wr.drew := (Below.refl _ _).drew
   have hia : ∀ W' : World, (Instr.indexAt 58 (.slice (some ⟨b, of, none⟩) l.length c) (.int .i64 (j : Int))).run Tryz.prog W' = .ok (.pointer (some ⟨b, of + j * 11, none⟩)) W' := by intro W'; simp [go_sem, hlt]
   have hia2 : ∀ W' : World, (Instr.indexAt 58 (.slice (some ⟨b2, of2, none⟩) l.length c2) (.int .i64 (j : Int))).run Tryz.prog W' = .ok (.pointer (some ⟨b2, of2 + j * 11, none⟩)) W' := by intro W'; simp [go_sem, hlt]
   have hf0 : ∀ (b o : Nat) (W' : World), (Instr.fieldAt 74 (.pointer (some ⟨b, o, none⟩)) 0).run Tryz.prog W' = .ok (.pointer (some ⟨b, o, none⟩)) W' := by intro b o W'; simp [go_sem]
   have hf1 : ∀ (b o : Nat) (W' : World), (Instr.fieldAt 74 (.pointer (some ⟨b, o, none⟩)) 1).run Tryz.prog W' = .ok (.pointer (some ⟨b, o + 1, none⟩)) W' := by intro b o W'; simp [go_sem]
   have hf2 : ∀ (b o : Nat) (W' : World), (Instr.fieldAt 74 (.pointer (some ⟨b, o, none⟩)) 2).run Tryz.prog W' = .ok (.pointer (some ⟨b, o + 2, none⟩)) W' := by intro b o W'; simp [go_sem]
   have hf3 : ∀ (b o : Nat) (W' : World), (Instr.fieldAt 74 (.pointer (some ⟨b, o, none⟩)) 3).run Tryz.prog W' = .ok (.pointer (some ⟨b, o + 3, none⟩)) W' := by intro b o W'; simp [go_sem]
   have hf4 : ∀ (b o : Nat) (W' : World), (Instr.fieldAt 74 (.pointer (some ⟨b, o, none⟩)) 4).run Tryz.prog W' = .ok (.pointer (some ⟨b, o + 6, none⟩)) W' := by intro b o W'; simp [go_sem]
   have HX := yh (And.intro hS0 (And.intro hia (And.intro hia2 (And.intro hf0 (And.intro hf1 (And.intro hf2 (And.intro hf3 (And.intro hf4 (And.intro p0 (And.intro p1 (And.intro p2 (And.intro q0 (And.intro q1 (And.intro q2 (And.intro hn1 (And.intro hn2 (And.intro hr1 (And.intro hr2 (And.intro hcn hcr)))))))))))))))))))
   clear hS0 hia hia2 hf0 hf1 hf2 hf3 hf4 p0 p1 p2 q0 q1 q2 hn1 hn2 hr1 hr2 hcn hcr hs hs2 hc hc2 hv hv2 hna hna2 hrb hrb2 x0 x1 x2 xna xrb y0 y1 y2 yna yrb
   generalize l[j] = lj at *
   go_wp2
   obtain ⟨hS0, hia, hia2, hf0, hf1, hf2, hf3, hf4, p0, p1, p2, q0, q1, q2, hn1, hn2, hr1, hr2, hcn, hcr⟩ := HX.out
   refine Kao (fun W => Below wr.heap.size wr W) (by kernel_rfl) hS0 (fun hS => ?_)
   refine tk 0 17 (v:=.slice (some ⟨b, of, none⟩) l.length c) rfl rfl (fun W hW=>Kaf rfl rfl) ?_
   simp only[Act.put,sA,sZ,sS]
   refine tk 1 18 (v:=.int .i64 (j : Int)) rfl rfl (fun W hW=>Kaf rfl rfl) ?_
   simp only[Act.put,sA,sZ,sS]
   refine tk 2 19 (v:=.pointer (some ⟨b, of + j * 11, none⟩)) rfl rfl (fun W hW=>Kak rfl rfl rfl (hia W)) ?_
   simp only[Act.put,sA,sZ,sS]
   refine tk 3 20 (v:=.pointer (some ⟨b, of + j * 11, none⟩)) rfl rfl (fun W hW=>Kae rfl rfl (hf0 _ _ W)) ?_
   simp only[Act.put,sA,sZ,sS]
   refine tk 4 21 (v:=.int .i64 lj.kind) rfl rfl (fun W hW=>Kah rfl rfl (Kaj (w := W) Tryz.underlying67 rfl (Kag hW (ltOf p0) p0))) ?_
   simp only[Act.put,sA,sZ,sS]
   refine tk 5 22 (v:=.slice (some ⟨b2, of2, none⟩) l.length c2) rfl rfl (fun W hW=>Kaf rfl rfl) ?_
   simp only[Act.put,sA,sZ,sS]
   refine tk 6 23 (v:=.int .i64 (j : Int)) rfl rfl (fun W hW=>Kaf rfl rfl) ?_
   simp only[Act.put,sA,sZ,sS]
   refine tk 7 24 (v:=.pointer (some ⟨b2, of2 + j * 11, none⟩)) rfl rfl (fun W hW=>Kak rfl rfl rfl (hia2 W)) ?_
   simp only[Act.put,sA,sZ,sS]
   refine tk 8 25 (v:=.pointer (some ⟨b2, of2 + j * 11, none⟩)) rfl rfl (fun W hW=>Kae rfl rfl (hf0 _ _ W)) ?_
   simp only[Act.put,sA,sZ,sS]
   refine tk 9 26 (v:=.int .i64 lj.kind) rfl rfl (fun W hW=>Kah rfl rfl (Kaj (w := W) Tryz.underlying67 rfl (Kag hW (ltOf q0) q0))) ?_
   simp only[Act.put,sA,sZ,sS]
   refine tk 10 27 (v:=.bool false) rfl rfl (fun W hW=>Kat rfl rfl rfl (nek_self _ W)) ?_
   simp only[Act.put,sA,sZ,sS]
   refine tk 11 28 (v:=.bool false) rfl rfl (fun W hW=>Kaf rfl rfl) ?_
   simp only[Act.put,sA,sZ,sS]
   refine tk 12 29 (v:=.slice (some ⟨b, of, none⟩) l.length c) rfl rfl (fun W hW=>Kaf rfl rfl) ?_
   simp only[Act.put,sA,sZ,sS]
   refine tk 13 30 (v:=.int .i64 (j : Int)) rfl rfl (fun W hW=>Kaf rfl rfl) ?_
   simp only[Act.put,sA,sZ,sS]
   refine tk 14 31 (v:=.pointer (some ⟨b, of + j * 11, none⟩)) rfl rfl (fun W hW=>Kak rfl rfl rfl (hia W)) ?_
   simp only[Act.put,sA,sZ,sS]
   refine tk 15 32 (v:=.pointer (some ⟨b, of + j * 11 + 1, none⟩)) rfl rfl (fun W hW=>Kae rfl rfl (hf1 _ _ W)) ?_
   simp only[Act.put,sA,sZ,sS]
   refine tk 16 33 (v:=.int .i64 lj.id) rfl rfl (fun W hW=>Kah rfl rfl (Kaj (w := W) Tryz.underlying2 rfl (Kag hW (ltOf p1) p1))) ?_
   simp only[Act.put,sA,sZ,sS]
   refine tk 17 34 (v:=.slice (some ⟨b2, of2, none⟩) l.length c2) rfl rfl (fun W hW=>Kaf rfl rfl) ?_
   simp only[Act.put,sA,sZ,sS]
   refine tk 18 35 (v:=.int .i64 (j : Int)) rfl rfl (fun W hW=>Kaf rfl rfl) ?_
   simp only[Act.put,sA,sZ,sS]
   refine tk 19 36 (v:=.pointer (some ⟨b2, of2 + j * 11, none⟩)) rfl rfl (fun W hW=>Kak rfl rfl rfl (hia2 W)) ?_
   simp only[Act.put,sA,sZ,sS]
   refine tk 20 37 (v:=.pointer (some ⟨b2, of2 + j * 11 + 1, none⟩)) rfl rfl (fun W hW=>Kae rfl rfl (hf1 _ _ W)) ?_
   simp only[Act.put,sA,sZ,sS]
   refine tk 21 38 (v:=.int .i64 lj.id) rfl rfl (fun W hW=>Kah rfl rfl (Kaj (w := W) Tryz.underlying2 rfl (Kag hW (ltOf q1) q1))) ?_
   simp only[Act.put,sA,sZ,sS]
   refine tk 22 39 (v:=.bool false) rfl rfl (fun W hW=>Kat rfl rfl rfl (ne64_self _ W)) ?_
   simp only[Act.put,sA,sZ,sS]
   refine tk 23 40 (v:=.bool false) rfl rfl (fun W hW=>rfl) ?_
   simp only[Act.put,sA,sZ,sS]
   refine tk 24 41 (v:=.bool false) rfl rfl (fun W hW=>Kaf rfl rfl) ?_
   simp only[Act.put,sA,sZ,sS]
   refine tk 25 42 (v:=.slice (some ⟨b, of, none⟩) l.length c) rfl rfl (fun W hW=>Kaf rfl rfl) ?_
   simp only[Act.put,sA,sZ,sS]
   refine tk 26 43 (v:=.int .i64 (j : Int)) rfl rfl (fun W hW=>Kaf rfl rfl) ?_
   simp only[Act.put,sA,sZ,sS]
   refine tk 27 44 (v:=.pointer (some ⟨b, of + j * 11, none⟩)) rfl rfl (fun W hW=>Kak rfl rfl rfl (hia W)) ?_
   simp only[Act.put,sA,sZ,sS]
   refine tk 28 45 (v:=.pointer (some ⟨b, of + j * 11 + 2, none⟩)) rfl rfl (fun W hW=>Kae rfl rfl (hf2 _ _ W)) ?_
   simp only[Act.put,sA,sZ,sS]
   refine tk 29 46 (v:=.int .i64 lj.other) rfl rfl (fun W hW=>Kah rfl rfl (Kaj (w := W) Tryz.underlying2 rfl (Kag hW (ltOf p2) p2))) ?_
   simp only[Act.put,sA,sZ,sS]
   refine tk 30 47 (v:=.slice (some ⟨b2, of2, none⟩) l.length c2) rfl rfl (fun W hW=>Kaf rfl rfl) ?_
   simp only[Act.put,sA,sZ,sS]
   refine tk 31 48 (v:=.int .i64 (j : Int)) rfl rfl (fun W hW=>Kaf rfl rfl) ?_
   simp only[Act.put,sA,sZ,sS]
   refine tk 32 49 (v:=.pointer (some ⟨b2, of2 + j * 11, none⟩)) rfl rfl (fun W hW=>Kak rfl rfl rfl (hia2 W)) ?_
   simp only[Act.put,sA,sZ,sS]
   refine tk 33 50 (v:=.pointer (some ⟨b2, of2 + j * 11 + 2, none⟩)) rfl rfl (fun W hW=>Kae rfl rfl (hf2 _ _ W)) ?_
   simp only[Act.put,sA,sZ,sS]
   refine tk 34 51 (v:=.int .i64 lj.other) rfl rfl (fun W hW=>Kah rfl rfl (Kaj (w := W) Tryz.underlying2 rfl (Kag hW (ltOf q2) q2))) ?_
   simp only[Act.put,sA,sZ,sS]
   refine tk 35 52 (v:=.bool false) rfl rfl (fun W hW=>Kat rfl rfl rfl (ne64_self _ W)) ?_
   simp only[Act.put,sA,sZ,sS]
   refine tk 36 53 (v:=.bool false) rfl rfl (fun W hW=>rfl) ?_
   simp only[Act.put,sA,sZ,sS]
   refine tk 37 54 (v:=.bool false) rfl rfl (fun W hW=>Kaf rfl rfl) ?_
   simp only[Act.put,sA,sZ,sS]
   refine tk 38 55 (v:=.slice (some ⟨b, of, none⟩) l.length c) rfl rfl (fun W hW=>Kaf rfl rfl) ?_
   simp only[Act.put,sA,sZ,sS]
   refine tk 39 56 (v:=.int .i64 (j : Int)) rfl rfl (fun W hW=>Kaf rfl rfl) ?_
   simp only[Act.put,sA,sZ,sS]
   refine tk 40 57 (v:=.pointer (some ⟨b, of + j * 11, none⟩)) rfl rfl (fun W hW=>Kak rfl rfl rfl (hia W)) ?_
   simp only[Act.put,sA,sZ,sS]
   refine tk 41 58 (v:=.pointer (some ⟨b, of + j * 11 + 3, none⟩)) rfl rfl (fun W hW=>Kae rfl rfl (hf3 _ _ W)) ?_
   simp only[Act.put,sA,sZ,sS]
   refine tk 42 59 (v:=.agg xa) rfl rfl (fun W hW=>Kah rfl rfl (hn1 W hW)) ?_
   simp only[Act.put,sA,sZ,sS]
   refine tk 43 60 (v:=.slice (some ⟨b2, of2, none⟩) l.length c2) rfl rfl (fun W hW=>Kaf rfl rfl) ?_
   simp only[Act.put,sA,sZ,sS]
   refine tk 44 61 (v:=.int .i64 (j : Int)) rfl rfl (fun W hW=>Kaf rfl rfl) ?_
   simp only[Act.put,sA,sZ,sS]
   refine tk 45 62 (v:=.pointer (some ⟨b2, of2 + j * 11, none⟩)) rfl rfl (fun W hW=>Kak rfl rfl rfl (hia2 W)) ?_
   simp only[Act.put,sA,sZ,sS]
   refine tk 46 63 (v:=.pointer (some ⟨b2, of2 + j * 11 + 3, none⟩)) rfl rfl (fun W hW=>Kae rfl rfl (hf3 _ _ W)) ?_
   simp only[Act.put,sA,sZ,sS]
   refine tk 47 64 (v:=.agg ya) rfl rfl (fun W hW=>Kah rfl rfl (hn2 W hW)) ?_
   simp only[Act.put,sA,sZ,sS]
   refine Kbi 48 65 rfl rfl (by kernel_rfl) rfl (Ka0 [.agg xa, .agg ya] rfl rfl Tryz.func61 (by kernel_rfl) (by kernel_rfl)) ?_
   refine (hcn _ hS).mono ?_
   rintro e w48 ⟨rfl, hb48⟩
   have hS48 := Kaa hS hb48
   refine ⟨_, rfl, .inr hS48, ?_⟩
   simp only[Act.put,sA,sZ,sS]
   refine tk 49 66 (v:=.bool false) rfl rfl (fun W hW=>Kb0 (b := true) rfl rfl) ?_
   simp only[Act.put,sA,sZ,sS]
   refine tk 50 67 (v:=.bool false) rfl rfl (fun W hW=>rfl) ?_
   simp only[Act.put,sA,sZ,sS]
   refine tk 51 68 (v:=.bool false) rfl rfl (fun W hW=>Kaf rfl rfl) ?_
   simp only[Act.put,sA,sZ,sS]
   refine tk 52 69 (v:=.slice (some ⟨b, of, none⟩) l.length c) rfl rfl (fun W hW=>Kaf rfl rfl) ?_
   simp only[Act.put,sA,sZ,sS]
   refine tk 53 70 (v:=.int .i64 (j : Int)) rfl rfl (fun W hW=>Kaf rfl rfl) ?_
   simp only[Act.put,sA,sZ,sS]
   refine tk 54 71 (v:=.pointer (some ⟨b, of + j * 11, none⟩)) rfl rfl (fun W hW=>Kak rfl rfl rfl (hia W)) ?_
   simp only[Act.put,sA,sZ,sS]
   refine tk 55 72 (v:=.pointer (some ⟨b, of + j * 11 + 6, none⟩)) rfl rfl (fun W hW=>Kae rfl rfl (hf4 _ _ W)) ?_
   simp only[Act.put,sA,sZ,sS]
   refine tk 56 73 (v:=.agg xb) rfl rfl (fun W hW=>Kah rfl rfl (hr1 W hW)) ?_
   simp only[Act.put,sA,sZ,sS]
   refine tk 57 74 (v:=.slice (some ⟨b2, of2, none⟩) l.length c2) rfl rfl (fun W hW=>Kaf rfl rfl) ?_
   simp only[Act.put,sA,sZ,sS]
   refine tk 58 75 (v:=.int .i64 (j : Int)) rfl rfl (fun W hW=>Kaf rfl rfl) ?_
   simp only[Act.put,sA,sZ,sS]
   refine tk 59 76 (v:=.pointer (some ⟨b2, of2 + j * 11, none⟩)) rfl rfl (fun W hW=>Kak rfl rfl rfl (hia2 W)) ?_
   simp only[Act.put,sA,sZ,sS]
   refine tk 60 77 (v:=.pointer (some ⟨b2, of2 + j * 11 + 6, none⟩)) rfl rfl (fun W hW=>Kae rfl rfl (hf4 _ _ W)) ?_
   simp only[Act.put,sA,sZ,sS]
   refine tk 61 78 (v:=.agg yb) rfl rfl (fun W hW=>Kah rfl rfl (hr2 W hW)) ?_
   simp only[Act.put,sA,sZ,sS]
   refine Kbi 62 79 rfl rfl (by kernel_rfl) rfl (Ka0 [.agg xb, .agg yb] rfl rfl Tryz.func62 (by kernel_rfl) (by kernel_rfl)) ?_
   refine (hcr _ hS48).mono ?_
   rintro e w62 ⟨rfl, hb62⟩
   have hS62 := Kaa hS48 hb62
   refine ⟨_, rfl, .inr hS62, ?_⟩
   simp only[Act.put,sA,sZ,sS]
   refine tk 63 80 (v:=.bool false) rfl rfl (fun W hW=>Kb0 (b := true) rfl rfl) ?_
   simp only[Act.put,sA,sZ,sS]
   refine tk 64 81 (v:=.bool false) rfl rfl (fun W hW=>rfl) ?_
   simp only[Act.put,sA,sZ,sS]
   refine done (by kernel_rfl) ?_ _
   have HF := yh (Kaa HI.out hS62)
   clear hS0 hia hia2 hf0 hf1 hf2 hf3 hf4 p0 p1 p2 q0 q1 q2 hn1 hn2 hr1 hr2 hcn hcr HX hS hS48 hb48 hS62 hb62
   go_wp2
   go_roundw
   case rel => exact ⟨j + 1, hlt1, by go_num, HF⟩
   case measure => simp [intOf]; omega
  ·obtain rfl : j = l.length := by omega
   go_wp2
   go_ret
   exact ⟨rfl, HI.out⟩
def FwPost (w : World) (l : List ChangeD) (e : Ending) (w' : World) : Prop := ∃ b, e = .returned (.bool b) ∧ (b = true → (l.map totC).sum ≤ 3000) ∧ Below w.heap.size w w'
theorem few_any {w : World} {p : Option Addr} {c : Nat} {l : List ChangeD} (h : GRd CRd 11 w p c l) : Calls Tryz.prog 26 #[.slice p l.length c] w (FwPost w l) := by
 have z1 : (l.length : Int) ≤ 140737488355328 := by have := h.1.2.1; omega
 have H := yh h
 clear h
 go_enter Tryz.func26, Tryz.ntmps26
 go_wp2
 go_loopw [3, 4] (fun m i W => ∃ j nn : Nat, j ≤ l.length ∧ i = .int .i64 (j : Int) ∧ m = .int .i64 (nn : Int) ∧ nn ≤ 4503599627370496 ∧ Hid ((nn ≤ 3000 → ((l.take j).map totC).sum ≤ nn) ∧ Below w.heap.size w W)) (fun _ i _ => l.length - (intOf i).toNat)
 case atStart => exact ⟨0, 0, Nat.zero_le _, rfl, rfl, by omega, yh ⟨fun _ => by simp, Below.refl _ _⟩⟩
 case round =>
  obtain ⟨j, nn, hj, rfl, rfl, hnb, HS⟩ := hrel
  have z5 : (nn : Int) ≤ 4503599627370496 := by omega
  by_cases hlt : j < l.length
  ·have hlt1 : j + 1 ≤ l.length := hlt
   by_cases hle : nn ≤ 3000
   ·have hle1 : (nn : Int) ≤ 3000 := by omega
    obtain ⟨b, of, cs, rfl, hs, hc, hv⟩ := H.out.get hlt
    obtain ⟨xa, xb, hna, hrb, x0, x1, x2, xna, xrb⟩ := Kb8 hv
    obtain ⟨pl, cl, pp, cp, exa, hls, hps⟩ := hna
    obtain ⟨pq, cq, exb, hty, hqs⟩ := hrb
    have k3 : cs[9]? = some (.string (strB l[j].rel.type)) := xrb 3 _ (by rw [exb]; rfl)
    have k4 : cs[10]? = some (.slice pq l[j].rel.props.length cq) := xrb 4 _ (by rw [exb]; rfl)
    have k1 : cs[4]? = some (.slice pl l[j].node.labels.length cl) := xna 1 _ (by rw [exa]; rfl)
    have k2 : cs[5]? = some (.slice pp l[j].node.props.length cp) := xna 2 _ (by rw [exa]; rfl)
    have pt := Kag HS.out.2 (ltOf (hc 9 _ k3)) (hc 9 _ k3)
    have pr1 := Kag HS.out.2 (ltOf (hc 10 _ k4)) (hc 10 _ k4)
    have pl1 := Kag HS.out.2 (ltOf (hc 4 _ k1)) (hc 4 _ k1)
    have pp1 := Kag HS.out.2 (ltOf (hc 5 _ k2)) (hc 5 _ k2)
    have hst := sum_take totC hlt
    have htc : totC l[j] = (1 + totLs l[j].node.labels + totPs l[j].node.props) + (1 + l[j].rel.type.length + totPs l[j].rel.props) := rfl
    have hca := fun W (g : Below wr.heap.size wr W) => psz_any (hls.below (Kaa HS.out.2 g)) (hps.below (fun h => h.below (Kaa HS.out.2 g)) (Kaa HS.out.2 g))
    have hcb := fun W (g : Below wr.heap.size wr W) => psz_any (w := W) (ls := []) rds_nil (hqs.below (fun h => h.below (Kaa HS.out.2 g)) (Kaa HS.out.2 g))
    generalize totC l[j] = tc at *
    generalize l[j].rel.type = ty at *
    generalize l[j].rel.props = qs at *
    generalize l[j].node.labels = ls at *
    generalize l[j].node.props = ps at *
    have hS0 : Below wr.heap.size wr wr.drew := (Below.refl _ _).drew
    have hia : ∀ W' : World, (Instr.indexAt 58 (.slice (some ⟨b, of, none⟩) l.length c) (.int .i64 (j : Int))).run Tryz.prog W' = .ok (.pointer (some ⟨b, of + j * 11, none⟩)) W' := by intro W'; simp [go_sem, hlt]
    have hf3 : ∀ (b o : Nat) (W' : World), (Instr.fieldAt 74 (.pointer (some ⟨b, o, none⟩)) 3).run Tryz.prog W' = .ok (.pointer (some ⟨b, o + 3, none⟩)) W' := by intro b o W'; simp [go_sem]
    have hf4 : ∀ (b o : Nat) (W' : World), (Instr.fieldAt 74 (.pointer (some ⟨b, o, none⟩)) 4).run Tryz.prog W' = .ok (.pointer (some ⟨b, o + 6, none⟩)) W' := by intro b o W'; simp [go_sem]
    have hg1 : ∀ (b o : Nat) (W' : World), (Instr.fieldAt 70 (.pointer (some ⟨b, o, none⟩)) 1).run Tryz.prog W' = .ok (.pointer (some ⟨b, o + 1, none⟩)) W' := by intro b o W'; simp [go_sem]
    have hg2 : ∀ (b o : Nat) (W' : World), (Instr.fieldAt 70 (.pointer (some ⟨b, o, none⟩)) 2).run Tryz.prog W' = .ok (.pointer (some ⟨b, o + 2, none⟩)) W' := by intro b o W'; simp [go_sem]
    have hg3 : ∀ (b o : Nat) (W' : World), (Instr.fieldAt 72 (.pointer (some ⟨b, o, none⟩)) 3).run Tryz.prog W' = .ok (.pointer (some ⟨b, o + 3, none⟩)) W' := by intro b o W'; simp [go_sem]
    have hg4 : ∀ (b o : Nat) (W' : World), (Instr.fieldAt 72 (.pointer (some ⟨b, o, none⟩)) 4).run Tryz.prog W' = .ok (.pointer (some ⟨b, o + 4, none⟩)) W' := by intro b o W'; simp [go_sem]
    have HX := yh (And.intro hS0 (And.intro hia (And.intro hf3 (And.intro hf4 (And.intro hg1 (And.intro hg2 (And.intro hg3 (And.intro hg4 (And.intro pt (And.intro pl1 (And.intro pp1 (And.intro pr1 (And.intro hca (And.intro hcb (And.intro hst htc)))))))))))))))
    clear hS0 hia hf3 hf4 hg1 hg2 hg3 hg4 pt pl1 pp1 pr1 hca hcb hst htc hs hc hv hls hps hqs exa exb x0 x1 x2 xna xrb k1 k2 k3 k4
    go_wp2
    obtain ⟨hS0, hia, hf3, hf4, hg1, hg2, hg3, hg4, pt, pl1, pp1, pr1, hca, hcb, hst, htc⟩ := HX.out
    refine Kao (fun W => Below wr.heap.size wr W) (by kernel_rfl) hS0 (fun hS => ?_)
    refine tk 0 15 (v:=.int .i64 (nn : Int)) rfl rfl (fun W hW=>Kaf rfl rfl) ?_
    simp only[Act.put,sA,sZ,sS]
    refine tk 1 16 (v:=.int .i64 ((nn + 1 : Nat) : Int)) rfl rfl (fun W hW=>Kat rfl rfl rfl (add_one' (by omega) W)) ?_
    simp only[Act.put,sA,sZ,sS]
    refine tk 2 17 (v:=.slice (some ⟨b, of, none⟩) l.length c) rfl rfl (fun W hW=>Kaf rfl rfl) ?_
    simp only[Act.put,sA,sZ,sS]
    refine tk 3 18 (v:=.int .i64 (j : Int)) rfl rfl (fun W hW=>Kaf rfl rfl) ?_
    simp only[Act.put,sA,sZ,sS]
    refine tk 4 19 (v:=.pointer (some ⟨b, of + j * 11, none⟩)) rfl rfl (fun W hW=>Kak rfl rfl rfl (hia W)) ?_
    simp only[Act.put,sA,sZ,sS]
    refine tk 5 20 (v:=.pointer (some ⟨b, of + j * 11 + 6, none⟩)) rfl rfl (fun W hW=>Kae rfl rfl (hf4 _ _ W)) ?_
    simp only[Act.put,sA,sZ,sS]
    refine tk 6 21 (v:=.pointer (some ⟨b, of + j * 11 + 6 + 3, none⟩)) rfl rfl (fun W hW=>Kae rfl rfl (hg3 _ _ W)) ?_
    simp only[Act.put,sA,sZ,sS]
    refine tk 7 22 (v:=.string (strB ty)) rfl rfl (fun W hW=>Kah rfl rfl (Kaj (w := W) Tryz.underlying9 rfl (Kag hW (ltOf pt) pt))) ?_
    simp only[Act.put,sA,sZ,sS]
    refine tk 8 23 (v:=.int .i64 (ty.length : Int)) rfl rfl (fun W hW=>exec_lenQ rfl rfl) ?_
    simp only[Act.put,sA,sZ,sS]
    refine tk 9 24 (v:=.int .i64 ((nn + 1 + ty.length : Nat) : Int)) rfl rfl (fun W hW=>Kat rfl rfl rfl (add_big (by omega) W)) ?_
    simp only[Act.put,sA,sZ,sS]
    refine tk 10 25 (v:=.slice (some ⟨b, of, none⟩) l.length c) rfl rfl (fun W hW=>Kaf rfl rfl) ?_
    simp only[Act.put,sA,sZ,sS]
    refine tk 11 26 (v:=.int .i64 (j : Int)) rfl rfl (fun W hW=>Kaf rfl rfl) ?_
    simp only[Act.put,sA,sZ,sS]
    refine tk 12 27 (v:=.pointer (some ⟨b, of + j * 11, none⟩)) rfl rfl (fun W hW=>Kak rfl rfl rfl (hia W)) ?_
    simp only[Act.put,sA,sZ,sS]
    refine tk 13 28 (v:=.pointer (some ⟨b, of + j * 11 + 3, none⟩)) rfl rfl (fun W hW=>Kae rfl rfl (hf3 _ _ W)) ?_
    simp only[Act.put,sA,sZ,sS]
    refine tk 14 29 (v:=.pointer (some ⟨b, of + j * 11 + 3 + 1, none⟩)) rfl rfl (fun W hW=>Kae rfl rfl (hg1 _ _ W)) ?_
    simp only[Act.put,sA,sZ,sS]
    refine tk 15 30 (v:=.slice pl ls.length cl) rfl rfl (fun W hW=>Kah rfl rfl (Kaj (w := W) Tryz.underlying45 rfl (Kag hW (ltOf pl1) pl1))) ?_
    simp only[Act.put,sA,sZ,sS]
    refine tk 16 31 (v:=.slice (some ⟨b, of, none⟩) l.length c) rfl rfl (fun W hW=>Kaf rfl rfl) ?_
    simp only[Act.put,sA,sZ,sS]
    refine tk 17 32 (v:=.int .i64 (j : Int)) rfl rfl (fun W hW=>Kaf rfl rfl) ?_
    simp only[Act.put,sA,sZ,sS]
    refine tk 18 33 (v:=.pointer (some ⟨b, of + j * 11, none⟩)) rfl rfl (fun W hW=>Kak rfl rfl rfl (hia W)) ?_
    simp only[Act.put,sA,sZ,sS]
    refine tk 19 34 (v:=.pointer (some ⟨b, of + j * 11 + 3, none⟩)) rfl rfl (fun W hW=>Kae rfl rfl (hf3 _ _ W)) ?_
    simp only[Act.put,sA,sZ,sS]
    refine tk 20 35 (v:=.pointer (some ⟨b, of + j * 11 + 3 + 2, none⟩)) rfl rfl (fun W hW=>Kae rfl rfl (hg2 _ _ W)) ?_
    simp only[Act.put,sA,sZ,sS]
    refine tk 21 36 (v:=.slice pp ps.length cp) rfl rfl (fun W hW=>Kah rfl rfl (Kaj (w := W) Tryz.underlying68 rfl (Kag hW (ltOf pp1) pp1))) ?_
    simp only[Act.put,sA,sZ,sS]
    refine tk 24 39 (v:=.slice (some ⟨b, of, none⟩) l.length c) rfl rfl (fun W hW=>Kaf rfl rfl) ?_
    simp only[Act.put,sA,sZ,sS]
    refine tk 25 40 (v:=.int .i64 (j : Int)) rfl rfl (fun W hW=>Kaf rfl rfl) ?_
    simp only[Act.put,sA,sZ,sS]
    refine tk 26 41 (v:=.pointer (some ⟨b, of + j * 11, none⟩)) rfl rfl (fun W hW=>Kak rfl rfl rfl (hia W)) ?_
    simp only[Act.put,sA,sZ,sS]
    refine tk 27 42 (v:=.pointer (some ⟨b, of + j * 11 + 6, none⟩)) rfl rfl (fun W hW=>Kae rfl rfl (hf4 _ _ W)) ?_
    simp only[Act.put,sA,sZ,sS]
    refine tk 28 43 (v:=.pointer (some ⟨b, of + j * 11 + 6 + 4, none⟩)) rfl rfl (fun W hW=>Kae rfl rfl (hg4 _ _ W)) ?_
    simp only[Act.put,sA,sZ,sS]
    refine tk 29 44 (v:=.slice pq qs.length cq) rfl rfl (fun W hW=>Kah rfl rfl (Kaj (w := W) Tryz.underlying68 rfl (Kag hW (ltOf pr1) pr1))) ?_
    simp only[Act.put,sA,sZ,sS]
    refine Kbi 22 37 rfl rfl (by kernel_rfl) rfl (Ka0 [.slice pl ls.length cl, .slice pp ps.length cp] rfl rfl Tryz.func36 (by kernel_rfl) (by kernel_rfl)) ?_
    refine (hca _ hS).mono ?_
    rintro e w22 ⟨ra, rfl, hra, hb22⟩
    have hS22 := Kaa hS hb22
    have hbra := hra.2
    refine ⟨_, rfl, .inr hS22, ?_⟩
    simp only[Act.put,sA,sZ,sS]
    refine tk 23 38 (v:=.int .i64 ((nn + 1 + ty.length + ra : Nat) : Int)) rfl rfl (fun W hW=>Kat rfl rfl rfl (add_big (by omega) W)) ?_
    simp only[Act.put,sA,sZ,sS]
    refine Kbi 30 45 rfl rfl (by kernel_rfl) rfl (Ka0 [.slice none 0 0, .slice pq qs.length cq] rfl rfl Tryz.func36 (by kernel_rfl) (by kernel_rfl)) ?_
    refine (hcb _ hS22).mono ?_
    rintro e w30 ⟨rb, rfl, hrb, hb30⟩
    have hS30 := Kaa hS22 hb30
    have hbrb := hrb.2
    refine ⟨_, rfl, .inr hS30, ?_⟩
    simp only[Act.put,sA,sZ,sS]
    refine tk 31 46 (v:=.int .i64 ((nn + 1 + ty.length + ra + rb : Nat) : Int)) rfl rfl (fun W hW=>Kat rfl rfl rfl (add_big (by omega) W)) ?_
    simp only[Act.put,sA,sZ,sS]
    refine tk 32 3 (v:=.int .i64 ((nn + 1 + ty.length + ra + rb : Nat) : Int)) rfl rfl (fun W hW=>Kbl rfl rfl) ?_
    simp only[Act.put,sA,sZ,sS]
    refine done (by kernel_rfl) ?_ _
    have hnew : nn + 1 + ty.length + ra + rb ≤ 4503599627370496 := by omega
    have HN := yh (show (nn + 1 + ty.length + ra + rb ≤ 3000 → ((l.take (j + 1)).map totC).sum ≤ nn + 1 + ty.length + ra + rb) ∧ Below w.heap.size w w30 from ⟨fun h => by
     have h1 := HS.out.1 (by omega)
     have h2 := hra.1 (by omega)
     have h4 := hrb.1 (by omega)
     have h3 : totLs [] = 0 := rfl
     rw [hst, htc]; omega, Kaa HS.out.2 hS30⟩)
    clear hS0 hia hf3 hf4 hg1 hg2 hg3 hg4 pt pl1 pp1 pr1 hca hcb hst htc hS hS22 hS30 hb22 hb30 hra hrb HX HS hbra hbrb
    generalize nn + 1 + ty.length + ra + rb = nx at *
    go_wp2
    go_roundw
    case rel => exact ⟨j + 1, nx, hlt1, by go_num, rfl, hnew, HN⟩
    case measure => simp [intOf]; omega
   ·have hle1 : ¬ (nn : Int) ≤ 3000 := by omega
    have hle0 : decide ((nn : Int) ≤ 3000) = false := by simpa using hle1
    have HF2 := yh HS.out.2
    clear HS
    go_wp2
    go_ret
    exact ⟨false, rfl, (fun h => by cases h), HF2.out⟩
  ·obtain rfl : j = l.length := by omega
   have HF2 := yh HS.out
   clear HS
   by_cases hle : nn ≤ 3000
   ·have hle1 : (nn : Int) ≤ 3000 := by omega
    go_wp2
    go_ret
    refine ⟨true, rfl, fun _ => ?_, HF2.out.2⟩
    have := HF2.out.1 hle
    rw [List.take_length] at this
    omega
   ·have hle1 : ¬ (nn : Int) ≤ 3000 := by omega
    have hle0 : decide ((nn : Int) ≤ 3000) = false := by simpa using hle1
    go_wp2
    go_ret
    exact ⟨false, rfl, (fun h => by cases h), HF2.out.2⟩
theorem ends_mem (s d : Int) : s ∈ Kcb s d ∧ d ∈ Kcb s d := by
 unfold Kcb
 by_cases h : s = d
 ·rw [if_pos h]; simp [h]
 ·rw [if_neg h]
  have h1 : s = min s d ∨ s = max s d := by omega
  have h2 : d = min s d ∨ d = max s d := by omega
  simp only [List.mem_cons, List.not_mem_nil, or_false]
  exact ⟨h1, h2⟩
theorem okC_range {cd : ChangeD} (h1 : cd.kind = 1) (h : okC cd = true) : (0 ≤ cd.rel.src ∧ cd.rel.src < topN) ∧ 0 ≤ cd.rel.dst ∧ cd.rel.dst < topN := by
 rw [ends_ok cd h1] at h
 unfold okG okNs at h
 simp only [Bool.and_eq_true, List.all_eq_true] at h
 have hn := h.1.2.1
 have key : ∀ i ∈ Kcb cd.rel.src cd.rel.dst, 0 ≤ i ∧ i < topN := fun i hi => by
  have h2 := hn (Kce i) (List.mem_map.2 ⟨i, hi, rfl⟩)
  have h3 := h2.1
  have h4 := h2.2
  unfold okN at h3
  simp only [Bool.and_eq_true, decide_eq_true_eq] at h3 h4
  exact ⟨h3.1.1.1, h4⟩
 exact ⟨key _ (ends_mem _ _).1, key _ (ends_mem _ _).2⟩
structure LM (w W : World) (x cn cg : Array Value) : Prop where
 c : W.heap[w.heap.size]? = some (.cells x 74 (0, 0))
 n : W.heap[w.heap.size + 1]? = some (.cells cn 70 (0, 0))
 g : W.heap[w.heap.size + 2]? = some (.cells cg 25 (0, 0))
 b : Below w.heap.size w W
 sz : w.heap.size + 3 ≤ W.heap.size
section
variable {w W W' : World} {x cn cg xa xb : Array Value} {m M : Int} {p : Option Addr} {c : Nat}
theorem LM.keep (h : LM w W x cn cg) (hk : ∀ b, b < w.heap.size + 3 → W'.heap[b]? = W.heap[b]?) (hb : Below w.heap.size w W') (hs : W.heap.size ≤ W'.heap.size) : LM w W' x cn cg :=
 ⟨(hk _ (by omega)).trans h.c, (hk _ (by omega)).trans h.n, (hk _ (by omega)).trans h.g, hb, Nat.le_trans h.sz hs⟩
theorem LM.alloc (h : LM w W x cn cg) (o : Obj) : LM w (W.alloc o) x cn cg :=
 h.keep (fun b hb => (Kad o).block b (by have := h.sz; omega)) (Kaa h.b (Kad o)) (by simp)
theorem set_size (W : World) (ad : Addr) (u : Value) : (W.setCell ad u).heap.size = W.heap.size := by simp [World.setCell]
theorem LM.setN (h : LM w W x cn cg) (i : Nat) (u : Value) : LM w (W.setCell ⟨w.heap.size + 1, i, none⟩ u) x (cn.setIfInBounds i u) cg :=
 ⟨(Below.heap_setCell _ ⟨w.heap.size + 1, i, none⟩ _ _ (by show w.heap.size ≠ w.heap.size + 1; omega)).trans h.c, Kde u h.n, (Below.heap_setCell _ ⟨w.heap.size + 1, i, none⟩ _ _ (by show w.heap.size + 2 ≠ w.heap.size + 1; omega)).trans h.g, Kbt h.b (by omega) u, by rw [set_size]; exact h.sz⟩
theorem LM.setG (h : LM w W x cn cg) (i : Nat) (u : Value) : LM w (W.setCell ⟨w.heap.size + 2, i, none⟩ u) x cn (cg.setIfInBounds i u) :=
 ⟨(Below.heap_setCell _ ⟨w.heap.size + 2, i, none⟩ _ _ (by show w.heap.size ≠ w.heap.size + 2; omega)).trans h.c, (Below.heap_setCell _ ⟨w.heap.size + 2, i, none⟩ _ _ (by show w.heap.size + 1 ≠ w.heap.size + 2; omega)).trans h.n, Kde u h.g, Kbt h.b (by omega) u, by rw [set_size]; exact h.sz⟩
theorem LM.start : LM w (((w.alloc (.cells x 74)).alloc (.cells cn 70)).alloc (.cells cg 25)) x cn cg := by
 have b1 := Kad (w := w) (.cells x 74)
 have b2 := Kad (w := w.alloc (.cells x 74)) (.cells cn 70)
 have b3 := Kad (w := (w.alloc (.cells x 74)).alloc (.cells cn 70)) (.cells cg 25)
 have h2 := heap_alloc_new (w.alloc (.cells x 74)) (.cells cn 70)
 have h3 := heap_alloc_new ((w.alloc (.cells x 74)).alloc (.cells cn 70)) (.cells cg 25)
 simp only [World.size_alloc] at h2 h3
 exact ⟨Kap b3 (by simp; omega) (Kap b2 (by simp) (heap_alloc_new w _)), Kap b3 (by simp) h2, h3, Kaa b1 (Kaa b2 b3), by simp⟩
theorem row_one {g : Nat} (h : W.heap[g]? = some (.cells #[.int .i64 m, .slice none 0 0, .slice none 0 0] 70 (0, 0))) (hg : w.heap.size + 3 ≤ g) : GIn NOwn 70 3 (fun b => w.heap.size + 3 ≤ b) W (.slice (some ⟨g, 0, none⟩) 1 1) [Kce m] :=
 ⟨[#[.int .i64 m, .slice none 0 0, .slice none 0 0]], ⟨Kef h (Nat.le_refl _) (by simp [maxLen]) rfl rfl rfl, fun b hb => by cases hb; exact hg⟩, GOwns.snoc (l := []) (xs := []) .nil (nodeOf_own m)⟩
theorem lm_first (h : LM w W x #[.int .i64 0, .slice none 0 0, .slice none 0 0] #[.slice none 0 0, .slice none 0 0, .int .i64 topN, .int .i64 topN]) (m : Int) : ∃ Wa Wb Wc p, (storeVar 2 ⟨w.heap.size + 1, 0, none⟩ (.int .i64 m)).run Tryz.prog W = .ok () Wa ∧ (loadVar 70 ⟨w.heap.size + 1, 0, none⟩).run Tryz.prog Wa = .ok (.agg #[.int .i64 m, .slice none 0 0, .slice none 0 0]) Wa ∧
 (Instr.buildSlice 22 1 #[(0, .agg #[.int .i64 m, .slice none 0 0, .slice none 0 0])]).run Tryz.prog Wa = .ok (.slice p 1 1) Wb ∧ (storeVar 22 ⟨w.heap.size + 2, 0, none⟩ (.slice p 1 1)).run Tryz.prog Wb = .ok () Wc ∧ LM w Wc x #[.int .i64 m, .slice none 0 0, .slice none 0 0] #[.slice p 1 1, .slice none 0 0, .int .i64 topN, .int .i64 topN] ∧ GIn NOwn 70 3 (fun b => w.heap.size + 3 ≤ b) Wc (.slice p 1 1) [Kce m] := by
 have h1 := h.setN 0 (.int .i64 m)
 simp only [List.setIfInBounds_toArray, List.set_cons_zero, List.set_cons_succ] at h1
 have h2 := h1.alloc (.cells #[.int .i64 m, .slice none 0 0, .slice none 0 0] 70)
 have hsz := h1.sz
 refine ⟨_, _, _, _, Kcd (Kab (o := 0) h.n rfl) (Kaq (o := 0) h.n), Kb2.get rfl h1.n, Kam (P := Tryz.prog) (v:=.agg #[.int .i64 m, .slice none 0 0, .slice none 0 0]) Tryz.underlying22 Tryz.sizeOf70 Tryz.zeroValue70 rfl (by omega) (by omega), Kdm (Kab (o := 0) h2.g rfl) (Kaq (o := 0) h2.g), ?_, ?_⟩
 ·have h3 := h2.setG 0 (.slice (some ⟨(W.setCell ⟨w.heap.size + 1, 0, none⟩ (.int .i64 m)).heap.size, 0, none⟩) 1 1)
  simp only [List.setIfInBounds_toArray, List.set_cons_zero, List.set_cons_succ] at h3
  exact h3
 ·exact row_one ((Below.heap_setCell _ ⟨w.heap.size + 2, 0, none⟩ _ _ (by show (W.setCell ⟨w.heap.size + 1, 0, none⟩ (.int .i64 m)).heap.size ≠ w.heap.size + 2; omega)).trans (heap_alloc_new _ _)) hsz
theorem lm_second (h : LM w W x #[.int .i64 m, .slice none 0 0, .slice none 0 0] #[.slice p 1 c, .slice none 0 0, .int .i64 topN, .int .i64 topN]) (hg : GIn NOwn 70 3 (fun b => w.heap.size + 3 ≤ b) W (.slice p 1 c) [Kce m]) (M : Int) : ∃ Wa Wb Wc Wd p2 p3 c3, (storeVar 2 ⟨w.heap.size + 1, 0, none⟩ (.int .i64 M)).run Tryz.prog W = .ok () Wa ∧ Wa.cell? ⟨w.heap.size + 2, 0, none⟩ = some (.slice p 1 c) ∧ (loadVar 70 ⟨w.heap.size + 1, 0, none⟩).run Tryz.prog Wa = .ok (.agg #[.int .i64 M, .slice none 0 0, .slice none 0 0]) Wa ∧
 (Instr.buildSlice 22 1 #[(0, .agg #[.int .i64 M, .slice none 0 0, .slice none 0 0])]).run Tryz.prog Wa = .ok (.slice p2 1 1) Wb ∧ (Builtin.append_ #[22, 22] 22 #[.slice p 1 c, .slice p2 1 1]).run Tryz.prog Wb = .ok (.slice p3 2 c3) Wc ∧ (storeVar 22 ⟨w.heap.size + 2, 0, none⟩ (.slice p3 2 c3)).run Tryz.prog Wc = .ok () Wd ∧ LM w Wd x #[.int .i64 M, .slice none 0 0, .slice none 0 0] #[.slice p3 2 c3, .slice none 0 0, .int .i64 topN, .int .i64 topN] ∧ GIn NOwn 70 3 (fun b => w.heap.size + 3 ≤ b) Wd (.slice p3 2 c3) [Kce m, Kce M] := by
 have h1 := h.setN 0 (.int .i64 M)
 simp only [List.setIfInBounds_toArray, List.set_cons_zero, List.set_cons_succ] at h1
 have hsz := h1.sz
 have hg1 := hg.kept (W' := W.setCell ⟨w.heap.size + 1, 0, none⟩ (.int .i64 M)) Kbf (fun b hb _ => Below.heap_setCell _ ⟨w.heap.size + 1, 0, none⟩ _ b (by show b ≠ w.heap.size + 1; omega)) (fun b _ hb => hb)
 obtain ⟨v', W2, a1, a2, a3, _⟩ := hg1.stepo Kbf gt_node (P' := (fun b => w.heap.size + 3 ≤ b)) (W1 := W.setCell ⟨w.heap.size + 1, 0, none⟩ (.int .i64 M)) (fun b _ _ => rfl) (Nat.le_refl _) (fun b _ hb => hb) (fun b hb => Nat.le_trans hsz hb) (nodeOf_own M) (by simp) 22
 obtain ⟨p3, c3, rfl⟩ := a2.slice
 have hlow : ∀ b, (Value.slice p 1 c).ownBlock = some b → w.heap.size + 3 ≤ b := fun b e => (hg.lt b e).2
 have hbn := Kad (w := W.setCell ⟨w.heap.size + 1, 0, none⟩ (.int .i64 M)) (.cells #[.int .i64 M, .slice none 0 0, .slice none 0 0] 70)
 have h2 := h1.keep (W' := W2) (fun b hb => (a3.block b (by have := hbn.size; omega) (fun e => by have := hlow b e; omega)).trans (hbn.block b (by omega))) (a3.below (Kaa h1.b hbn) (fun b hb e => by have := hlow b e; omega) (by have := h1.b.size; have := hbn.size; omega)) (by have := hbn.size; have := a3.size; omega)
 refine ⟨_, _, W2, _, _, p3, c3, Kcd (Kab (o := 0) h.n rfl) (Kaq (o := 0) h.n), Kab (o := 0) h1.g rfl, Kb2.get rfl h1.n, Kam (P := Tryz.prog) (v:=.agg #[.int .i64 M, .slice none 0 0, .slice none 0 0]) Tryz.underlying22 Tryz.sizeOf70 Tryz.zeroValue70 rfl (by omega) (by omega), a1, Kdm (Kab (o := 0) h2.g rfl) (Kaq (o := 0) h2.g), ?_, ?_⟩
 ·have h3 := h2.setG 0 (.slice p3 2 c3)
  simp only [List.setIfInBounds_toArray, List.set_cons_zero, List.set_cons_succ] at h3
  exact h3
 ·exact a2.kept Kbf (fun b hb _ => Below.heap_setCell _ ⟨w.heap.size + 2, 0, none⟩ _ b (by show b ≠ w.heap.size + 2; omega)) (fun b _ hb => hb)
theorem lm_rel {ids : List Int} {r : RelD} (h : LM w W x cn #[.slice p ids.length c, .slice none 0 0, .int .i64 topN, .int .i64 topN]) (hg : GIn NOwn 70 3 (fun b => w.heap.size + 3 ≤ b) W (.slice p ids.length c) (ids.map Kce)) (hl : ids.length ≤ 2) (hr : RRd w r xb) (hx : ∀ (i : Nat) (u : Value), xb[i]? = some u → x[6 + i]? = some u) :
 ∃ Wa p2 Wb xg, (loadVar 72 ⟨w.heap.size, 6, none⟩).run Tryz.prog W = .ok (.agg xb) W ∧ (Instr.buildSlice 23 1 #[(0, .agg xb)]).run Tryz.prog W = .ok (.slice p2 1 1) Wa ∧ (storeVar 23 ⟨w.heap.size + 2, 1, none⟩ (.slice p2 1 1)).run Tryz.prog Wa = .ok () Wb ∧ (loadVar 25 ⟨w.heap.size + 2, 0, none⟩).run Tryz.prog Wb = .ok (.agg xg) Wb ∧ GrRd Wb ⟨ids.map Kce, [r], topN, topN⟩ xg ∧ Below w.heap.size w Wb := by
 have sb := ef_rel.size hr
 have h1 := h.alloc (.cells xb 72)
 have h2 := h1.setG 1 (.slice (some ⟨W.heap.size, 0, none⟩) 1 1)
 simp only [List.setIfInBounds_toArray, List.set_cons_zero, List.set_cons_succ] at h2
 have hsz := h.sz
 have hg2 := (hg.own Kbf).keep Kbf (w' := (W.alloc (.cells xb 72)).setCell ⟨w.heap.size + 2, 1, none⟩ (.slice (some ⟨W.heap.size, 0, none⟩) 1 1)) fun b hb hlt => (Below.heap_setCell _ ⟨w.heap.size + 2, 1, none⟩ _ b (by show b ≠ w.heap.size + 2; omega)).trans ((Kad _).block b hlt)
 obtain ⟨p', c', e, hg3⟩ := hg2.rd Kbf (F := NRd) (by simp; omega) (fun v hv x hx => hx.rd (by obtain ⟨i, _, rfl⟩ := List.mem_map.1 hv; rw [totN_of]; omega))
 simp only [List.length_map, Value.slice.injEq] at e
 obtain ⟨rfl, _, rfl⟩ := e
 refine ⟨_, _, _, _, Kdj.load sb (fun i u hu => Kab (o := 6 + i) h.c (hx i u hu)), Kam (P := Tryz.prog) (v:=.agg xb) Tryz.underlying23 Tryz.sizeOf72 Tryz.zeroValue72 sb (by omega) (by omega), put_rels (Kab (o := 1) h1.g rfl) (Kaq (o := 1) h1.g), Kbz.get rfl h2.g, ⟨p, c, some ⟨W.heap.size, 0, none⟩, 1, by simp, hg3, ?_⟩, h2.b⟩
 exact grd_one ((Below.heap_setCell _ ⟨w.heap.size + 2, 1, none⟩ _ _ (by show W.heap.size ≠ w.heap.size + 2; omega)).trans (heap_alloc_new W _)) sb (hr.below h2.b)
theorem lm_node {n : NodeD} (h : LM w W x cn #[.slice none 0 0, .slice none 0 0, .int .i64 topN, .int .i64 topN]) (hr : NRd w n xa) (hx : ∀ (i : Nat) (u : Value), xa[i]? = some u → x[3 + i]? = some u) :
 ∃ Wa p2 Wb xg, (loadVar 70 ⟨w.heap.size, 3, none⟩).run Tryz.prog W = .ok (.agg xa) W ∧ (Instr.buildSlice 22 1 #[(0, .agg xa)]).run Tryz.prog W = .ok (.slice p2 1 1) Wa ∧ (storeVar 22 ⟨w.heap.size + 2, 0, none⟩ (.slice p2 1 1)).run Tryz.prog Wa = .ok () Wb ∧ (loadVar 25 ⟨w.heap.size + 2, 0, none⟩).run Tryz.prog Wb = .ok (.agg xg) Wb ∧ GrRd Wb ⟨[n], [], topN, topN⟩ xg ∧ Below w.heap.size w Wb := by
 have sb := Kd3.size hr
 have h1 := h.alloc (.cells xa 70)
 have h2 := h1.setG 0 (.slice (some ⟨W.heap.size, 0, none⟩) 1 1)
 simp only [List.setIfInBounds_toArray, List.set_cons_zero, List.set_cons_succ] at h2
 have hsz := h.sz
 refine ⟨_, _, _, _, Kb2.load sb (fun i u hu => Kab (o := 3 + i) h.c (hx i u hu)), Kam (P := Tryz.prog) (v:=.agg xa) Tryz.underlying22 Tryz.sizeOf70 Tryz.zeroValue70 sb (by omega) (by omega), Kdm (Kab (o := 0) h1.g rfl) (Kaq (o := 0) h1.g), Kbz.get rfl h2.g, ⟨some ⟨W.heap.size, 0, none⟩, 1, none, 0, rfl, ?_, grd_none⟩, h2.b⟩
 exact grd_one ((Below.heap_setCell _ ⟨w.heap.size + 2, 0, none⟩ _ _ (by show W.heap.size ≠ w.heap.size + 2; omega)).trans (heap_alloc_new W _)) sb (hr.below h2.b)
end
theorem ends_tot (l : List Int) : ((l.map Kce).map totN).sum = l.length := by
 have e : (l.map Kce).map totN = l.map (fun _ => 1) := by rw [List.map_map]; rfl
 rw [e, List.map_const', List.sum_replicate_nat]; simp
theorem lmay_node {w : World} (hE : Env w) {cd : ChangeD} {x : Array Value} (hx : CRd w cd x) (h0 : cd.kind = 0) (ht : totC cd ≤ 900000) : Calls Tryz.prog 78 #[.agg x] w fun e w' => e = .returned (.bool (okC cd)) ∧ Below w.heap.size w w' := by
 have hxs := Kdn.size hx
 obtain ⟨xa, xb, hna, hrb, x0, _, _, xna, xrb⟩ := Kb8 hx
 have hs1 := Kb2.fresh (P := Tryz.prog) (W := w.alloc (.cells x 74)) (cs := #[.int .i64 0, .slice none 0 0, .slice none 0 0]) rfl (by simp [Value.oneCell'])
 have hs2 := Kbz.fresh (P := Tryz.prog) (W := (w.alloc (.cells x 74)).alloc (.cells #[.int .i64 0, .slice none 0 0, .slice none 0 0] 70)) (cs := gBox) rfl (by simp [Value.oneCell'])
 simp only [World.size_alloc] at hs1 hs2
 have hlm : LM w (((w.alloc (.cells x 74)).alloc (.cells #[.int .i64 0, .slice none 0 0, .slice none 0 0] 70)).alloc (.cells gBox 25)) x #[.int .i64 0, .slice none 0 0, .slice none 0 0] gBox := LM.start
 have hcc := Kab (o := 0) hlm.c x0
 have HLM := yh hlm
 have HS1 := yh hs1
 have HS2 := yh hs2
 clear hs1 hs2 hlm
 obtain ⟨Wa, p2, Wb, xg, n1, n2, n3, n4, n5, n6⟩ := lm_node HLM.out hna xna
 have hck := Kds (hE.b n6) n5 (by unfold totG; unfold totC at ht; simp; omega)
 have hok : okC cd = okG ⟨[cd.node], [], topN, topN⟩ := by unfold okC; rw [if_pos h0]
 rw [h0] at hcc
 have H1 := yh n1
 have H2 := yh n2
 have H3 := yh n3
 have H4 := yh n4
 have HCK := yh hck
 have HBW := yh n6
 rw [hok]
 clear n1 n2 n3 n4 n5 n6 hck hok hx hna hrb x0 xna xrb hE h0
 generalize okG ⟨[cd.node], [], topN, topN⟩ = r at *
 go_enter Tryz.func78, Tryz.ntmps78
 go_wp2_with (first
  | ((with_reducible apply Kac); exact HS1.out _ rfl; exact rfl; exact rfl; clear HS1)
  | ((with_reducible apply Kac); exact HS2.out _ rfl; exact rfl; exact rfl; clear HS2; generalize ((w.alloc (.cells x 74)).alloc (.cells #[.int .i64 0, .slice none 0 0, .slice none 0 0] 70)).alloc (.cells gBox 25) = W3 at *)
  | ((with_reducible apply Kal); exact H1.out; exact rfl; clear H1)
  | ((with_reducible apply Kci); exact H2.out; exact rfl; clear H2)
  | ((with_reducible apply Kac); exact H3.out; exact rfl; exact rfl; clear H3)
  | ((with_reducible apply Kal); exact H4.out; exact rfl)
  | (go_at_call 13
     (
      refine HCK.out.mono ?_
      rintro e W5 ⟨rfl, hb⟩
      have HB5 := yh (Kaa HBW.out hb)
      clear hb HCK))
  | (go_at_call 12; refine (num_err _ _).mono ?_; rintro e w' ⟨rfl, rfl⟩))
 go_ret
 have e : (errG r == 0) = r := by cases r <;> rfl
 exact ⟨by show Ending.returned (.bool (errG r == 0)) = _; rw [e], HB5.out⟩
theorem lmay_rel {w : World} (hE : Env w) {cd : ChangeD} {x : Array Value} (hx : CRd w cd x) (h1 : cd.kind = 1) (ht : totC cd ≤ 900000) : Calls Tryz.prog 78 #[.agg x] w fun e w' => e = .returned (.bool (okC cd)) ∧ Below w.heap.size w w' := by
 have hxs := Kdn.size hx
 obtain ⟨xa, xb, hna, hrb, x0, _, _, xna, xrb⟩ := Kb8 hx
 have hs1 := Kb2.fresh (P := Tryz.prog) (W := w.alloc (.cells x 74)) (cs := #[.int .i64 0, .slice none 0 0, .slice none 0 0]) rfl (by simp [Value.oneCell'])
 have hs2 := Kbz.fresh (P := Tryz.prog) (W := (w.alloc (.cells x 74)).alloc (.cells #[.int .i64 0, .slice none 0 0, .slice none 0 0] 70)) (cs := gBox) rfl (by simp [Value.oneCell'])
 simp only [World.size_alloc] at hs1 hs2
 have hlm : LM w (((w.alloc (.cells x 74)).alloc (.cells #[.int .i64 0, .slice none 0 0, .slice none 0 0] 70)).alloc (.cells gBox 25)) x #[.int .i64 0, .slice none 0 0, .slice none 0 0] gBox := LM.start
 have hcc := Kab (o := 0) hlm.c x0
 have HLM := yh hlm
 have HS1 := yh hs1
 have HS2 := yh hs2
 clear hs1 hs2 hlm
 have hrange := okC_range h1
 have hok := ends_ok cd h1
 obtain ⟨pp, cp, exb, _⟩ := id hrb
 have x7 : x[7]? = some (.int .i64 cd.rel.src) := xrb 1 _ (by rw [exb]; rfl)
 have x8 : x[8]? = some (.int .i64 cd.rel.dst) := xrb 2 _ (by rw [exb]; rfl)
 have c7 := Kab (o := 7) HLM.out.c x7
 have c8 := Kab (o := 8) HLM.out.c x8
 rw [h1] at hcc
 have HK := yh (fun W xg (g : GrRd W ⟨(Kcb cd.rel.src cd.rel.dst).map Kce, [cd.rel], topN, topN⟩ xg) (b : Below w.heap.size w W) => Kds (hE.b b) g (by
  have h1 := ends_tot (Kcb cd.rel.src cd.rel.dst)
  have h2 := ends_len cd.rel.src cd.rel.dst
  have h3 : (Kcb cd.rel.src cd.rel.dst).length ≤ 2 := by rw [h2]; split <;> omega
  unfold totG; unfold totC at ht
  simp only [List.map_cons, List.map_nil, List.sum_cons, List.sum_nil]
  omega))
 have HRB := yh hrb
 have HXRB := yh xrb
 have HOK := yh hok
 have HX := yh (And.intro x7 x8)
 clear hx hna hrb x0 xna xrb hE h1 exb ht x7 x8
 by_cases hin : (0 ≤ cd.rel.src ∧ cd.rel.src < topN) ∧ 0 ≤ cd.rel.dst ∧ cd.rel.dst < topN
 rotate_left
 ·have hno : okC cd = false := by cases h : okC cd; rfl; exact absurd (hrange h) hin
  rw [hno]
  have HB := yh HLM.out.b
  clear hok hrange HOK hno HK HRB HXRB HX
  generalize cd.rel.src = s at *
  generalize cd.rel.dst = d at *
  have hcase : s < 0 ∨ (¬ s < 0 ∧ d < 0) ∨ (¬ s < 0 ∧ ¬ d < 0 ∧ 4611686018427387904 ≤ s) ∨ (¬ s < 0 ∧ ¬ d < 0 ∧ ¬ 4611686018427387904 ≤ s ∧ 4611686018427387904 ≤ d) := by unfold topN at hin; omega
  clear hin
  rcases hcase with k1 | ⟨k1, k2⟩ | ⟨k1, k2, k3⟩ | ⟨k1, k2, k3, k4⟩
  all_goals
   try have k1b := decide_eq_false k1
   try have k2b := decide_eq_false k2
   try have k3b := decide_eq_false k3
   go_enter Tryz.func78, Tryz.ntmps78
   go_wp2_with (first
    | ((with_reducible apply Kac); exact HS1.out _ rfl; exact rfl; exact rfl; clear HS1)
    | ((with_reducible apply Kac); exact HS2.out _ rfl; exact rfl; exact rfl; clear HS2; generalize ((w.alloc (.cells x 74)).alloc (.cells #[.int .i64 0, .slice none 0 0, .slice none 0 0] 70)).alloc (.cells gBox 25) = W3 at *))
   go_ret
   exact ⟨rfl, HB.out⟩
 clear hrange
 rw [hok]
 clear hok HOK
 obtain ⟨⟨g1, g2⟩, g3, g4⟩ := hin
 have k1 : ¬ cd.rel.src < 0 := by omega
 have k2 : ¬ cd.rel.dst < 0 := by omega
 have k3 : ¬ 4611686018427387904 ≤ cd.rel.src := by unfold topN at g2; omega
 have k4 : ¬ 4611686018427387904 ≤ cd.rel.dst := by unfold topN at g4; omega
 have k1b := decide_eq_false k1
 have k2b := decide_eq_false k2
 have k3b := decide_eq_false k3
 have k4b := decide_eq_false k4
 clear g1 g2 g3 g4
 by_cases he : cd.rel.src = cd.rel.dst
 ·have hid : Kcb cd.rel.src cd.rel.dst = [min cd.rel.src cd.rel.dst] := by unfold Kcb; rw [if_pos he, he]; simp
  obtain ⟨Wa, Wb, Wc, p, n1, n2, n3, n4, n5, n6⟩ := lm_first HLM.out (min cd.rel.src cd.rel.dst)
  have d7 := Kab (o := 7) n5.c HX.out.1
  have d8 := Kab (o := 8) n5.c HX.out.2
  have H1 := yh n1
  have H2 := yh n2
  have H3 := yh n3
  have H4 := yh n4
  rw [hid] at HK ⊢
  obtain ⟨Wd, p2, We, xg, r1, r2, r3, r4, r5, r6⟩ := lm_rel (ids := [min cd.rel.src cd.rel.dst]) n5 n6 (by simp) HRB.out HXRB.out
  have hcke := HK.out _ _ r5 r6
  have hne : (cd.rel.src != cd.rel.dst) = false := by rw [bne_eq_false_iff_eq]; exact he
  have R1 := yh r1
  have R2 := yh r2
  have R3 := yh r3
  have R4 := yh r4
  have HCK := yh hcke
  have HBW := yh r6
  clear n1 n2 n3 n4 n5 n6 r1 r2 r3 r4 r5 r6 hcke hid HK he
  generalize okG ⟨[min cd.rel.src cd.rel.dst].map Kce, [cd.rel], topN, topN⟩ = r at *
  go_enter Tryz.func78, Tryz.ntmps78
  go_wp2_with (first
   | ((with_reducible apply Kac); exact HS1.out _ rfl; exact rfl; exact rfl; clear HS1)
   | ((with_reducible apply Kac); exact HS2.out _ rfl; exact rfl; exact rfl; clear HS2; generalize ((w.alloc (.cells x 74)).alloc (.cells #[.int .i64 0, .slice none 0 0, .slice none 0 0] 70)).alloc (.cells gBox 25) = W3 at *)
   | ((with_reducible apply Kac); exact H1.out; exact rfl; exact rfl; clear H1)
   | ((with_reducible apply Kal); exact H2.out; exact rfl; clear H2)
   | ((with_reducible apply Kci); exact H3.out; exact rfl; clear H3)
   | ((with_reducible apply Kac); exact H4.out; exact rfl; exact rfl; clear H4)
   | ((with_reducible apply Kal); exact R1.out; exact rfl; clear R1)
   | ((with_reducible apply Kci); exact R2.out; exact rfl; clear R2)
   | ((with_reducible apply Kac); exact R3.out; exact rfl; exact rfl; clear R3)
   | ((with_reducible apply Kal); exact R4.out; exact rfl)
   | (go_at_call 13
      (
       refine HCK.out.mono ?_
       rintro e W5 ⟨rfl, hb⟩
       have HB5 := yh (Kaa HBW.out hb)
       clear hb HCK))
   | (go_at_call 12; refine (num_err _ _).mono ?_; rintro e w' ⟨rfl, rfl⟩))
  go_ret
  have e : (errG r == 0) = r := by cases r <;> rfl
  exact ⟨by show Ending.returned (.bool (errG r == 0)) = _; rw [e], HB5.out⟩
 ·have hid : Kcb cd.rel.src cd.rel.dst = [min cd.rel.src cd.rel.dst, max cd.rel.src cd.rel.dst] := by unfold Kcb; rw [if_neg he]
  obtain ⟨Wa, Wb, Wc, p, n1, n2, n3, n4, n5, n6⟩ := lm_first HLM.out (min cd.rel.src cd.rel.dst)
  have d7 := Kab (o := 7) n5.c HX.out.1
  have d8 := Kab (o := 8) n5.c HX.out.2
  have H1 := yh n1
  have H2 := yh n2
  have H3 := yh n3
  have H4 := yh n4
  rw [hid] at HK ⊢
  obtain ⟨Wd, We, Wf, Wg, p2, p3, c3, m1, m2, m3, m4, m5, m6, m7, m8⟩ := lm_second n5 n6 (max cd.rel.src cd.rel.dst)
  obtain ⟨Wh, p4, Wi, xg, r1, r2, r3, r4, r5, r6⟩ := lm_rel (ids := [min cd.rel.src cd.rel.dst, max cd.rel.src cd.rel.dst]) m7 m8 (by simp) HRB.out HXRB.out
  have hcke := HK.out _ _ r5 r6
  have hne : (cd.rel.src != cd.rel.dst) = true := by rw [bne_iff_ne]; exact he
  have M1 := yh m1
  have M3 := yh m3
  have M4 := yh m4
  have M5 := yh m5
  have M6 := yh m6
  have R1 := yh r1
  have R2 := yh r2
  have R3 := yh r3
  have R4 := yh r4
  have HCK := yh hcke
  have HBW := yh r6
  clear n1 n2 n3 n4 n5 n6 m1 m3 m4 m5 m6 m7 m8 r1 r2 r3 r4 r5 r6 hcke hid HK he
  generalize okG ⟨[min cd.rel.src cd.rel.dst, max cd.rel.src cd.rel.dst].map Kce, [cd.rel], topN, topN⟩ = r at *
  go_enter Tryz.func78, Tryz.ntmps78
  go_wp2_with (first
   | ((with_reducible apply Kac); exact HS1.out _ rfl; exact rfl; exact rfl; clear HS1)
   | ((with_reducible apply Kac); exact HS2.out _ rfl; exact rfl; exact rfl; clear HS2; generalize ((w.alloc (.cells x 74)).alloc (.cells #[.int .i64 0, .slice none 0 0, .slice none 0 0] 70)).alloc (.cells gBox 25) = W3 at *)
   | ((with_reducible apply Kac); exact H1.out; exact rfl; exact rfl; clear H1)
   | ((with_reducible apply Kal); exact H2.out; exact rfl; clear H2)
   | ((with_reducible apply Kci); exact H3.out; exact rfl; clear H3)
   | ((with_reducible apply Kac); exact H4.out; exact rfl; exact rfl; clear H4)
   | ((with_reducible apply Kac); exact M1.out; exact rfl; exact rfl; clear M1)
   | ((with_reducible apply Kal); exact M3.out; exact rfl; clear M3)
   | ((with_reducible apply Kci); exact M4.out; exact rfl; clear M4)
   | ((with_reducible apply Kar); exact M5.out; exact rfl; exact rfl; clear M5)
   | ((with_reducible apply Kac); exact M6.out; exact rfl; exact rfl; clear M6)
   | ((with_reducible apply Kal); exact R1.out; exact rfl; clear R1)
   | ((with_reducible apply Kci); exact R2.out; exact rfl; clear R2)
   | ((with_reducible apply Kac); exact R3.out; exact rfl; exact rfl; clear R3)
   | ((with_reducible apply Kal); exact R4.out; exact rfl)
   | (go_at_call 13
      (
       refine HCK.out.mono ?_
       rintro e W5 ⟨rfl, hb⟩
       have HB5 := yh (Kaa HBW.out hb)
       clear hb HCK))
   | (go_at_call 12; refine (num_err _ _).mono ?_; rintro e w' ⟨rfl, rfl⟩))
  go_ret
  have e : (errG r == 0) = r := by cases r <;> rfl
  exact ⟨by show Ending.returned (.bool (errG r == 0)) = _; rw [e], HB5.out⟩
theorem lmay_other {w : World} {cd : ChangeD} {x : Array Value} (hx : CRd w cd x) (h0 : cd.kind ≠ 0) (h1 : cd.kind ≠ 1) : Calls Tryz.prog 78 #[.agg x] w fun e w' => e = .returned (.bool (okC cd)) ∧ Below w.heap.size w w' := by
 have hxs := Kdn.size hx
 obtain ⟨xa, xb, hna, hrb, x0, _, _, xna, xrb⟩ := Kb8 hx
 have hs1 := Kb2.fresh (P := Tryz.prog) (W := w.alloc (.cells x 74)) (cs := #[.int .i64 0, .slice none 0 0, .slice none 0 0]) rfl (by simp [Value.oneCell'])
 have hs2 := Kbz.fresh (P := Tryz.prog) (W := (w.alloc (.cells x 74)).alloc (.cells #[.int .i64 0, .slice none 0 0, .slice none 0 0] 70)) (cs := gBox) rfl (by simp [Value.oneCell'])
 simp only [World.size_alloc] at hs1 hs2
 have hlm : LM w (((w.alloc (.cells x 74)).alloc (.cells #[.int .i64 0, .slice none 0 0, .slice none 0 0] 70)).alloc (.cells gBox 25)) x #[.int .i64 0, .slice none 0 0, .slice none 0 0] gBox := LM.start
 have hcc := Kab (o := 0) hlm.c x0
 have HLM := yh hlm
 have HS1 := yh hs1
 have HS2 := yh hs2
 clear hs1 hs2 hlm
 have hok : okC cd = (decide (2 ≤ cd.kind) && decide (cd.kind ≤ 4)) := by unfold okC; rw [if_neg h0, if_neg h1]
 rw [hok]
 have HB := yh HLM.out.b
 clear hok hx hna hrb x0 xna xrb HLM
 generalize cd.kind = k at *
 have k0 : (k == 0) = false := by rw [beq_eq_false_iff_ne]; exact h0
 have k1 : (k == 1) = false := by rw [beq_eq_false_iff_ne]; exact h1
 have hcase : (0 ≤ k ∧ k ≤ 4 ∧ (decide (2 ≤ k) && decide (k ≤ 4)) = true) ∨ (0 ≤ k ∧ ¬ k ≤ 4 ∧ (decide (2 ≤ k) && decide (k ≤ 4)) = false) ∨ (¬ 0 ≤ k ∧ (decide (2 ≤ k) && decide (k ≤ 4)) = false) := by
  by_cases a : 0 ≤ k
  ·by_cases b : k ≤ 4
   ·exact .inl ⟨a, b, by simp; omega⟩
   ·exact .inr (.inl ⟨a, b, by simp; omega⟩)
  ·exact .inr (.inr ⟨a, by simp; omega⟩)
 clear h0 h1
 rcases hcase with ⟨k2, k3, e⟩ | ⟨k2, k3, e⟩ | ⟨k2, e⟩
 all_goals
  rw [e]
  clear e
  try have k2b := decide_eq_false k2
  try have k2c := decide_eq_true k2
  try have k3b := decide_eq_false k3
  try have k3c := decide_eq_true k3
  go_enter Tryz.func78, Tryz.ntmps78
  go_wp2_with (first
   | ((with_reducible apply Kac); exact HS1.out _ rfl; exact rfl; exact rfl; clear HS1)
   | ((with_reducible apply Kac); exact HS2.out _ rfl; exact rfl; exact rfl; clear HS2; generalize ((w.alloc (.cells x 74)).alloc (.cells #[.int .i64 0, .slice none 0 0, .slice none 0 0] 70)).alloc (.cells gBox 25) = W3 at *))
  go_ret
  exact ⟨rfl, HB.out⟩
theorem lmayC_any {w : World} (hE : Env w) {cd : ChangeD} {x : Array Value} (hx : CRd w cd x) (ht : totC cd ≤ 900000) : Calls Tryz.prog 78 #[.agg x] w fun e w' => e = .returned (.bool (okC cd)) ∧ Below w.heap.size w w' := by
 by_cases h0 : cd.kind = 0
 ·exact lmay_node hE hx h0 ht
 ·by_cases h1 : cd.kind = 1
  ·exact lmay_rel hE hx h1 ht
  ·exact lmay_other hx h0 h1
theorem lall_any {w : World} (hE : Env w) {p : Option Addr} {c : Nat} {l : List ChangeD} (h : GRd CRd 11 w p c l) (ht : ∀ x ∈ l, totC x ≤ 900000) : Calls Tryz.prog 28 #[.slice p l.length c] w fun e w' => e = .returned (.bool (l.all okC)) ∧ Below w.heap.size w w' := by
 have z1 : (l.length : Int) ≤ 140737488355328 := by have := h.1.2.1; omega
 have H := yh h
 have HE := yh hE
 have HT := yh ht
 clear h hE ht
 go_enter Tryz.func28, Tryz.ntmps28
 go_wp2
 go_loopw [3] (fun i W => ∃ j : Nat, j ≤ l.length ∧ i = .int .i64 (j : Int) ∧ Hid ((l.take j).all okC = true ∧ Below w.heap.size w W)) (fun i _ => l.length - (intOf i).toNat)
 case atStart => exact ⟨0, Nat.zero_le _, rfl, yh ⟨rfl, Below.refl _ _⟩⟩
 case round =>
  obtain ⟨j, hj, rfl, HI⟩ := hrel
  by_cases hlt : j < l.length
  ·have hlt1 : j + 1 ≤ l.length := hlt
   obtain ⟨b, of, cs, rfl, hs, hc, hv⟩ := H.out.get hlt
   have hHL := StT.load (P := Tryz.prog) (g := b) (o := of + j * 11) (W := wr) Ka8 hs fun i u hu => Kag HI.out.2 (ltOf (hc i u hu)) (hc i u hu)
   have hcall := lmayC_any (HE.out.b HI.out.2) (hv.below HI.out.2) (HT.out _ (List.getElem_mem hlt))
   have hyes : okC l[j] = true → (l.take (j + 1)).all okC = true := fun e => Ke3 hlt HI.out.1 e
   have hno : okC l[j] = false → l.all okC = false := fun e => by rw [List.all_eq_false]; exact ⟨l[j], List.getElem_mem hlt, by simp [e]⟩
   have HLX := yh hHL
   have HC := yh hcall
   have HY := yh hyes
   have HN := yh hno
   clear hHL hcall hyes hno hs hc hv
   generalize okC l[j] = r at *
   go_wp2_with (first
    | ((with_reducible apply Kal); exact HLX.out; exact rfl)
    | (go_at_call 78
       (
        refine HC.out.mono ?_
        rintro e W2 ⟨rfl, hbw⟩
        have HF := yh (Kaa HI.out.2 hbw)
        clear hbw HC
        cases r)))
   ·go_ret
    exact ⟨by rw [HN.out (by simp)]; rfl, HF.out⟩
   ·go_roundw
    case rel => exact ⟨j + 1, hlt1, by go_num, yh ⟨HY.out (by simp), HF.out⟩⟩
    case measure => simp [intOf]; omega
  ·obtain rfl : j = l.length := by omega
   have hall : l.all okC = true := by have := HI.out.1; rwa [List.take_length] at this
   have HALL := yh hall
   clear hall
   go_wp2
   go_ret
   exact ⟨by rw [HALL.out]; rfl, HI.out.2⟩
def WayG {α : Type} (ok : α → Bool) (enc : α → List UInt8) (b : List UInt8) (v1 : α) (l1 : List UInt8) (b1 : Bool) (o : Option α) : Prop :=
 (b1 = true ∧ o = none) ∨ (b1 = false ∧ 0 < l1.length ∧ o = none) ∨ (b1 = false ∧ l1 = [] ∧ ok v1 = false ∧ o = none) ∨ (b1 = false ∧ l1 = [] ∧ ok v1 = true ∧ enc v1 ≠ b ∧ o = none) ∨ (b1 = false ∧ l1 = [] ∧ ok v1 = true ∧ enc v1 = b ∧ o = some v1)
theorem wayG_of {α : Type} {d : Dec α} {ok ok2 : α → Bool} {enc : α → List UInt8} {f : Rs → α × Rs} {b : List UInt8} (h1 : (f (b, false)).2.2 = false → (f (b, false)).2.1 = [] → ok (f (b, false)).1 = true → enc (f (b, false)).1 = b → readW d ok2 b = some (f (b, false)).1)
 (h2 : ¬ ((f (b, false)).2.2 = false ∧ (f (b, false)).2.1 = [] ∧ ok (f (b, false)).1 = true ∧ enc (f (b, false)).1 = b) → readW d ok2 b = none) : WayG ok enc b (f (b, false)).1 (f (b, false)).2.1 (f (b, false)).2.2 (readW d ok2 b) := by
 generalize f (b, false) = r at *
 obtain ⟨v1, l1, b1⟩ := r
 cases b1
 ·cases l1 with
  | cons c r => exact .inr (.inl ⟨rfl, by simp, h2 (by simp)⟩)
  | nil =>
    cases hk : ok v1
    ·exact .inr (.inr (.inl ⟨rfl, rfl, hk, h2 (by simp [hk])⟩))
    ·by_cases he : enc v1 = b
     ·exact .inr (.inr (.inr (.inr ⟨rfl, rfl, hk, he, h1 rfl rfl hk he⟩)))
     ·exact .inr (.inr (.inr (.inl ⟨rfl, rfl, hk, he, h2 (by simp [he])⟩)))
 ·exact .inl ⟨rfl, h2 (by simp)⟩
theorem changes_rd {w : World} {P : Nat → Prop} {p : Option Addr} {c n : Nat} {l : List ChangeD} (h : GOwn COwn 74 11 w P (.slice p n c) l) (ht : (l.map totC).sum ≤ 900000) : GRd CRd 11 w p c l := by
 have hl : l.length ≤ (l.map totC).sum := Kdd totC fun c _ => by have := totN_pos c.node; unfold totC; omega
 obtain ⟨p', c', e, h2⟩ := h.rd Kbr (F := CRd) (by omega) fun v hv x hx => hx.rd (Nat.le_trans (Kb5 totC hv) ht)
 cases e
 exact h2
theorem GotC.rd {w W' : World} {o : Option (List ChangeD)} {e : Ending} (h : GotC w o e W') (ht : ((o.getD []).map totC).sum ≤ 900000) : ∃ p c, e = .returned (.tuple #[.slice p (o.getD []).length c, .int .i64 (errR o)]) ∧ GRd CRd 11 W' p c (o.getD []) ∧ Below w.heap.size w W' := by
 obtain ⟨v, rfl, ho, hb⟩ := h
 obtain ⟨p, c, rfl⟩ := ho.slice
 exact ⟨p, c, rfl, changes_rd ho ht, hb⟩
theorem told_doc (s : Rs) : toldC (Kav s).1 = (Kav s).1 := by
 obtain ⟨b, bad⟩ := s
 cases b with
 | nil => rw [Kav]; rfl
 | cons c r =>
   have hc := c.toNat_lt
   rw [Kav]
   by_cases h0 : c.toNat = 0
   ·rw [if_pos h0]; rfl
   ·rw [if_neg h0]
    by_cases h1 : c.toNat = 1
    ·rw [if_pos h1]; rfl
    ·rw [if_neg h1]
     by_cases h2 : c.toNat = 2 ∨ c.toNat = 3
     ·rw [if_pos h2]
      unfold toldC
      simp only
      rw [if_neg (by omega), if_neg (by omega), if_neg (by omega)]
     ·rw [if_neg h2]
      by_cases h4 : c.toNat = 4
      ·rw [if_pos h4]; rfl
      ·rw [if_neg h4]
       unfold toldC
       simp only
       rw [if_neg (by omega), if_neg (by omega), if_neg (by omega)]
theorem told_cloop : ∀ (n : Nat) (s : Rs), ∀ c ∈ (Ka1 n s).1, toldC c = c
 | 0, s, c, h => by simp [Ka1] at h
 | n + 1, s, c, h => by
   rw [Ka1] at h
   split at h
   ·cases h
   ·rcases List.mem_cons.1 h with rfl | h
    ·exact told_doc s
    ·exact told_cloop n _ c h
theorem read_doc_at {α : Type} {d : Dec α} {e : α → List UInt8} {P : α → Prop} {ok : α → Bool} {f : Rs → α × Rs} {sz : α → Nat} {R : α → Prop} {b : List UInt8} (h : RT d e P) (g : DF f e P) (s : DS f sz R) (hw : ok (f (b, false)).1 = true → sz (f (b, false)).1 ≤ b.length → P (f (b, false)).1) :
 (docOk f e ok b → readW d ok b = some (f (b, false)).1) ∧ (¬ docOk f e ok b → readW d ok b = none) := by
 refine ⟨fun ⟨h1, h2, h3, h4⟩ => ?_, fun hn => ?_⟩
 ·have hs := s.size (b, false) h1
  rw [h2] at hs
  have hP := hw h3 (by simp only [List.length_nil] at hs; omega)
  have := readW_of (ok := ok) h hP h3
  rw [h4] at this
  exact this
 ·cases hr : readW d ok b with
  | none => rfl
  | some x =>
    obtain ⟨h1, h2, h3⟩ := readW_some h hr
    have := g x [] h2
    rw [List.append_nil, ← h1] at this
    exact absurd ⟨by rw [this], by rw [this], by rw [this]; exact h3, by rw [this]; exact h1.symm⟩ hn
theorem len_changes (l : List ChangeD) : l.length ≤ (l.map totC).sum := Kdd totC fun c _ => by have := totN_pos c.node; unfold totC; omega
theorem way_changes {b : List UInt8} (hl : b.length ≤ 3000) : WayG (fun l => l.all okC) Kby b (Kay (b, false)).1 (Kay (b, false)).2.1 (Kay (b, false)).2.2 (readW Kc4 okCs b) := by
 obtain ⟨h1, h2⟩ := read_doc_at (ok := okCs) (b := b) rt_changes df_changes Kdr (fun hk hs => by
  unfold okCs at hk
  simp only [Bool.and_eq_true] at hk
  have hr := Kdr.rng (b, false)
  have ht : ∀ c ∈ (Kay (b, false)).1, toldC c = c := told_cloop _ _
  generalize (Kay (b, false)).1 = l at *
  have hl := len_changes l
  refine ⟨by unfold u64T; omega, fun c hc => ?_⟩
  have := wf_of_okC (List.all_eq_true.1 hk.2 c hc) (hr c hc) (by have := Kb5 totC hc; omega)
  rw [ht c hc] at this
  exact this)
 unfold docOk at h1 h2
 have hlen : (Kay (b, false)).2.2 = false → (Kay (b, false)).1.length ≤ 65536 := fun hb => by
  have h3 := Kdr.size (b, false) hb
  have h4 := len_changes (Kay (b, false)).1
  simp only at h3
  omega
 refine wayG_of (fun a1 a2 a3 a4 => h1 ⟨a1, a2, ?_, a4⟩) (fun hn => h2 fun ⟨a1, a2, a3, a4⟩ => hn ⟨a1, a2, ?_, a4⟩)
 ·unfold okCs
  rw [decide_eq_true (hlen a1), Bool.true_and]; exact a3
 ·unfold okCs at a3
  simp only [Bool.and_eq_true] at a3
  exact a3.2
theorem readC_tot {b : List UInt8} {x : List ChangeD} (h : readW Kc4 okCs b = some x) : 1 + (x.map totC).sum ≤ b.length ∧ ∀ c ∈ x, rngC c := by
 obtain ⟨h1, h2⟩ := readW_dec h
 obtain ⟨h3, h4⟩ := tot_of rt_changes df_changes Kdr h1
 exact ⟨by simpa using h3, h4⟩
theorem useCs_of {l : List ChangeD} (h : l.all okC = true) (hr : ∀ c ∈ l, rngC c) (ht : (l.map totC).sum ≤ 3000) : ∀ x ∈ l, useC x := fun x hx =>
 useC_of (List.all_eq_true.1 h x hx) (hr x hx) (by have := Kb5 totC hx; omega)
theorem Kes {l : List ChangeD} (hr : ∀ c ∈ l, rngC c) (ht : (l.map totC).sum ≤ 3000) : (Kby l).length ≤ 800000 := by
 have := changesC_len hr (by omega); omega
theorem cchanges_any {w : World} (hE : Env w) {p0 : Option Addr} {c0 : Nat} {l : List ChangeD} (hx : GRd CRd 11 w p0 c0 l) (hr1 : ∀ c ∈ l, rngC c) {p : Option Addr} {c : Nat} {bs0 : List UInt8} (hrb : RdB w (.slice p bs0.length c) bs0) :
 Calls Tryz.prog 5 #[.slice p0 l.length c0, .slice p bs0.length c] w fun e w' => e = .returned (.bool true) ∧ Below w.heap.size w w' := by
 have z1 := Kd5 hrb
 have HCUR := yh (Below.refl w.heap.size w)
 have HE := yh hE
 have HZ1 := yh (fun W (g : Below w.heap.size w W) => few_any (hx.below (fun h => h.below g) g))
 have HRB := yh hrb
 by_cases ht1 : (l.map totC).sum ≤ 3000
 rotate_left
 ·clear hx hrb hE hr1
  go_enter Tryz.func5, Tryz.ntmps5
  go_wp2_with (first
   | (go_at_call 26
      (
       refine (HZ1.out _ HCUR.out).mono ?_
       rintro e W1 ⟨s, rfl, hs, hb1⟩
       obtain rfl : s = false := by cases s; rfl; exact absurd (hs rfl) ht1
       replace HCUR := yh (Kaa HCUR.out hb1)
       try replace HRB := yh (HRB.out.below hb1)
       clear HZ1 hs hb1
  ))
   | (go_at_call 10
      (
       refine (worksG_any (HE.out.b HCUR.out)).mono ?_
       rintro e W13 ⟨rfl, hb13⟩
       replace HCUR := yh (Kaa HCUR.out hb13)
       clear hb13)))
  all_goals
   go_ret
   exact ⟨rfl, HCUR.out⟩
 by_cases hbl : bs0.length ≤ 3000
 rotate_left
 ·have hbi : (3000 : Int) < (bs0.length : Int) := by omega
  clear hx hrb hE hr1
  go_enter Tryz.func5, Tryz.ntmps5
  go_wp2_with (first
   | (go_at_call 26
      (
       refine (HZ1.out _ HCUR.out).mono ?_
       rintro e W1 ⟨s, rfl, hs, hb1⟩
       skip
       replace HCUR := yh (Kaa HCUR.out hb1)
       try replace HRB := yh (HRB.out.below hb1)
       clear HZ1 hs hb1
       cases s
  ))
   | (go_at_call 10
      (
       refine (worksG_any (HE.out.b HCUR.out)).mono ?_
       rintro e W13 ⟨rfl, hb13⟩
       replace HCUR := yh (Kaa HCUR.out hb13)
       clear hb13)))
  all_goals
   go_ret
   exact ⟨rfl, HCUR.out⟩
 have hbi : ¬ (3000 : Int) < (bs0.length : Int) := by omega
 have hll := len_changes l
 have HC1 := yh (fun W (g : Below w.heap.size w W) => codecChanges_any (hE.b g) (hx.below (fun h => h.below g) g) hr1 (by omega))
 have HK1 := yh (fun W (g : Below w.heap.size w W) => lall_any (hE.b g) (hx.below (fun h => h.below g) g) fun x hx => Nat.le_trans (Kb5 totC hx) (by omega))
 have HR2 := yh (fun W (g : Below w.heap.size w W) (p : Option Addr) (c : Nat) (hd : RdB W (.slice p bs0.length c) bs0) => readPub_C (hE.b g) hd (by omega))
 have hwl := Kes hr1 ht1
 have hdv : l.all okC = true → Hid (∀ W, Below w.heap.size w W → Calls Tryz.prog 29 #[.slice p0 l.length c0] W fun e w' => ∃ o, e = .returned o ∧ Buf W w' o (Kby l)) := fun h => yh fun W g => dchanges_any (hx.below (fun h => h.below g) g) (useCs_of h hr1 ht1) (by omega)
 have hway := way_changes hbl
 have hrng : ∀ c ∈ (Kay (bs0, false)).1, rngC c := Kdr.rng _
 have hsiz : (Kay (bs0, false)).2.2 = false → ((Kay (bs0, false)).1.map totC).sum ≤ 3000 := fun h => by have := Kdr.size (bs0, false) h; simp only at this; omega
 have HVR := yh (fun (w : World) W q (hd : DSt 40 w W q bs0 false) => (show Calls Tryz.prog 31 #[.pointer (some ⟨q, 0, none⟩)] W (Docs w W q (Kay (bs0, false)) (okRow COwn 74 11 W)) from drchanges_any hd (by omega)))
 have hrt : ∀ y, readW Kc4 okCs bs0 = some y → (y.map totC).sum ≤ 3000 := fun y h => by have := (readC_tot h).1; omega
 have HT0 : Hid ((((readW Kc4 okCs bs0).getD []).map totC).sum ≤ 900000) := yh (by
  cases hr : readW Kc4 okCs bs0 with
  | none => simp
  | some y => have := hrt y hr; simp only [Option.getD_some]; omega)
 generalize readW Kc4 okCs bs0 = o at *
 generalize Kay (bs0, false) = r at *
 obtain ⟨v1, l1, b1⟩ := r
 have HW := yh (And.intro hway (And.intro hrng hsiz))
 clear hway hrng hsiz hrt
 cases ok1 : l.all okC
 have hout : outC l = [] := by unfold outC; rw [ok1]; rfl
 have herr : errC l = 2 := by unfold errC; rw [ok1]; rfl
 rw [hout, herr] at HC1
 rw [ok1] at HK1
 clear hdv hx hrb hE hr1 hout hwl ok1 herr
 rotate_left
 have hout : outC l = Kby l := by unfold outC; rw [ok1, decide_eq_true (show l.length ≤ 65536 by omega)]; rfl
 have herr : errC l = 0 := by unfold errC; rw [ok1, if_pos rfl, if_pos (show l.length ≤ 65536 by omega)]
 have HDV := hdv ok1
 rw [hout, herr] at HC1
 rw [ok1] at HK1
 generalize Kby l = bs1 at *
 clear hdv hx hrb hE hr1 hout hwl ok1 herr
 all_goals
  go_enter Tryz.func5, Tryz.ntmps5
  go_wp2_with (first
   | (go_at_call 26
      (
       refine (HZ1.out _ HCUR.out).mono ?_
       rintro e W1 ⟨s, rfl, hs, hb1⟩
       skip
       replace HCUR := yh (Kaa HCUR.out hb1)
       try replace HRB := yh (HRB.out.below hb1)
       clear HZ1 hs hb1
       cases s))
   | (go_at_call 10
      (
       refine (worksG_any (HE.out.b HCUR.out)).mono ?_
       rintro e W13 ⟨rfl, hb13⟩
       replace HCUR := yh (Kaa HCUR.out hb13)
       clear hb13))
   | (go_at_call 27
      (
       refine (HC1.out _ HCUR.out).mono ?_
       rintro e W3 ho
       obtain ⟨p1, c1, rfl, hd1, hb3⟩ := ho.rd
       replace HCUR := yh (Kaa HCUR.out hb3)
       try replace HRB := yh (HRB.out.below hb3)
       have HD1 := yh hd1
       clear HC1 ho hd1 hb3))
   | (go_at_call 28
      (
       refine (HK1.out _ HCUR.out).mono ?_
       rintro e W4 ⟨rfl, hb4⟩
       replace HCUR := yh (Kaa HCUR.out hb4)
       try replace HD1 := yh (HD1.out.below hb4)
       try replace HRB := yh (HRB.out.below hb4)
       clear HK1 hb4))
   | (go_at_call 12; refine (num_err _ _).mono ?_; rintro e w' ⟨rfl, rfl⟩)
   | (go_at_call 29
      (
       refine (HDV.out _ HCUR.out).mono ?_
       rintro e W5 ⟨o5, rfl, hB5⟩
       obtain ⟨p5, c5, rfl⟩ := hB5.shape
       have hb5 := hB5.b
       replace HCUR := yh (Kaa HCUR.out hb5)
       try replace HD1 := yh (HD1.out.below hb5)
       try replace HRB := yh (HRB.out.below hb5)
       have HD5 := yh hB5.rd
       clear HDV hB5 hb5))
   | (go_at_call 14
      (
       refine (bytes_any HD1.out HD5.out).mono ?_
       rintro e w' ⟨rfl, rfl⟩
       have heq1 : decide (bs1 = bs1) = true := decide_eq_true rfl
       clear HD5 HD1))
   | (go_at_call 30
      (
       refine (HR2.out _ HCUR.out _ _ HRB.out).mono ?_
       rintro e W11 hg
       obtain ⟨pg, cg, rfl, hxg, hb11⟩ := hg.rd HT0.out
       replace HCUR := yh (Kaa HCUR.out hb11)
       try replace HRB := yh (HRB.out.below hb11)
       have HX2 := yh hxg
       clear HR2 hg hxg hb11)))
  ·go_ret
   exact ⟨rfl, HCUR.out⟩
  have hbx := Kad (w := W11) (.cells #[.slice p bs0.length c, .bool false] 40)
  have hbe := heap_alloc_new W11 (.cells #[.slice p bs0.length c, .bool false] 40)
  have HRV := yh (HVR.out W11 _ W11.heap.size ⟨hbx, Nat.le_refl _, p, c, hbe, HRB.out⟩)
  obtain ⟨hway, hrng, hsiz⟩ := HW.out
  clear hbx hbe HVR HW
  generalize hW12 : W11.alloc (.cells #[.slice p bs0.length c, .bool false] 40) = W12 at *
  clear hW12
  rcases hway with ⟨rfl, rfl⟩ | ⟨rfl, hl1, rfl⟩ | ⟨rfl, rfl, hk1, rfl⟩ | ⟨rfl, rfl, hk1, hne, rfl⟩ | ⟨rfl, rfl, hk1, he, rfl⟩
  clear hsiz hrng
  rotate_left
  have ht1 : (v1.map totC).sum ≤ 900000 := by have := hsiz rfl; omega
  have hli : (0 : Int) < (l1.length : Int) := by omega
  clear hsiz hrng
  rotate_left
  have ht1 : (v1.map totC).sum ≤ 900000 := by have := hsiz rfl; omega
  have HK2 := yh (fun W (g : Below w.heap.size w W) (z : Option Addr) (y : Nat) (hz : GRd CRd 11 W z y v1) => lall_any (HE.out.b g) hz fun x hx => Nat.le_trans (Kb5 totC hx) (by omega))
  rw [show v1.all okC = false from hk1] at HK2
  clear hsiz hrng hk1
  rotate_left
  have ht0 : (v1.map totC).sum ≤ 3000 := by have := hsiz rfl; omega
  have ht1 : (v1.map totC).sum ≤ 900000 := by omega
  have HK2 := yh (fun W (g : Below w.heap.size w W) (z : Option Addr) (y : Nat) (hz : GRd CRd 11 W z y v1) => lall_any (HE.out.b g) hz fun x hx => Nat.le_trans (Kb5 totC hx) (by omega))
  rw [show v1.all okC = true from hk1] at HK2
  have huse := useCs_of hk1 hrng ht0
  have hvl := Kes hrng ht0
  have HDV2 := yh (fun W (z : Option Addr) (y : Nat) (hz : GRd CRd 11 W z y v1) => dchanges_any hz huse (by omega))
  have hnd : decide (Kby v1 = bs0) = false := decide_eq_false hne
  generalize Kby v1 = bs2 at *
  clear hsiz hrng hk1 ht0 hvl huse hne
  rotate_left
  have ht0 : (v1.map totC).sum ≤ 3000 := by have := hsiz rfl; omega
  have ht1 : (v1.map totC).sum ≤ 900000 := by omega
  have HK2 := yh (fun W (g : Below w.heap.size w W) (z : Option Addr) (y : Nat) (hz : GRd CRd 11 W z y v1) => lall_any (HE.out.b g) hz fun x hx => Nat.le_trans (Kb5 totC hx) (by omega))
  rw [show v1.all okC = true from hk1] at HK2
  have huse := useCs_of hk1 hrng ht0
  have hvl := Kes hrng ht0
  have HDV2 := yh (fun W (z : Option Addr) (y : Nat) (hz : GRd CRd 11 W z y v1) => dchanges_any hz huse (by omega))
  rw [he] at HDV2
  have hnd : decide (bs0 = bs0) = true := decide_eq_true rfl
  clear hsiz hrng hk1 ht0 hvl huse he
  rotate_left
  all_goals
   go_wp2_with (first
    | (go_at_call 31
       (
        refine HRV.out.mono ?_
        rintro e W14 ⟨v14, rfl, hown, hD, hT⟩
        replace hD : DSt 40 W11 W14 W11.heap.size _ _ := hD
        replace hown : GOwn COwn 74 11 W14 (fun b => W12.heap.size ≤ b) v14 v1 := hown
        obtain ⟨po, co, rfl⟩ := hown.slice
        have hb14 := hD.b
        replace HCUR := yh (Kaa HCUR.out hb14)
        try replace HRB := yh (HRB.out.below hb14)
        try replace HX2 := yh (HX2.out.below (fun h => h.below hb14) hb14)
        try have HX1 := yh (changes_rd hown ht1)
        obtain ⟨pz, cz, m1, m2⟩ := hD.box
        have r0 := Kab (o := 0) m1 rfl
        have r1 := Kab (o := 1) m1 rfl
        clear hown hT hD hb14 HRV m1 m2))
    | (go_at_call 28
       (
        refine (HK2.out _ HCUR.out _ _ HX1.out).mono ?_
        rintro e W15 ⟨rfl, hb15⟩
        replace HCUR := yh (Kaa HCUR.out hb15)
        try replace HRB := yh (HRB.out.below hb15)
        try replace HX1 := yh (HX1.out.below (fun h => h.below hb15) hb15)
        try replace HX2 := yh (HX2.out.below (fun h => h.below hb15) hb15)
        clear HK2 hb15))
    | (go_at_call 29
       (
        refine (HDV2.out _ _ _ HX1.out).mono ?_
        rintro e W16 ⟨o16, rfl, hB16⟩
        obtain ⟨p16, c16, rfl⟩ := hB16.shape
        have hb16 := hB16.b
        replace HCUR := yh (Kaa HCUR.out hb16)
        try replace HRB := yh (HRB.out.below hb16)
        try replace HX1 := yh (HX1.out.below (fun h => h.below hb16) hb16)
        try replace HX2 := yh (HX2.out.below (fun h => h.below hb16) hb16)
        have HD16 := yh hB16.rd
        clear HDV2 hB16 hb16))
    | (go_at_call 14
       (
        refine (bytes_any HD16.out HRB.out).mono ?_
        rintro e w' ⟨rfl, rfl⟩
        clear HD16))
    | (go_at_call 12; refine (num_err _ _).mono ?_; rintro e w' ⟨rfl, rfl⟩)
    | (go_at_call 32
       (
        refine (lchanges_any HX2.out HX1.out).mono ?_
        rintro e W17 ⟨rfl, hb17⟩
        replace HCUR := yh (Kaa HCUR.out hb17)
        clear hb17))
    | (go_at_call 10
       (
        refine (worksG_any (HE.out.b HCUR.out)).mono ?_
        rintro e W13 ⟨rfl, hb13⟩
        replace HCUR := yh (Kaa HCUR.out hb13)
        clear hb13)))
   go_ret
   exact ⟨rfl, HCUR.out⟩
end Go.Proofs.YthdfedfholmbmaaGreatDoor
namespace Go.Proofs.YthdfedfholmbmaaGreatDoor
open Go.ChangeShapes Go.WideShapes Go.ChangeAt Go.RowKit Go.Joins
theorem codecChanges_lifted (os : Os) (started : os.Started) (H : Type) (enc : TypeId × Value → H) :
 ReturnsInHanded {} Tryz.checked os 5 .any (fun w args => (Rows.codecChangesSpec.pre enc Tryz.prog Tryz.f5 [] false w args ∧ laidMetH Tryz.prog LD w) ∧ sizedMet enc Tryz.prog Tryz.f5 (OpenSpec.ofChange Rows.codecChangesSpec) false w args)
  (Rows.codecChangesSpec.post enc Tryz.prog Tryz.f5 false true false false) := by
 refine returns_tied started (by kernel_rfl) Tryz.func5 #[.slice none 0 0, .slice none 0 0] (by kernel_rfl) (by kernel_rfl) (by kernel_rfl) (wit_shape _ _) (wit_laid _ _) ?_
 intro W base args ds gs before hval0 hW hz hE
 have hval : ∀ (j : Nat) t v, Tryz.f5.params[j]? = some t → args[j]? = some v → Value.okWide Tryz.prog W .any base t v := hval0
 have hW' := hW
 obtain ⟨p, q, hA0, hV, rfl, hfz, hnd⟩ := hW
 have hA : DataW.TrodAll enc Tryz.prog W 0 (fun _ => true) true Tryz.f5.params.toList args.toList ds p := hA0
 rw [Tryz.params5] at hA hval
 obtain ⟨v0, vs0, d0, ds0, p0, q0, hargs, rfl, rfl, h0, r0⟩ := trodAll_cons hA
 obtain ⟨v1, vs1, d1, ds1, p1, q1, rfl, rfl, rfl, h1, r1⟩ := trodAll_cons r0
 obtain ⟨rfl, rfl, rfl⟩ := trodAll_nil r1
 obtain ⟨rfl, rfl⟩ := trodVars_none hV
 obtain rfl : args = #[v0, v1] := by cases args; simp_all
 rw [Tryz.params5] at hz
 obtain ⟨z0, z1⟩ := fits_two hz
 obtain ⟨b0, c0, l0, rfl, hx0, hr0⟩ := changes_in (hval 0 58 v0 rfl rfl) h0 z0
 obtain ⟨b1, c1, l1, rfl, hb1⟩ := bytes_in (hval 1 26 v1 rfl rfl) h1
 clear hA0 hval0
 refine (cchanges_any hE hx0 hr0 hb1).mono fun e W' ⟨he, hg⟩ => ?_
 subst he
 exact ⟨_, rfl, law_post laidT (by decide +kernel) Tryz.underlying4 (by kernel_rfl) rfl hW' rfl hg⟩
theorem codecChanges_row : Rows.CodecChangesSaid :=
 OpenClaim.holds_of_wide 5 Tryz.f5 rfl rfl rfl rfl rfl rfl rfl ⟨rfl, rfl, rfl, rfl, rfl⟩ rfl rfl rfl rfl rfl (by kernel_rfl) Tryz.func5 (by kernel_rfl)
  (of_decide_eq_true (by kernel_rfl)) (by unfold Func.isWrapper; first | (rw [if_pos (by decide +kernel)]; kernel_rfl) | (rw [if_neg (by decide +kernel)]; exact ⟨rfl, rfl⟩))
  (fun os started H enc _ => codecChanges_lifted os started H enc)
theorem cchanges_law_holds : Rows.CodecChangesCardSaid :=
 Claim7.holds_tied_plain_at .later [] [.data, .pinned] true (true, "51d6d183f3b9b26ed98afca7791da6a3b37e43a2ee8010f5d16b56af07fe616a") true
  codecChanges_row (fun _ h => by cases h) (by kernel_rfl) (fun _ h => by cases h) codecChanges_row_tie rfl ⟨rfl, rfl⟩ (by kernel_rfl) rfl
  (fun f fn hf hfn => by
    obtain rfl : f = 5 := Option.some.inj ((show Tryz.prog.funcNamed "lattice/latticelaw19.CodecChanges" = some 5 by kernel_rfl).symm.trans hf) |>.symm
    obtain rfl : fn = Tryz.f5 := (Option.some.inj (Tryz.func5.symm.trans hfn)).symm
    exact ⟨by kernel_rfl, fun j t ht => by
     rw [Tryz.params5] at ht
     have hm : t ∈ [58, 26] := by simpa using Array.mem_of_getElem? ht
     have hall : ([58, 26].all fun u => !Tryz.prog.wantsStandIn u) = true := by kernel_rfl
     exact (show Tryz.prog.wantsStandIn t = false by simpa using List.all_eq_true.1 hall t hm)⟩)
  (by kernel_rfl)
#print axioms cchanges_law_holds
end Go.Proofs.YthdfedfholmbmaaGreatDoor
