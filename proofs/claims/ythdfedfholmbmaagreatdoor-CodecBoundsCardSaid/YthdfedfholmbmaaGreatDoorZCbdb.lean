/- Texts that the proof shares (each declaration is a lemma of this layer). -/
import Derived.Test.YthdfedfholmbmaaGreatDoorZCbda
import Derived.Lib.Join
import Derived.Lib.ItoaNum
import Derived.Lib.Bytealg
import Derived.Lib.Small
import Derived.Lib.Replace
import Derived.Lib.SplitLaws
import Derived.Laws.BitsAllLaws
import Derived.Lib.AppendStr
import Derived.Deep.WholeRow
import Derived.Lib.IndexLaws
set_option linter.unusedSimpArgs false
set_option linter.unusedVariables false
set_option maxRecDepth 100000
set_option maxHeartbeats 64000000
namespace Go.Proofs.YthdfedfholmbmaaGreatDoor
open Go.RowKit
def badB (k k0 : Int) : Bool := decide (k ≠ k0) || decide (k < 1) || decide (3 < k)
def storL (l : List V) : Bool := l.all fun x => !(badB x.kind ((l.map V.kind).headD 0))
def storB (v : V) : Bool := storL (if v.kind = 4 then v.list else [v])
theorem fa_first (y o : Nat) (W : World) : (Instr.fieldAt 48 (.pointer (some ⟨y, o, none⟩)) 0).run Tryz.prog W = .ok (.pointer (some ⟨y, o, none⟩)) W := by
 simp [go_sem]
theorem ia_first (g o n c : Nat) (h : 0 < n) (W : World) : (Instr.indexAt 46 (.slice (some ⟨g, o, none⟩) n c) (.int .i64 0)).run Tryz.prog W = .ok (.pointer (some ⟨g, o, none⟩)) W := by
 simp [go_sem, h, Ka9]
structure BoxL (w : World) (b g o n c : Nat) (k0 : Int) (x : Array Value) (W : World) : Prop where
 box : W.heap[b]? = some (.cells #[.slice (some ⟨g, o, none⟩) n c] 46 (0, 0))
 first : W.cell? ⟨g, o, none⟩ = some (.int .i64 k0)
 one : W.heap[w.heap.size]? = some (.cells x 48 (0, 0))
 below : Below w.heap.size w W
theorem bad_any {w : World} {v : V} {x : Array Value} {b g o n c : Nat} {k0 : Int} (hx : VRd w v x) (hb : w.heap[b]? = some (.cells #[.slice (some ⟨g, o, none⟩) n c] 46 (0, 0))) (hk : w.cell? ⟨g, o, none⟩ = some (.int .i64 k0)) (hn : 0 < n) :
 Calls Tryz.prog 182 #[.agg x, .pointer (some ⟨b, 0, none⟩)] w fun e w' => e = .returned (.bool (badB v.kind k0)) ∧ Below w.heap.size w w' := by
 obtain ⟨pk, ck, pl, cl, rfl, _⟩ := hx.open
 have hT : BoxL w b g o n c k0 #[.int .i64 v.kind, .bool v.b, .int .i64 v.n, .string (strB v.text), .slice pk v.keys.length ck, .slice pl v.list.length cl] (w.alloc (.cells #[.int .i64 v.kind, .bool v.b, .int .i64 v.n, .string (strB v.text), .slice pk v.keys.length ck, .slice pl v.list.length cl] 48)) :=
  ⟨Kak (Kac _) (Array.getElem?_eq_some_iff.1 hb).1 hb, Kam (Kac _) (ltOf hk) hk, heap_alloc_new w _, Kac _⟩
 have HR := yh (show badB v.kind k0 = (decide (v.kind ≠ k0) || decide (v.kind < 1) || decide (3 < v.kind)) from rfl)
 generalize badB v.kind k0 = R at *
 generalize v.kind = k at *
 have HT := yh hT
 clear hx hb hk hT
 go_enter Tryz.func182, Tryz.ntmps182
 go_wp2
 have hT := HT.out
 generalize w.alloc _ = W0 at *
 have hT0 : BoxL w b g o n c k0 #[.int .i64 k, .bool v.b, .int .i64 v.n, .string (strB v.text), .slice pk v.keys.length ck, .slice pl v.list.length cl] W0.drew := ⟨hT.box, hT.first, hT.one, hT.below.drew⟩
 by_cases h1 : k = k0
 ·have hne : ∀ W : World, (binOp .neq 44 (.int .i64 k) (.int .i64 k0)).run Tryz.prog W = .ok (.bool false) W := by
   intro W; simp [go_sem, h1]
  by_cases h2 : k < 1
  ·have hlt : ∀ W : World, (binOp .lss 44 (.int .i64 k) (.int .i64 1)).run Tryz.prog W = .ok (.bool true) W := by
    intro W; simp [go_sem, h2]
   refine Kan (fun W => BoxL w b g o n c k0 #[.int .i64 k, .bool v.b, .int .i64 v.n, .string (strB v.text), .slice pk v.keys.length ck, .slice pl v.list.length cl] W) (by kernel_rfl) hT0 (fun hU0 => ?_)
   refine tk 0 4 (v := .pointer (some ⟨w.heap.size, 0, none⟩)) rfl rfl (fun W hW => Kae rfl rfl (Kco _ _ (by decide) W)) ?_
   simp only [Act.put, sA, sZ, sS]
   refine tk 1 5 (v := .int .i64 k) rfl rfl (fun W hW => Kag rfl rfl (Kah (w := W) Tryz.underlying44 rfl (Kab hW.one rfl))) ?_
   simp only [Act.put, sA, sZ, sS]
   refine tk 2 6 (v := .slice (some ⟨g, o, none⟩) n c) rfl rfl (fun W hW => Kag rfl rfl (Kah (w := W) Tryz.underlying46 rfl (Kab hW.box rfl))) ?_
   simp only [Act.put, sA, sZ, sS]
   refine tk 3 7 (v := .pointer (some ⟨g, o, none⟩)) rfl rfl (fun W hW => Kar rfl rfl rfl (ia_first _ _ _ _ hn W)) ?_
   simp only [Act.put, sA, sZ, sS]
   refine tk 4 8 (v := .pointer (some ⟨g, o, none⟩)) rfl rfl (fun W hW => Kae rfl rfl (fa_first _ _ W)) ?_
   simp only [Act.put, sA, sZ, sS]
   refine tk 5 9 (v := .int .i64 k0) rfl rfl (fun W hW => Kag rfl rfl (Kah (w := W) Tryz.underlying44 rfl hW.first)) ?_
   simp only [Act.put, sA, sZ, sS]
   refine tk 6 10 (v := .bool false) rfl rfl (fun W hW => Kaw rfl rfl rfl (hne W)) ?_
   simp only [Act.put, sA, sZ, sS]
   refine tk 7 11 (v := .bool false) rfl rfl (fun W hW => Kai rfl rfl) ?_
   simp only [Act.put, sA, sZ, sS]
   refine tk 8 12 (v := .pointer (some ⟨w.heap.size, 0, none⟩)) rfl rfl (fun W hW => Kae rfl rfl (Kco _ _ (by decide) W)) ?_
   simp only [Act.put, sA, sZ, sS]
   refine tk 9 13 (v := .int .i64 k) rfl rfl (fun W hW => Kag rfl rfl (Kah (w := W) Tryz.underlying44 rfl (Kab hW.one rfl))) ?_
   simp only [Act.put, sA, sZ, sS]
   refine tk 10 14 (v := .bool true) rfl rfl (fun W hW => Kaw rfl rfl rfl (hlt W)) ?_
   simp only [Act.put, sA, sZ, sS]
   refine tk 11 15 (v := .bool true) rfl rfl (fun W hW => rfl) ?_
   simp only [Act.put, sA, sZ, sS]
   refine tk 12 16 (v := .bool true) rfl rfl (fun W hW => Kai rfl rfl) ?_
   simp only [Act.put, sA, sZ, sS]
   refine tn 13 17 rfl rfl ?_
   simp only [Act.put, sA, sZ, sS]
   refine tn 14 18 rfl rfl ?_
   simp only [Act.put, sA, sZ, sS]
   refine tn 15 19 rfl rfl ?_
   simp only [Act.put, sA, sZ, sS]
   refine tk 16 20 (v := .bool true) rfl rfl (fun W hW => rfl) ?_
   simp only [Act.put, sA, sZ, sS]
   refine tk 17 3 (v := .bool true) rfl rfl (fun W hW => Kbp rfl rfl) ?_
   simp only [Act.put, sA, sZ, sS]
   refine done (by kernel_rfl) ?_ _
   go_wp2
   go_ret
   exact ⟨Kay (by rw [HR.out]; simp [h2]), hU0.below⟩
  ·have hlt : ∀ W : World, (binOp .lss 44 (.int .i64 k) (.int .i64 1)).run Tryz.prog W = .ok (.bool false) W := by
    intro W; simp [go_sem]; omega
   have hgt : ∀ W : World, (binOp .gtr 44 (.int .i64 k) (.int .i64 3)).run Tryz.prog W = .ok (.bool (decide (3 < k))) W := by
    intro W; simp [go_sem]
   refine Kan (fun W => BoxL w b g o n c k0 #[.int .i64 k, .bool v.b, .int .i64 v.n, .string (strB v.text), .slice pk v.keys.length ck, .slice pl v.list.length cl] W) (by kernel_rfl) hT0 (fun hU0 => ?_)
   refine tk 0 4 (v := .pointer (some ⟨w.heap.size, 0, none⟩)) rfl rfl (fun W hW => Kae rfl rfl (Kco _ _ (by decide) W)) ?_
   simp only [Act.put, sA, sZ, sS]
   refine tk 1 5 (v := .int .i64 k) rfl rfl (fun W hW => Kag rfl rfl (Kah (w := W) Tryz.underlying44 rfl (Kab hW.one rfl))) ?_
   simp only [Act.put, sA, sZ, sS]
   refine tk 2 6 (v := .slice (some ⟨g, o, none⟩) n c) rfl rfl (fun W hW => Kag rfl rfl (Kah (w := W) Tryz.underlying46 rfl (Kab hW.box rfl))) ?_
   simp only [Act.put, sA, sZ, sS]
   refine tk 3 7 (v := .pointer (some ⟨g, o, none⟩)) rfl rfl (fun W hW => Kar rfl rfl rfl (ia_first _ _ _ _ hn W)) ?_
   simp only [Act.put, sA, sZ, sS]
   refine tk 4 8 (v := .pointer (some ⟨g, o, none⟩)) rfl rfl (fun W hW => Kae rfl rfl (fa_first _ _ W)) ?_
   simp only [Act.put, sA, sZ, sS]
   refine tk 5 9 (v := .int .i64 k0) rfl rfl (fun W hW => Kag rfl rfl (Kah (w := W) Tryz.underlying44 rfl hW.first)) ?_
   simp only [Act.put, sA, sZ, sS]
   refine tk 6 10 (v := .bool false) rfl rfl (fun W hW => Kaw rfl rfl rfl (hne W)) ?_
   simp only [Act.put, sA, sZ, sS]
   refine tk 7 11 (v := .bool false) rfl rfl (fun W hW => Kai rfl rfl) ?_
   simp only [Act.put, sA, sZ, sS]
   refine tk 8 12 (v := .pointer (some ⟨w.heap.size, 0, none⟩)) rfl rfl (fun W hW => Kae rfl rfl (Kco _ _ (by decide) W)) ?_
   simp only [Act.put, sA, sZ, sS]
   refine tk 9 13 (v := .int .i64 k) rfl rfl (fun W hW => Kag rfl rfl (Kah (w := W) Tryz.underlying44 rfl (Kab hW.one rfl))) ?_
   simp only [Act.put, sA, sZ, sS]
   refine tk 10 14 (v := .bool false) rfl rfl (fun W hW => Kaw rfl rfl rfl (hlt W)) ?_
   simp only [Act.put, sA, sZ, sS]
   refine tk 11 15 (v := .bool false) rfl rfl (fun W hW => rfl) ?_
   simp only [Act.put, sA, sZ, sS]
   refine tk 12 16 (v := .bool false) rfl rfl (fun W hW => Kai rfl rfl) ?_
   simp only [Act.put, sA, sZ, sS]
   refine tk 13 17 (v := .pointer (some ⟨w.heap.size, 0, none⟩)) rfl rfl (fun W hW => Kae rfl rfl (Kco _ _ (by decide) W)) ?_
   simp only [Act.put, sA, sZ, sS]
   refine tk 14 18 (v := .int .i64 k) rfl rfl (fun W hW => Kag rfl rfl (Kah (w := W) Tryz.underlying44 rfl (Kab hW.one rfl))) ?_
   simp only [Act.put, sA, sZ, sS]
   refine tk 15 19 (v := .bool (decide (3 < k))) rfl rfl (fun W hW => Kaw rfl rfl rfl (hgt W)) ?_
   simp only [Act.put, sA, sZ, sS]
   refine tk 16 20 (v := .bool (decide (3 < k))) rfl rfl (fun W hW => rfl) ?_
   simp only [Act.put, sA, sZ, sS]
   refine tk 17 3 (v := .bool (decide (3 < k))) rfl rfl (fun W hW => Kbp rfl rfl) ?_
   simp only [Act.put, sA, sZ, sS]
   refine done (by kernel_rfl) ?_ _
   go_wp2
   go_ret
   exact ⟨Kay (by rw [HR.out, show decide (k ≠ k0) = false by simp [h1], show decide (k < 1) = false by simp; omega]; simp; omega), hU0.below⟩
 ·have hne : ∀ W : World, (binOp .neq 44 (.int .i64 k) (.int .i64 k0)).run Tryz.prog W = .ok (.bool true) W := by
   intro W; simp [go_sem, h1]
  refine Kan (fun W => BoxL w b g o n c k0 #[.int .i64 k, .bool v.b, .int .i64 v.n, .string (strB v.text), .slice pk v.keys.length ck, .slice pl v.list.length cl] W) (by kernel_rfl) hT0 (fun hU0 => ?_)
  refine tk 0 4 (v := .pointer (some ⟨w.heap.size, 0, none⟩)) rfl rfl (fun W hW => Kae rfl rfl (Kco _ _ (by decide) W)) ?_
  simp only [Act.put, sA, sZ, sS]
  refine tk 1 5 (v := .int .i64 k) rfl rfl (fun W hW => Kag rfl rfl (Kah (w := W) Tryz.underlying44 rfl (Kab hW.one rfl))) ?_
  simp only [Act.put, sA, sZ, sS]
  refine tk 2 6 (v := .slice (some ⟨g, o, none⟩) n c) rfl rfl (fun W hW => Kag rfl rfl (Kah (w := W) Tryz.underlying46 rfl (Kab hW.box rfl))) ?_
  simp only [Act.put, sA, sZ, sS]
  refine tk 3 7 (v := .pointer (some ⟨g, o, none⟩)) rfl rfl (fun W hW => Kar rfl rfl rfl (ia_first _ _ _ _ hn W)) ?_
  simp only [Act.put, sA, sZ, sS]
  refine tk 4 8 (v := .pointer (some ⟨g, o, none⟩)) rfl rfl (fun W hW => Kae rfl rfl (fa_first _ _ W)) ?_
  simp only [Act.put, sA, sZ, sS]
  refine tk 5 9 (v := .int .i64 k0) rfl rfl (fun W hW => Kag rfl rfl (Kah (w := W) Tryz.underlying44 rfl hW.first)) ?_
  simp only [Act.put, sA, sZ, sS]
  refine tk 6 10 (v := .bool true) rfl rfl (fun W hW => Kaw rfl rfl rfl (hne W)) ?_
  simp only [Act.put, sA, sZ, sS]
  refine tk 7 11 (v := .bool true) rfl rfl (fun W hW => Kai rfl rfl) ?_
  simp only [Act.put, sA, sZ, sS]
  refine tn 8 12 rfl rfl ?_
  simp only [Act.put, sA, sZ, sS]
  refine tn 9 13 rfl rfl ?_
  simp only [Act.put, sA, sZ, sS]
  refine tn 10 14 rfl rfl ?_
  simp only [Act.put, sA, sZ, sS]
  refine tk 11 15 (v := .bool true) rfl rfl (fun W hW => rfl) ?_
  simp only [Act.put, sA, sZ, sS]
  refine tk 12 16 (v := .bool true) rfl rfl (fun W hW => Kai rfl rfl) ?_
  simp only [Act.put, sA, sZ, sS]
  refine tn 13 17 rfl rfl ?_
  simp only [Act.put, sA, sZ, sS]
  refine tn 14 18 rfl rfl ?_
  simp only [Act.put, sA, sZ, sS]
  refine tn 15 19 rfl rfl ?_
  simp only [Act.put, sA, sZ, sS]
  refine tk 16 20 (v := .bool true) rfl rfl (fun W hW => rfl) ?_
  simp only [Act.put, sA, sZ, sS]
  refine tk 17 3 (v := .bool true) rfl rfl (fun W hW => Kbp rfl rfl) ?_
  simp only [Act.put, sA, sZ, sS]
  refine done (by kernel_rfl) ?_ _
  go_wp2
  go_ret
  exact ⟨Kay (by rw [HR.out]; simp [h1]), hU0.below⟩
theorem index_stor {w : World} {b : Nat} {p : Option Addr} {c : Nat} {l : List V} (hl : LRd w p c l) (hb : w.heap[b]? = some (.cells #[.slice p l.length c] 46 (0, 0))) :
 Calls Tryz.prog 204 #[.slice p l.length c, .func (.func 182) #[] #[.pointer (some ⟨b, 0, none⟩)]] w fun e w' => (∃ i : Int, e = .returned (.int .i64 i) ∧ decide (0 ≤ i) = !(storL l)) ∧ Below w.heap.size w w' := by
 have z1 : (l.length : Int) ≤ 140737488355328 := by have := hl.1.1; have := hl.1.2.1; omega
 have HL := yh (And.intro hl hb)
 clear hl hb
 go_enter Tryz.func204, Tryz.ntmps204
 go_wp2
 go_loopw [8] (fun i W => ∃ j : Nat, j ≤ l.length ∧ i = .int .i64 (j : Int) ∧ Hid (Below w.heap.size w W ∧ (l.take j).all (fun x => !(badB x.kind ((l.map V.kind).headD 0))) = true)) (fun i _ => l.length - (intOf i).toNat)
 case atStart => exact ⟨0, Nat.zero_le _, rfl, yh ⟨Below.refl _ _, rfl⟩⟩
 case round =>
  obtain ⟨j, hj, rfl, HJ⟩ := hrel
  by_cases hlt : j < l.length
  ·have hlt1 : j + 1 ≤ l.length := hlt
   have hpos : 0 < l.length := by omega
   obtain ⟨hb, hf⟩ := HJ.out
   have htk : (l.take (j + 1)).all (fun x => !(badB x.kind ((l.map V.kind).headD 0))) = !(badB l[j].kind ((l.map V.kind).headD 0)) := by
    rw [List.take_succ_eq_append_getElem hlt, List.all_append, hf]; simp
   have hbad : badB l[j].kind ((l.map V.kind).headD 0) = true → storL l = false := fun h => by
    unfold storL; rw [List.all_eq_false]; exact ⟨l[j], List.getElem_mem hlt, by rw [h]; simp⟩
   have hL2 := HL.out.1.below hb
   obtain ⟨g0, o0, pk0, ck0, pl0, cl0, hp0, ⟨b0, _⟩, _⟩ := hL2.at hpos
   have hk0 : l[0].kind = (l.map V.kind).headD 0 := by cases l with
    | nil => simp at hpos
    | cons a r => rfl
   obtain ⟨g1, o1, pk1, ck1, pl1, cl1, rfl, ⟨a0, a1, a2, a3, a4, a5⟩, hv1⟩ := hL2.at hlt
   cases hp0
   rw [hk0, Nat.zero_mul, Nat.add_zero] at b0
   have hcall := bad_any hv1 (Kak hb (Array.getElem?_eq_some_iff.1 HL.out.2).1 HL.out.2) b0 hpos
   clear b0 hk0
   generalize (l.map V.kind).headD 0 = k0 at *
   generalize hon : badB l[j].kind k0 = on at *
   clear hon
   generalize l[j] = s1 at *
   have HD := yh (And.intro htk (And.intro hbad (And.intro hcall hb)))
   clear htk hbad hcall hb hf hv1 HJ hL2
   cases on with
   | true =>
     go_wp2_with (go_at_call 182
                  (
                    refine HD.out.2.2.1.mono ?_
                    rintro e w1 ⟨rfl, hb1⟩
                    have HB := yh hb1
                    clear hb1))
     go_ret
     refine ⟨⟨_, rfl, ?_⟩, Kaa HD.out.2.2.2 HB.out⟩
     rw [HD.out.2.1 (by simp)]; simp
   | false =>
     go_wp2_with (go_at_call 182
                  (
                    refine HD.out.2.2.1.mono ?_
                    rintro e w1 ⟨rfl, hb1⟩
                    have HB := yh hb1
                    clear hb1))
     go_roundw
     case rel => exact ⟨j + 1, hlt1, by go_num, yh ⟨Kaa HD.out.2.2.2 HB.out, HD.out.1⟩⟩
     case measure => simp [intOf]; omega
  ·obtain rfl : j = l.length := by omega
   have hfin : storL l = true := by have h := HJ.out.2; rwa [List.take_length] at h
   have HF := yh (And.intro hfin HJ.out.1)
   clear hfin HJ
   go_wp2
   go_ret
   exact ⟨⟨_, rfl, by rw [HF.out.1]; simp⟩, HF.out.2⟩
theorem contains_stor {w : World} {b : Nat} {p : Option Addr} {c : Nat} {l : List V} (hl : LRd w p c l) (hb : w.heap[b]? = some (.cells #[.slice p l.length c] 46 (0, 0))) :
 Calls Tryz.prog 183 #[.slice p l.length c, .func (.func 182) #[] #[.pointer (some ⟨b, 0, none⟩)]] w fun e w' => e = .returned (.bool (!(storL l))) ∧ Below w.heap.size w w' := by
 have HC := yh (index_stor hl hb)
 clear hl hb
 go_enter Tryz.func183, Tryz.ntmps183
 go_wp2_with (go_at_call 204; refine HC.out.mono ?_; rintro e w1 ⟨⟨i, rfl, hi⟩, hb1⟩; have HB := yh (And.intro hi hb1); clear hi hb1)
 go_ret
 exact ⟨Kay HB.out.1, HB.out.2⟩
structure StorB (w : World) (x : Array Value) (p : Option Addr) (n c : Nat) (W : World) : Prop where
 one : W.heap[w.heap.size]? = some (.cells x 48 (0, 0))
 box : W.heap[w.heap.size + 2]? = some (.cells #[.slice p n c] 46 (0, 0))
 below : Below w.heap.size w W
theorem stor_fine {w : World} {v : V} {c0 c1 c2 c3 c4 c5 : Value} (hE : Env w) (hx : VRd w v #[c0, c1, c2, c3, c4, c5]) (ht : totV v ≤ 1099511627776) (p : Option Addr) (n c : Nat) :
 Calls Tryz.prog 172 #[.slice (some ⟨w.heap.size + 1 + 1 + 1, 0, none⟩) 1 1] ((((w.alloc (.cells #[c0, c1, c2, c3, c4, c5] 48)).alloc (.cells #[c0, c1, c2, c3, c4, c5] 48)).alloc (.cells #[.slice p n c] 46)).alloc (.cells #[c0, c1, c2, c3, c4, c5] 48))
  fun e w' => e = .returned (.bool (okV v)) ∧ StorB w #[c0, c1, c2, c3, c4, c5] p n c w' ∧ w'.heap[w.heap.size + 1]? = some (.cells #[c0, c1, c2, c3, c4, c5] 48 (0, 0)) := by
 have b1 : Below w.heap.size w (w.alloc (.cells #[c0, c1, c2, c3, c4, c5] 48)) := Kac _
 have h1 := heap_alloc_new w (.cells #[c0, c1, c2, c3, c4, c5] 48)
 have s1 : (w.alloc (.cells #[c0, c1, c2, c3, c4, c5] 48)).heap.size = w.heap.size + 1 := by simp
 generalize w.alloc (.cells #[c0, c1, c2, c3, c4, c5] 48) = w1 at *
 have b2 : Below w1.heap.size w1 (w1.alloc (.cells #[c0, c1, c2, c3, c4, c5] 48)) := Kac _
 have h2 := heap_alloc_new w1 (.cells #[c0, c1, c2, c3, c4, c5] 48)
 have s2 : (w1.alloc (.cells #[c0, c1, c2, c3, c4, c5] 48)).heap.size = w1.heap.size + 1 := by simp
 generalize w1.alloc (.cells #[c0, c1, c2, c3, c4, c5] 48) = w2 at *
 have b3 : Below w2.heap.size w2 (w2.alloc (.cells #[.slice p n c] 46)) := Kac _
 have h3 := heap_alloc_new w2 (.cells #[.slice p n c] 46)
 have s3 : (w2.alloc (.cells #[.slice p n c] 46)).heap.size = w2.heap.size + 1 := by simp
 generalize w2.alloc (.cells #[.slice p n c] 46) = w3 at *
 have b4 : Below w3.heap.size w3 (w3.alloc (.cells #[c0, c1, c2, c3, c4, c5] 48)) := Kac _
 have h4 := heap_alloc_new w3 (.cells #[c0, c1, c2, c3, c4, c5] 48)
 have e3 : w3.heap.size = w.heap.size + 1 + 1 + 1 := by omega
 rw [e3] at h4
 generalize w3.alloc (.cells #[c0, c1, c2, c3, c4, c5] 48) = w4 at *
 have g2 := Kaa b1 b2
 have g3 := Kaa g2 b3
 have g4 := Kaa g3 b4
 have hL := LRd.one h4 (hx.below g4)
 refine (fine_any (hE.b g4) hL (by simp only [totVs]; omega)).mono ?_
 rintro e w5 ⟨rfl, b5⟩
 have k1 := Kaa b2 (Kaa b3 (Kaa b4 b5))
 have k3 := Kaa b4 b5
 have e2 : w2.heap.size = w.heap.size + 2 := by omega
 have e1 : w1.heap.size = w.heap.size + 1 := by omega
 rw [e2] at h3
 rw [e1] at h2
 have k2 := Kaa b3 k3
 exact ⟨Kay (by simp [fineL]), ⟨Kak k1 (by omega) h1, Kak k3 (by omega) h3, Kaa g4 b5⟩, Kak k2 (by omega) h2⟩
theorem storable_any {v : V} {w : World} {x : Array Value} (hE : Env w) (hx : VRd w v x) (ht : totV v ≤ 1099511627776) :
 Calls Tryz.prog 165 #[.agg x] w fun e w' => e = .returned (.bool (okV v && storB v)) ∧ Below w.heap.size w w' := by
 obtain ⟨pk, ck, pl, cl, rfl, htx, hk1, hl1⟩ := hx.open
 have HR := yh (show storB v = storL (if v.kind = 4 then v.list else [v]) from rfl)
 generalize storB v = R at *
 have hF := fun p n c => stor_fine hE hx ht p n c
 generalize okV v = ok at *
 by_cases h4 : v.kind = 4
 ·have HR2 := yh (show R = storL v.list by rw [HR.out, if_pos h4])
  have HF := yh (hF pl v.list.length cl)
  have HC := yh (fun (W : World) (hb : StorB w #[.int .i64 v.kind, .bool v.b, .int .i64 v.n, .string (strB v.text), .slice pk v.keys.length ck, .slice pl v.list.length cl] pl v.list.length cl W) => contains_stor (hl1.below hb.below) hb.box)
  clear HR hF
  rw [← HR2.out] at HC
  rw [h4] at HF HC
  rw [h4]
  clear hx hl1 hE ht htx hk1 h4 HR2
  cases ok with
  | false =>
    go_enter Tryz.func165, Tryz.ntmps165
    go_wp2_with (go_at_call 172; (refine HF.out.mono ?_; rintro e w1 ⟨rfl, hS, _⟩; have HS := yh hS; clear hS))
    go_ret
    exact ⟨rfl, HS.out.below⟩
  | true =>
    go_enter Tryz.func165, Tryz.ntmps165
    go_wp2_with (first
     | (go_at_call 172
        (
          refine HF.out.mono ?_
          rintro e w1 ⟨rfl, hS, _⟩
          have q0 := Kab (o := 0) hS.box rfl
          have HS := yh hS
          clear hS))
     | (go_at_call 183
        (
          refine (HC.out _ HS.out).mono ?_
          rintro e w2 ⟨rfl, hb⟩
          have HB := yh (Kaa HS.out.below hb)
          clear hb)))
    go_ret
    exact ⟨Kay (by simp), HB.out⟩
 ·have HR2 := yh (show R = storL [v] by rw [HR.out, if_neg h4])
  have h4f : (v.kind == 4) = false := by rw [beq_eq_false_iff_ne]; exact h4
  have HF := yh (hF (some ⟨w.heap.size + 1, 0, none⟩) 1 1)
  have HC := yh (fun (W : World) (hb : StorB w #[.int .i64 v.kind, .bool v.b, .int .i64 v.n, .string (strB v.text), .slice pk v.keys.length ck, .slice pl v.list.length cl] (some ⟨w.heap.size + 1, 0, none⟩) 1 1 W) (h : W.heap[w.heap.size + 1]? = some (.cells #[.int .i64 v.kind, .bool v.b, .int .i64 v.n, .string (strB v.text), .slice pk v.keys.length ck, .slice pl v.list.length cl] 48 (0, 0))) =>
   contains_stor (l := [v]) (LRd.one h (hx.below hb.below)) hb.box)
  clear HR hF
  rw [← HR2.out] at HC
  clear hx hl1 hE ht htx hk1 h4 HR2
  cases ok with
  | false =>
    go_enter Tryz.func165, Tryz.ntmps165
    go_wp2_with (go_at_call 172; (refine HF.out.mono ?_; rintro e w1 ⟨rfl, hS, _⟩; have HS := yh hS; clear hS))
    go_ret
    exact ⟨rfl, HS.out.below⟩
  | true =>
    go_enter Tryz.func165, Tryz.ntmps165
    go_wp2_with (first
     | (go_at_call 172
        (
          refine HF.out.mono ?_
          rintro e w1 ⟨rfl, hS, hS2⟩
          have q0 := Kab (o := 0) hS.box rfl
          have HS := yh (And.intro hS hS2)
          clear hS hS2))
     | (go_at_call 183
        (
          refine (HC.out _ HS.out.1 HS.out.2).mono ?_
          rintro e w2 ⟨rfl, hb⟩
          have HB := yh (Kaa HS.out.1.below hb)
          clear hb)))
    go_ret
    exact ⟨Kay (by simp), HB.out⟩
def okNm (s : List UInt8) : Bool := !s.isEmpty && decide (s.length ≤ 64) && Lib.validD s && !s.contains 0
def okSt (v : V) : Bool := okV v && storB v
def okPs (l : List PropD) : Bool := (l.all fun p => okNm p.key && okSt p.val) && Ka7 (l.map PropD.key)
def okN (n : NodeD) : Bool := decide (0 ≤ n.id) && Ka7 n.labels && okPs n.props && n.labels.all okNm
def okR (r : RelD) : Bool := decide (0 ≤ r.id) && okNm r.type && okPs r.props
def Kb4 : List Int → Bool
 | [] => true
 | [_] => true
 | a :: b :: r => decide (a < b) && Kb4 (b :: r)
def okNs (g : GraphD) : Bool := (g.nodes.all fun n => okN n && decide (n.id < g.nextNode)) && Kb4 (g.nodes.map NodeD.id)
def hasN (g : GraphD) (i : Int) : Bool := g.nodes.any fun n => n.id == i
def okRs (g : GraphD) : Bool := (g.rels.all fun r => okR r && decide (r.id < g.nextRel) && hasN g r.src && hasN g r.dst) && Kb4 (g.rels.map RelD.id)
def okSz (g : GraphD) : Bool := decide (g.nodes.length + g.rels.length ≤ 65536) && decide (0 ≤ g.nextNode) && decide (g.nextNode ≤ 4611686018427387904) && decide (0 ≤ g.nextRel) && decide (g.nextRel ≤ 4611686018427387904)
def okG (g : GraphD) : Bool := okSz g && okNs g && okRs g
def okC (c : ChangeD) : Bool :=
 if c.kind = 0 then okG ⟨[c.node], [], 4611686018427387904, 4611686018427387904⟩
 else if c.kind = 1 then okG ⟨if c.rel.src = c.rel.dst then [⟨c.rel.src, [], []⟩] else [⟨min c.rel.src c.rel.dst, [], []⟩, ⟨max c.rel.src c.rel.dst, [], []⟩], [c.rel], 4611686018427387904, 4611686018427387904⟩
 else decide (2 ≤ c.kind) && decide (c.kind ≤ 4)
def toldC (c : ChangeD) : ChangeD :=
 if c.kind = 0 then ⟨0, 0, 0, c.node, rel0⟩ else if c.kind = 1 then ⟨1, 0, 0, node0, c.rel⟩ else if c.kind = 4 then ⟨4, c.id, c.other, node0, rel0⟩ else ⟨c.kind, c.id, 0, node0, rel0⟩
theorem Kb6 {α : Type} (f : α → Nat) {l : List α} {x : α} (h : x ∈ l) : f x ≤ (l.map f).sum := by
 induction l with
 | nil => cases h
 | cons a l ih =>
   rw [List.map_cons, List.sum_cons]
   rcases List.mem_cons.1 h with rfl | h
   ·omega
   ·have := ih h; omega
theorem Kcx {α : Type} (f : α → Nat) {l : List α} (h : ∀ x ∈ l, 1 ≤ f x) : l.length ≤ (l.map f).sum := by
 induction l with
 | nil => simp
 | cons a l ih =>
   rw [List.map_cons, List.sum_cons, List.length_cons]
   have := h a (by simp)
   have := ih fun x hx => h x (by simp [hx])
   omega
theorem wf_of_okV {v : V} (h : okV v = true) (hr : rngV v) (ht : totV v < 18446744073709551616) : wfV 64 v := by
 unfold okV at h
 exact wf_of_check (u := Lib.validD) (by simpa using h) hr ht
theorem wf_of_okPs {l : List PropD} (h : okPs l = true) (hr : ∀ p ∈ l, rngP p) (ht : totPs l < 18446744073709551616) : wfPs l := by
 unfold okPs at h
 simp only [Bool.and_eq_true, List.all_eq_true] at h
 have h1 : l.length ≤ totPs l := Kcx totP fun p _ => by unfold totP; omega
 refine ⟨by unfold u64T; omega, fun p hp => ?_⟩
 have h2 : totP p ≤ totPs l := Kb6 totP hp
 have h3 := h.1 p hp
 unfold okSt at h3
 simp only [Bool.and_eq_true] at h3
 unfold totP at h2
 exact ⟨by unfold u64T; omega, wf_of_okV h3.2.1 (hr p hp) (by omega)⟩
theorem wf_of_okLs {l : List (List UInt8)} (ht : totLs l < 18446744073709551616) : wfLs l := by
 have h1 : l.length ≤ totLs l := Kcx (fun s : List UInt8 => 1 + s.length) fun p _ => by omega
 refine ⟨by unfold u64T; omega, fun s hs => ?_⟩
 have h2 : 1 + s.length ≤ totLs l := Kb6 (fun s : List UInt8 => 1 + s.length) hs
 unfold u64T; omega
theorem wf_of_okN {n : NodeD} (h : okN n = true) (hr : rngN n) (ht : totN n < 18446744073709551616) : wfN n := by
 unfold okN at h
 simp only [Bool.and_eq_true] at h
 unfold totN at ht
 exact ⟨hr.1, wf_of_okLs (by omega), wf_of_okPs h.1.2 hr.2 (by omega)⟩
theorem wf_of_okR {r : RelD} (h : okR r = true) (hr : rngR r) (ht : totR r < 18446744073709551616) : wfR r := by
 unfold okR at h
 simp only [Bool.and_eq_true] at h
 unfold totR at ht
 exact ⟨hr.1, hr.2.1, hr.2.2.1, by unfold u64T; omega, wf_of_okPs h.2 hr.2.2.2 (by omega)⟩
theorem wf_of_okG {g : GraphD} (h : okG g = true) (hr : rngG g) (ht : totG g < 18446744073709551616) : wfG g := by
 unfold okG okNs okRs at h
 simp only [Bool.and_eq_true, List.all_eq_true] at h
 unfold totG at ht
 have h1 : g.nodes.length ≤ (g.nodes.map totN).sum := Kcx totN fun n _ => totN_pos n
 have h2 : g.rels.length ≤ (g.rels.map totR).sum := Kcx totR fun n _ => totR_pos n
 refine ⟨⟨by unfold u64T; omega, fun n hn => ?_⟩, ⟨by unfold u64T; omega, fun r hrr => ?_⟩, hr.2.2.1, hr.2.2.2⟩
 ·exact wf_of_okN (h.1.2.1 n hn).1 (hr.1 n hn) (by have := Kb6 totN hn; omega)
 ·exact wf_of_okR (h.2.1 r hrr).1.1.1 (hr.2.1 r hrr) (by have := Kb6 totR hrr; omega)
theorem okG_node {n : NodeD} {k m : Int} {rs : List RelD} (h : okG ⟨[n], rs, k, m⟩ = true) : okN n = true := by
 unfold okG okNs at h
 simp only [Bool.and_eq_true, List.all_eq_true] at h
 exact (h.1.2.1 n (by simp)).1
theorem okG_rel {r : RelD} {k m : Int} {ns : List NodeD} (h : okG ⟨ns, [r], k, m⟩ = true) : okR r = true := by
 unfold okG okRs at h
 simp only [Bool.and_eq_true, List.all_eq_true] at h
 exact (h.2.1 r (by simp)).1.1.1
theorem wf_of_okC {c : ChangeD} (h : okC c = true) (hr : rngC c) (ht : totC c < 18446744073709551616) : wfC (toldC c) := by
 unfold okC at h
 unfold totC at ht
 obtain ⟨k0, k1, k2, k3, k4⟩ := hr
 unfold toldC wfC
 split at h
 ·rename_i e
  rw [if_pos e]
  exact .inl ⟨rfl, rfl, rfl, wf_of_okN (n := c.node) (okG_node h) k3 (by omega), rfl⟩
 ·split at h
  ·rename_i e0 e
   rw [if_neg e0, if_pos e]
   exact .inr (.inl ⟨rfl, rfl, rfl, rfl, wf_of_okR (r := c.rel) (okG_rel h) k4 (by omega)⟩)
  ·rename_i e0 e1
   simp only [Bool.and_eq_true, decide_eq_true_eq] at h
   rw [if_neg e0, if_neg e1]
   by_cases e4 : c.kind = 4
   ·rw [if_pos e4]
    exact .inr (.inr (.inr ⟨rfl, k1, k2, rfl, rfl⟩))
   ·rw [if_neg e4]
    exact .inr (.inr (.inl ⟨by simp only; omega, k1, rfl, rfl, rfl⟩))
def readW {α : Type} (d : Dec α) (ok : α → Bool) (b : List UInt8) : Option α := match d b with
 | some (x, []) => if ok x then some x else none
 | _ => none
section
variable {α : Type} {d : Dec α} {e : α → List UInt8} {P : α → Prop} {ok : α → Bool} {f : Rs → α × Rs} {sz : α → Nat} {R : α → Prop}
theorem readW_of {x : α} (h : RT d e P) (hP : P x) (hk : ok x = true) : readW d ok (e x) = some x := by
 unfold readW
 have := h.full x [] hP
 rw [List.append_nil] at this
 rw [this]
 simp only [hk, if_true]
end
theorem numB_len : ∀ (k n : Nat), n < 128 ^ k → 1 ≤ k → (numB n).length ≤ k
 | 0, n, h, hk => by omega
 | k + 1, n, h, hk => by
   by_cases hn : n < 128
   ·rw [Kbv hn]; simp
   ·rw [Kci hn, List.length_cons]
    have hk0 : k ≠ 0 := fun e => by subst e; simp at h; omega
    have : n / 128 < 128 ^ k := by rw [Nat.div_lt_iff_lt_mul (by omega), ← Nat.pow_succ]; exact h
    have := numB_len k (n / 128) this (by omega)
    omega
theorem Kbj {n : Nat} (h : u64T n) : (numB n).length ≤ 10 := by
 have h2 : (18446744073709551616 : Nat) ≤ 128 ^ 10 := by decide
 exact numB_len 10 n (Nat.lt_of_lt_of_le h h2) (by omega)
theorem risesI_step : ∀ {l : List Int} {j : Nat} (h : j + 1 < l.length), Kb4 (l.take (j + 2)) = (Kb4 (l.take (j + 1)) && decide (l[j] < l[j + 1]))
 | [], j, h => by simp at h
 | [_], j, h => by simp at h
 | a :: b :: r, 0, h => by simp [Kb4]
 | a :: b :: r, j + 1, h => by
   have ih := risesI_step (l := b :: r) (j := j) (by simpa using h)
   simp only [List.take_succ_cons] at ih ⊢
   rw [Kb4, Kb4, ih]
   simp only [List.getElem_cons_succ, Bool.and_assoc]
theorem risesI_one (l : List Int) : Kb4 (l.take 1) = true := by
 cases l with
 | nil => rfl
 | cons a r => simp [Kb4]
theorem Kdz : ∀ {l : List Int}, Kb4 l = true → ∀ {a b : Nat} (hb : b < l.length) (h : a < b), l[a] < l[b]
 | [], _, a, b, hb, _ => by simp at hb
 | [_], _, a, b, hb, h => by simp at hb; omega
 | x :: y :: r, hr, a, b, hb, h => by
   rw [Kb4, Bool.and_eq_true, decide_eq_true_eq] at hr
   have ih := fun (a b : Nat) (hb : b < (y :: r).length) (h : a < b) => Kdz (l := y :: r) hr.2 hb h
   cases b with
   | zero => omega
   | succ b =>
     have hb2 : b < (y :: r).length := by simpa using hb
     cases a with
     | zero =>
       simp only [List.getElem_cons_zero, List.getElem_cons_succ]
       cases b with
       | zero => exact hr.1
       | succ b =>
         have := ih 0 (b + 1) hb2 (by omega)
         simp only [List.getElem_cons_zero] at this
         have h1 := hr.1
         omega
     | succ a =>
       simp only [List.getElem_cons_succ]
       exact ih a b hb2 (by omega)
theorem found_of {l : List Int} {i : Nat} {x : Int} (h1 : ∀ t (ht : t < l.length), t < i → l[t] < x) (h2 : ∀ t (ht : t < l.length), i ≤ t → x ≤ l[t]) (hr : Kb4 l = true) (hi : i < l.length) : decide (l[i] = x) = l.any (· == x) := by
 by_cases e : l[i] = x
 ·rw [decide_eq_true e]
  exact (List.any_eq_true.2 ⟨l[i], List.getElem_mem hi, by simpa using e⟩).symm
 ·rw [decide_eq_false e]
  symm
  rw [List.any_eq_false]
  intro y hy hyx
  obtain ⟨t, ht, rfl⟩ := List.getElem_of_mem hy
  have hx : l[t] = x := by simpa using hyx
  by_cases h : t < i
  ·have := h1 t ht h; omega
  ·by_cases h' : t = i
   ·subst h'; exact e hx
   ·have := Kdz hr ht (show i < t by omega)
    have := h2 i hi (Nat.le_refl _)
    omega
theorem found_none {l : List Int} {x : Int} (h1 : ∀ t (ht : t < l.length), l[t] < x) : l.any (· == x) = false := by
 rw [List.any_eq_false]
 intro y hy hyx
 obtain ⟨t, ht, rfl⟩ := List.getElem_of_mem hy
 have hx : l[t] = x := by simpa using hyx
 have := h1 t ht
 omega
theorem hasN_ids (g : GraphD) (x : Int) : hasN g x = (g.nodes.map NodeD.id).any (· == x) := by
 unfold hasN
 rw [List.any_map]
 rfl
section
variable {α : Type} {d : Dec α} {e : α → List UInt8} {f : Rs → α × Rs}
theorem Kc1 {l : List α} {j : Nat} (h : j < l.length) : (l.take (j + 1)).flatMap e = (l.take j).flatMap e ++ e l[j] := by
 rw [List.take_succ_eq_append_getElem h, List.flatMap_append]
 simp
theorem rows_at (e : α → List UInt8) (l : List α) : numB l.length ++ (l.take l.length).flatMap e = rowsC e l := by
 rw [List.take_length]; rfl
def RepAt (d : Dec α) (n : Nat) (b : List UInt8) (l : List α) (r : List UInt8) : Prop := l.length ≤ n ∧ d.rep n b = (d.rep (n - l.length) r).map fun p => (l ++ p.1, p.2)
theorem RepAt.start (d : Dec α) (n : Nat) (b : List UInt8) : RepAt d n b [] b := by
 refine ⟨by simp, ?_⟩
 simp only [List.length_nil, Nat.sub_zero, List.nil_append]
 cases d.rep n b with
 | none => rfl
 | some p => rfl
theorem RepAt.step {n : Nat} {b r s : List UInt8} {l : List α} {x : α} (h : RepAt d n b l r) (hl : l.length < n) (hd : d r = some (x, s)) : RepAt d n b (l ++ [x]) s := by
 refine ⟨by rw [List.length_append]; simp; omega, ?_⟩
 rw [h.2]
 have e1 : n - l.length = (n - (l ++ [x]).length) + 1 := by rw [List.length_append]; simp; omega
 rw [e1, Dec.rep, hd]
 simp only
 cases d.rep (n - (l ++ [x]).length) s with
 | none => rfl
 | some p => simp
theorem RepAt.fail {n : Nat} {b r : List UInt8} {l : List α} (h : RepAt d n b l r) (hl : l.length < n) (hd : d r = none) : d.rep n b = none := by
 rw [h.2]
 have e1 : n - l.length = (n - l.length - 1) + 1 := by omega
 rw [e1, Dec.rep, hd]
 rfl
theorem RepAt.done {n : Nat} {b r : List UInt8} {l : List α} (h : RepAt d n b l r) (hl : l.length = n) : d.rep n b = some (l, r) := by
 rw [h.2, hl, Nat.sub_self, Dec.rep]
 simp
def LoopAt (f : Rs → α × Rs) (n : Nat) (s0 : Rs) (l : List α) (s : Rs) : Prop := l.length ≤ n ∧ Kbg f n s0 = (l ++ (Kbg f (n - l.length) s).1, (Kbg f (n - l.length) s).2)
theorem LoopAt.start (f : Rs → α × Rs) (n : Nat) (s : Rs) : LoopAt f n s [] s := ⟨by simp, by simp⟩
theorem LoopAt.step {n : Nat} {s0 s : Rs} {l : List α} (h : LoopAt f n s0 l s) (hl : l.length < n) (hb : s.2 = false) : LoopAt f n s0 (l ++ [(f s).1]) (f s).2 := by
 refine ⟨by rw [List.length_append]; simp; omega, ?_⟩
 rw [h.2]
 have e1 : n - l.length = (n - (l ++ [(f s).1]).length) + 1 := by rw [List.length_append]; simp; omega
 rw [e1, Kbg, if_neg (by rw [hb]; decide)]
 simp
end
theorem rdText_of {b r : List UInt8} {n : Nat} (h : rdN 0 0 b = some (n, r)) (hn : n ≤ r.length) : Ka4 b = some (r.take n, r.drop n) := by
 unfold Ka4; rw [h]; simp only; rw [if_pos hn]
theorem rdText_short {b r : List UInt8} {n : Nat} (h : rdN 0 0 b = some (n, r)) (hn : ¬ n ≤ r.length) : Ka4 b = none := by
 unfold Ka4; rw [h]; simp only; rw [if_neg hn]
theorem rdText_none {b : List UInt8} (h : rdN 0 0 b = none) : Ka4 b = none := by
 unfold Ka4; rw [h]
theorem Kdf {α : Type} {d : Dec α} {b r : List UInt8} {n : Nat} (h : rdN 0 0 b = some (n, r)) (hn : n ≤ r.length) : Kas d b = d.rep n r := by
 unfold Kas; rw [h]; simp only; rw [if_pos hn]
theorem Kca {α : Type} {d : Dec α} {b r : List UInt8} {n : Nat} (h : rdN 0 0 b = some (n, r)) (hn : ¬ n ≤ r.length) : Kas d b = none := by
 unfold Kas; rw [h]; simp only; rw [if_neg hn]
theorem Kcl {α : Type} {d : Dec α} {b : List UInt8} (h : rdN 0 0 b = none) : Kas d b = none := by
 unfold Kas; rw [h]
theorem textC_len {s : List UInt8} (h : s.length < 18446744073709551616) : (textC s).length ≤ 10 + s.length := by
 unfold textC
 rw [List.length_append]
 have := Kbj (n := s.length) h
 omega
theorem flatC_len {α : Type} (e : α → List UInt8) (f : α → Nat) : ∀ l : List α, (∀ x ∈ l, (e x).length ≤ 64 * f x) → (l.flatMap e).length ≤ 64 * (l.map f).sum
 | [], _ => by simp
 | x :: l, h => by
   have := h x (by simp)
   have := flatC_len e f l fun y hy => h y (by simp [hy])
   simp only [List.map_cons, List.sum_cons, List.flatMap_cons, List.length_append]
   omega
theorem rowsC_len {α : Type} (e : α → List UInt8) (f : α → Nat) {l : List α} (hl : l.length < 18446744073709551616) (h : ∀ x ∈ l, (e x).length ≤ 64 * f x) : (rowsC e l).length ≤ 10 + 64 * (l.map f).sum := by
 unfold rowsC
 rw [List.length_append]
 have := Kbj (n := l.length) hl
 have := flatC_len e f l h
 omega
theorem kv_len : ∀ (ks : List (List UInt8)) (l : List V), (ks.map List.length).sum < 18446744073709551616 → (kvC ks l).length ≤ 10 * ks.length + (ks.map List.length).sum + (valsC l).length
 | _, [], _ => by simp [kvC, valsC]
 | [], a :: x, h => by
   have := kv_len [] x (by simp)
   rw [kvC, valsC, List.length_append, List.length_append]
   simp only [List.length_nil, List.map_nil, List.sum_nil] at this ⊢
   omega
 | s :: ks, a :: x, h => by
   rw [List.map_cons, List.sum_cons] at h
   have := kv_len ks x (by omega)
   have := textC_len (s := s) (by omega)
   rw [kvC, valsC, List.length_append, List.length_append, List.length_append, List.map_cons, List.sum_cons, List.length_cons]
   omega
theorem valC_len : ∀ v : V, rngV v → totV v < 1152921504606846976 → (valC v).length ≤ 64 * totV v := by
 refine V.ind fun k b n t ks l ih => ?_
 intro hr ht
 have hl : ∀ m : List V, (∀ v ∈ m, v ∈ l) → (valsC m).length ≤ 64 * totVs m := by
  intro m
  induction m with
  | nil => intro _; simp [valsC]
  | cons a r ihr =>
    intro hm
    rw [valsC, Kdb, List.length_append]
    have h1 := ih a (hm a (by simp)) (rngVs_iff.1 (rngV_mk.1 hr).2 a (hm a (by simp))) (by
     rw [totV_mk] at ht
     have := totVs_mem (hm a (by simp)); omega)
    have h2 := ihr fun v hv => hm v (by simp [hv])
    omega
 have hl := hl l fun v hv => hv
 have hn := (rngV_mk.1 hr).1
 rw [totV_mk] at ht ⊢
 have hc := Kds l
 have h1 := Kbj (n := l.length) (by unfold u64T; omega)
 have h2 := Kbj (un_zz (n := n) hn).1
 have h3 := Kbj (Kbu (n := n) hn).1
 have h4 := textC_len (s := t) (by omega)
 have h5 := kv_len ks l (by omega)
 rw [valC, List.length_cons]
 repeat' split
 all_goals (try simp only [List.length_append, List.length_cons, List.length_nil])
 all_goals omega
theorem propC_len {p : PropD} (h : rngP p) (ht : totP p < 1152921504606846976) : (propC p).length ≤ 64 * totP p := by
 unfold totP at *
 unfold propC
 have := textC_len (s := p.key) (by omega)
 have := valC_len p.val h (by omega)
 rw [List.length_append]
 omega
theorem props_len {l : List PropD} (h : ∀ p ∈ l, rngP p) (ht : totPs l < 1152921504606846976) : (rowsC propC l).length ≤ 10 + 64 * totPs l := by
 have h1 : l.length ≤ totPs l := Kcx totP fun p _ => by unfold totP; omega
 exact rowsC_len propC totP (by omega) fun p hp => propC_len (h p hp) (by have : totP p ≤ totPs l := Kb6 totP hp; omega)
theorem labels_len {l : List (List UInt8)} (ht : totLs l < 1152921504606846976) : (rowsC textC l).length ≤ 10 + 64 * totLs l := by
 have h1 : l.length ≤ totLs l := Kcx (fun s : List UInt8 => 1 + s.length) fun p _ => by omega
 refine rowsC_len textC (fun s => 1 + s.length) (by omega) fun s hs => ?_
 have h2 : 1 + s.length ≤ totLs l := Kb6 (fun s : List UInt8 => 1 + s.length) hs
 have := textC_len (s := s) (by omega)
 omega
theorem nodeC_len {n : NodeD} (h : rngN n) (ht : totN n < 1152921504606846976) : (nodeC n).length ≤ 64 * totN n := by
 unfold totN at *
 unfold nodeC
 have := Kbj (Kbu (n := n.id) h.1).1
 have := labels_len (l := n.labels) (by omega)
 have := props_len (l := n.props) h.2 (by omega)
 simp only [List.length_append]
 omega
theorem relC_len {n : RelD} (h : rngR n) (ht : totR n < 1152921504606846976) : (relC n).length ≤ 64 * totR n := by
 unfold totR at *
 unfold relC
 have := Kbj (Kbu (n := n.id) h.1).1
 have := Kbj (Kbu (n := n.src) h.2.1).1
 have := Kbj (Kbu (n := n.dst) h.2.2.1).1
 have := textC_len (s := n.type) (by omega)
 have := props_len (l := n.props) h.2.2.2 (by omega)
 simp only [List.length_append]
 omega
theorem changeC_len {c : ChangeD} (h : rngC c) (ht : totC c < 1152921504606846976) : (Kax c).length ≤ 64 * totC c := by
 unfold totC at *
 unfold Kax
 have := nodeC_len h.2.2.2.1 (by omega)
 have := relC_len h.2.2.2.2 (by omega)
 have := Kbj (un_zz (n := c.id) h.2.1).1
 have := Kbj (un_zz (n := c.other) h.2.2.1).1
 have h1 : 1 ≤ totN c.node := by unfold totN; omega
 have h2 : 1 ≤ totR c.rel := by unfold totR; omega
 rw [List.length_cons]
 repeat' split
 all_goals (try simp only [List.length_append])
 all_goals omega
theorem graphC_len {g : GraphD} (h : rngG g) (ht : totG g < 1152921504606846976) : (Kdp g).length ≤ 40 + 64 * totG g := by
 unfold totG at *
 unfold Kdp
 have k1 : g.nodes.length ≤ (g.nodes.map totN).sum := Kcx totN fun n _ => totN_pos n
 have k2 : g.rels.length ≤ (g.rels.map totR).sum := Kcx totR fun n _ => totR_pos n
 have := Kbj (Kbu (n := g.nextNode) h.2.2.1).1
 have := Kbj (Kbu (n := g.nextRel) h.2.2.2).1
 have := rowsC_len nodeC totN (l := g.nodes) (by omega) fun n hn => nodeC_len (h.1 n hn) (by have := Kb6 totN hn; omega)
 have := rowsC_len relC totR (l := g.rels) (by omega) fun n hn => relC_len (h.2.1 n hn) (by have := Kb6 totR hn; omega)
 simp only [List.length_append]
 omega
theorem changesC_len {l : List ChangeD} (h : ∀ c ∈ l, rngC c) (ht : (l.map totC).sum < 1152921504606846976) : (Kbr l).length ≤ 10 + 64 * (l.map totC).sum := by
 have k1 : l.length ≤ (l.map totC).sum := Kcx totC fun n _ => by unfold totC totN; omega
 exact rowsC_len Kax totC (by omega) fun n hn => changeC_len (h n hn) (by have := Kb6 totC hn; omega)
theorem exec_index {P : Program} {a : Act} {w w' : World} {o : Oper} {t : TypeId} {x y : Operand} {vx vy v : Value} (ho : o.op = .index t x y) (hx : a.eval x = vx) (hy : a.eval y = vy) (hr : (Instr.index t vx vy).run P w = .ok v w') :
 (execOp a.eval o).run P w = .ok (.value v) w' := by
 unfold execOp; rw [ho]; simp only [hx, hy, Sem.run_bind, hr, Result.andThen_ok, Sem.run_pure]
def byteV (c : UInt8) : Value := .int .u8 (c.toNat : Int)
theorem info_u8v : ∃ i, Tryz.prog.info? 5 = some i ∧ i.zero = some (.int .u8 0) ∧ i.size = 1 ∧ i.bytes = 1 := info_parts (by kernel_rfl)
structure Buf (w W : World) (o : Value) (l : List UInt8) : Prop where
 own : OwnsP W (fun b => w.heap.size ≤ b) 5 1 o l.length (l.map byteV)
 b : Below w.heap.size w W
theorem Buf.below {w W W' : World} {o : Value} {l : List UInt8} (h : Buf w W o l) (g : Below W.heap.size W W') : Buf w W' o l := ⟨h.own.keep fun b _ hb => g.block b hb, Kaa h.b g⟩
theorem Buf.start {w W : World} (hb : Below w.heap.size w W) {m : List UInt8} {cs : Array Value} (hc : cs.toList = m.map byteV) (hn : m.length ≤ 1000000) : Buf w (W.alloc (.cells cs 5)) (.slice (some ⟨W.heap.size, 0, none⟩) m.length m.length) m := by
 have hs : cs.size = m.length := by have := congrArg List.length hc; simpa using this
 refine ⟨⟨ownsRow_of_heap (heap_alloc_new W _) (Nat.le_refl _) (by unfold maxLen; omega) (by rw [hs]; omega) ?_ (by simp), fun g hg => by cases hg; exact hb.size⟩, Kaa hb (Kac _)⟩
 rw [Nat.mul_one, hc, List.take_of_length_le (by simp)]
theorem Buf.step {w W : World} {o : Value} {l : List UInt8} (h : Buf w W o l) {g : Nat} {m : List UInt8} {cs : Array Value} (hg : W.heap[g]? = some (.cells cs 5 (0, 0))) (hc : cs.toList = m.map byteV) (hn : l.length + m.length ≤ 70368744177664) (ty : TypeId) :
 ∃ v W', (Builtin.append_ #[26, 26] ty #[o, .slice (some ⟨g, 0, none⟩) m.length m.length]).run Tryz.prog W = .ok v W' ∧ Buf w W' v (l ++ m) := by
 obtain ⟨i, i1, i2, i3, i4⟩ := info_u8v
 have hsz := h.b.size
 obtain ⟨v', W', a1, a2, a3, a4, a5⟩ := Kcv (P := Tryz.prog) (w := W) 26 ty 5 i _ 1 1 Tryz.underlying26 i1 i2 i3 i4 rfl o l.length _ h.own.1 ⟨g, 0, none⟩ m.length m.length (m.map byteV)
  (by simp) (fun j u hu => by
    rw [Ka9, Nat.zero_add]
    refine Kab hg ?_
    rw [← hc] at hu; simpa using hu) (fun u hu => by obtain ⟨s, _, rfl⟩ := List.mem_map.1 hu; rfl) (by unfold maxLen; omega) (by omega)
 refine ⟨v', W', a1, ⟨?_, fun q hq => ?_⟩, ?_⟩
 ·rw [List.length_append, List.map_append]; exact a2
 ·rcases a4 with e | e
  ·exact h.own.2 q (e.symm.trans hq)
  ·rw [e] at hq; cases hq; exact hsz
 ·exact a3.below h.b (fun b hb e => by have := h.own.2 b e; omega) hsz
structure WS (T : TypeId) (w W : World) (q : Nat) (l : List UInt8) (o : Value) : Prop where
 b : Below w.heap.size w W
 base : w.heap.size ≤ q
 box : W.heap[q]? = some (.cells #[o] T (0, 0))
 own : OwnsP W (fun b => w.heap.size ≤ b ∧ b ≠ q) 5 1 o l.length (l.map byteV)
structure WTo (q : Nat) (o o' : Value) (W W' : World) : Prop where
 size : W.heap.size ≤ W'.heap.size
 keep : ∀ b, b < W.heap.size → b ≠ q → o.ownBlock ≠ some b → W'.heap[b]? = W.heap[b]?
 own : o'.ownBlock = o.ownBlock ∨ ∀ b, o'.ownBlock = some b → W.heap.size ≤ b
section
variable {T : TypeId} {w W W1 W' W'' : World} {q : Nat} {l m : List UInt8} {o o' o'' : Value}
theorem WTo.refl (q : Nat) (o : Value) (W : World) : WTo q o o W W := ⟨Nat.le_refl _, fun _ _ _ _ => rfl, .inl rfl⟩
theorem WTo.trans (h : WTo q o o' W W') (g : WTo q o' o'' W' W'') : WTo q o o'' W W'' := by
 refine ⟨Nat.le_trans h.size g.size, fun b hb hq ho => ?_, ?_⟩
 ·refine (g.keep b (Nat.lt_of_lt_of_le hb h.size) hq fun e => ?_).trans (h.keep b hb hq ho)
  rcases h.own with h1 | h1
  ·rw [h1] at e; exact ho e
  ·have := h1 b e; omega
 ·rcases g.own with g1 | g1
  ·rcases h.own with h1 | h1
   ·exact .inl (g1.trans h1)
   ·exact .inr fun b hb => h1 b (g1 ▸ hb)
  ·exact .inr fun b hb => Nat.le_trans h.size (g1 b hb)
theorem WTo.of_below (g : Below W.heap.size W W') : WTo q o o W W' := ⟨g.size, fun b hb _ _ => g.block b hb, .inl rfl⟩
theorem WS.slice (h : WS T w W q l o) : ∃ p c, o = .slice p l.length c := Kbx h.own
theorem WS.below (h : WS T w W q l o) (g : Below W.heap.size W W') : WS T w W' q l o := ⟨Kaa h.b g, h.base, Kak g (Array.getElem?_eq_some_iff.1 h.box).1 h.box, h.own.keep fun b _ hb => g.block b hb⟩
theorem WS.lt (h : WS T w W q l o) : q < W.heap.size := (Array.getElem?_eq_some_iff.1 h.box).1
theorem WS.le (h : WS T w W q l o) : w.heap.size ≤ W.heap.size := h.b.size
theorem WS.start {W : World} (h : Below w.heap.size w W) (hq : W.heap[q]? = some (.cells #[.slice none 0 0] T (0, 0))) (hb : w.heap.size ≤ q) : WS T w W q [] (.slice none 0 0) :=
 ⟨h, hb, hq, ⟨⟨by simp, .inl ⟨rfl, rfl⟩⟩, fun g hg => by simp [Value.ownBlock] at hg⟩⟩
theorem WS.other (h : WS T w W q l o) {k i : Nat} (hk : k ≠ q) (ho : o.ownBlock ≠ some k) (hb : w.heap.size ≤ k) (u : Value) : WS T w (W.setCell ⟨k, i, none⟩ u) q l o := by
 have hs : ∀ b, b ≠ k → (W.setCell ⟨k, i, none⟩ u).heap[b]? = W.heap[b]? := fun b hb => Below.heap_setCell W ⟨k, i, none⟩ u b hb
 have hlt := h.own.1.lt
 refine ⟨Kbf h.b hb u, h.base, (hs q (fun e => hk e.symm)).trans h.box, ⟨?_, h.own.2⟩⟩
 exact Kcz h.own.1 fun g hg => hs g fun e => ho (e ▸ hg)
theorem WS.step (h : WS T w W q l o) (hb : Below W.heap.size W W1) {ad : Addr} {c : Nat} (src : ∀ (j : Nat) (u : Value), (m.map byteV)[j]? = some u → W1.cell? (ad.add j) = some u) (hn : l.length + m.length ≤ 70368744177664) (ty : TypeId) :
 ∃ p' c' W2, (Builtin.append_ #[26, 26] ty #[o, .slice (some ad) m.length c]).run Tryz.prog W1 = .ok (.slice p' (l ++ m).length c') W2 ∧ W2.heap[q]? = some (.cells #[o] T (0, 0)) ∧
  WS T w (W2.setCell ⟨q, 0, none⟩ (.slice p' (l ++ m).length c')) q (l ++ m) (.slice p' (l ++ m).length c') ∧ WTo q o (.slice p' (l ++ m).length c') W (W2.setCell ⟨q, 0, none⟩ (.slice p' (l ++ m).length c')) ∧ W1.heap.size ≤ W2.heap.size := by
 have h1 := h.below hb
 obtain ⟨i, i1, i2, i3, i4⟩ := info_u8v
 have hsz := h1.b.size
 obtain ⟨v', W2, a1, a2, a3, a4, a5⟩ := Kcv (P := Tryz.prog) (w := W1) 26 ty 5 i _ 1 1 Tryz.underlying26 i1 i2 i3 i4 rfl o l.length _ h1.own.1 ad m.length c (m.map byteV)
  (by simp) src (fun u hu => by obtain ⟨s, _, rfl⟩ := List.mem_map.1 hu; rfl) (by unfold maxLen; omega) (by omega)
 have hOwn : OwnsP W2 (fun b => w.heap.size ≤ b ∧ b ≠ q) 5 1 v' (l ++ m).length ((l ++ m).map byteV) := by
  refine ⟨by rw [List.length_append, List.map_append]; exact a2, fun g hg => ?_⟩
  rcases a4 with e | e
  ·exact h1.own.2 g (e.symm.trans hg)
  ·rw [e] at hg; cases hg
   exact ⟨hsz, fun e => by have := h1.lt; omega⟩
 obtain ⟨p', c', rfl⟩ := Kbx hOwn
 have hq2 : W2.heap[q]? = some (.cells #[o] T (0, 0)) := (a3.block q h1.lt fun e => (h1.own.2 q e).2 rfl).trans h1.box
 have hB2 : Below w.heap.size w W2 := a3.below h1.b (fun b hb e => by have := (h1.own.2 b e).1; omega) hsz
 have hset : ∀ b, b ≠ q → (W2.setCell ⟨q, 0, none⟩ (.slice p' (l ++ m).length c')).heap[b]? = W2.heap[b]? := fun b hb => Below.heap_setCell W2 ⟨q, 0, none⟩ _ b hb
 refine ⟨p', c', W2, a1, hq2, ⟨Kbf hB2 h.base _, h.base, ?_, hOwn.keep fun b hb _ => hset b hb.2⟩, ⟨?_, fun b hb1 hq ho => ?_, ?_⟩, a5⟩
 ·have := heap_setCell_same W2 q 0 #[o] T (.slice p' (l ++ m).length c') hq2
  exact this
 ·have : (W2.setCell ⟨q, 0, none⟩ (.slice p' (l ++ m).length c')).heap.size = W2.heap.size := by simp [World.setCell]
  have := hb.size; omega
 ·rw [hset b hq, a3.block b (Nat.lt_of_lt_of_le hb1 hb.size) ho, hb.block b hb1]
 ·rcases a4 with e | e
  ·exact .inl e
  ·refine .inr fun b hb1 => ?_
   rw [e] at hb1; cases hb1; exact hb.size
end
theorem or_byte (k : Nat) : (k ||| 128) % 256 = k % 128 + 128 := by
 have h : (k ||| 128) % 2 ^ 8 = k % 2 ^ 8 ||| 128 % 2 ^ 8 := Nat.or_mod_two_pow
 have e : (2 : Nat) ^ 8 = 256 := rfl
 rw [e] at h
 rw [h]
 have e2 : 128 % 256 = 128 := rfl
 rw [e2]
 have hy : k % 128 < 2 ^ 7 := Nat.mod_lt _ (by decide)
 have hj : 128 ||| k % 128 = 128 + k % 128 := nat_join 7 128 (k % 128) (by decide) hy
 have hx : k % 256 = k % 128 ∨ k % 256 = 128 + k % 128 := by omega
 rcases hx with hx | hx
 ·rw [hx, Nat.or_comm, hj]; omega
 ·rw [hx, ← hj, Nat.or_comm, ← Nat.or_assoc, Nat.or_self, hj]; omega
theorem bits_or128 {k : Nat} (h : k < 18446744073709551616) : bits .or .u64 (k : Int) 128 = ((k ||| 128 : Nat) : Int) := u64_or_nat k 128 h (by omega)
theorem byte_or128 {k : Nat} (h : k < 18446744073709551616) : ((UInt8.ofNat (k % 128 + 128)).toNat : Int) = IntKind.u8.wrap (bits .or .u64 (k : Int) 128) := by
 rw [bits_or128 h, Kb1 (by omega), IntKind.wrap_u8']
 have := or_byte k
 omega
theorem Buf.empty (w : World) : Buf w w (.slice none 0 0) [] := ⟨⟨⟨by simp, .inl ⟨rfl, rfl⟩⟩, fun g hg => by simp [Value.ownBlock] at hg⟩, Below.refl _ _⟩
theorem Buf.one {w W : World} {o : Value} {l : List UInt8} (h : Buf w W o l) (c : UInt8) (hn : l.length ≤ 1000000) (ty : TypeId) :
 ∃ v W', (Builtin.append_ #[26, 26] ty #[o, .slice (some ⟨W.heap.size, 0, none⟩) 1 1]).run Tryz.prog (W.alloc (.cells #[.int .u8 (c.toNat : Int)] 5)) = .ok v W' ∧ Buf w W' v (l ++ [c]) := by
 have h1 := h.below (Kac (.cells #[.int .u8 (c.toNat : Int)] 5))
 exact h1.step (m := [c]) (heap_alloc_new W _) rfl (by simp; omega) ty
theorem cnumber_any {n : Nat} (hn : n < 18446744073709551616) (w : World) : Calls Tryz.prog 99 #[.int .u64 (n : Int)] w fun e w' => ∃ o, e = .returned o ∧ Buf w w' o (numB n) := by
 go_enter Tryz.func99, Tryz.ntmps99
 go_wp2
 go_loopw [0, 3] (fun i o wr => ∃ (k : Nat) (pre : List UInt8), i = .int .u64 (k : Int) ∧ k < 18446744073709551616 ∧ pre ++ numB k = numB n ∧ Hid (Buf w wr o pre)) (fun i _ _ => (intOf i).toNat)
 case atStart => exact ⟨n, [], rfl, hn, rfl, yh (Buf.empty w)⟩
 case round =>
  obtain ⟨k, pre, rfl, hk, hpre, HB⟩ := hrel
  have hlen : pre.length ≤ 1000000 := by
   have := congrArg List.length hpre
   have := numB_len 10 n (Nat.lt_of_lt_of_le hn (by decide)) (by omega)
   simp only [List.length_append] at *
   omega
  by_cases h : 128 ≤ k
  ·have h' : (128 : Int) ≤ (k : Int) := by omega
   obtain ⟨v, W', ha, hI⟩ := HB.out.one (UInt8.ofNat (k % 128 + 128)) hlen 26
   rw [byte_or128 hk] at ha
   have Ha := yh ha
   have HI := yh hI
   have HP := yh hpre
   clear ha hI hpre hlen
   go_wp2_with (refine Kc9 rfl rfl rfl rfl Ha.out ?_)
   go_roundw
   case rel => exact ⟨k / 128, pre ++ [UInt8.ofNat (k % 128 + 128)], by simp, by omega, by rw [List.append_assoc, List.singleton_append, ← Kci (by omega)]; exact HP.out, HI⟩
   case measure => simp [intOf]; omega
  ·have h' : (k : Int) < 128 := by omega
   obtain ⟨v, W', ha, hI⟩ := HB.out.one (UInt8.ofNat k) hlen 26
   have e3 : ((UInt8.ofNat k).toNat : Int) = (k : Int) := by rw [Kb1 (by omega)]
   rw [e3] at ha
   rw [← Kbv (by omega), hpre] at hI
   have Ha := yh ha
   have HI := yh hI
   clear ha hI hpre hlen
   go_wp2_with (refine Kc9 rfl rfl rfl rfl Ha.out ?_)
   go_ret
   exact ⟨_, rfl, HI.out⟩
def Tells (w W : World) (q : Nat) (l : List UInt8) (o : Value) (m : List UInt8) (e : Ending) (W' : World) : Prop :=
 e = .returned (.tuple #[]) ∧ ∃ o', WS 83 w W' q (l ++ m) o' ∧ WTo q o o' W W'
theorem put_u8s {w : World} {ad : Addr} {p : Option Addr} {n c : Nat} {u : Value} (hc : w.cell? ad = some u) (hf : w.frozen? ad = false) : (storeVar 26 ad (.slice p n c)).run Tryz.prog w = .ok () (w.setCell ad (.slice p n c)) := by
 simp [storeVar, go_sem, hc, hf]
theorem Buf.ad {w W : World} {o : Value} {l : List UInt8} (h : Buf w W o l) (hl : 0 < l.length) : ∃ g c, o = .slice (some ⟨g, 0, none⟩) l.length c ∧ ∀ (j : Nat) (u : Value), (l.map byteV)[j]? = some u → W.cell? ((⟨g, 0, none⟩ : Addr).add j) = some u := by
 have hcells := fun (g : Nat) (e : o.ownBlock = some g) => h.own.1.cells (g := g) e
 rcases h.own.1.2 with ⟨rfl, e⟩ | ⟨g, cap, cur, rfl, _⟩
 ·omega
 ·exact ⟨g, cap, rfl, hcells g rfl⟩
theorem append_text {w : World} {v : Value} {n : Nat} {xs : List Value} (hown : w.ownsRow 0 5 1 v n xs) (s : ByteArray) (h : n + s.size ≤ 70368744177664) (ty : TypeId) :
 ∃ v' w', (Builtin.append_ #[26, 9] ty #[v, .string s]).run Tryz.prog w = .ok v' w' ∧ w'.ownsRow 0 5 1 v' (n + s.size) (xs ++ Lib.strCells s) ∧ Touch (fun b => v.ownBlock = some b) w w' ∧
  (v'.ownBlock = v.ownBlock ∨ v'.ownBlock = some w.heap.size) ∧ w.heap.size ≤ w'.heap.size := by
 obtain ⟨i, i1, i2, i3, i4⟩ := info_u8v
 obtain ⟨v', w', h1, h2, h3, h4⟩ := Lib.run_append_own_string (P := Tryz.prog) w 0 26 9 ty 5 i Tryz.underlying26 Tryz.underlying9 i1 i2 i3 i4 v n xs hown s (by unfold maxLen; omega) (by omega) (by omega)
 obtain ⟨g1, g2, g3, g4, g5⟩ := h3
 refine ⟨v', w', h1, h2, ⟨g1, g2, g3, g4, fun b hb hn => g5 b hb fun e => hn e.symm⟩, ?_, g4⟩
 rcases hown.2 with ⟨rfl, rfl⟩ | ⟨g, cap, cur, rfl, hbg, hg, hnc, hcm, hcs, htake⟩
 ·by_cases hs : s.size = 0
  ·exact .inl (by rw [h4.2 ⟨rfl, hs⟩])
  ·have hr := run_append_nil_string (P := Tryz.prog) w 26 9 ty 5 i (.int .u8 0) Tryz.underlying26 Tryz.underlying9 i1 i2 s (by omega) (by omega) (by rw [i4]; omega)
   rw [hr] at h1
   cases h1
   exact .inr rfl
 ·have hcs' : cur.size = cap := by simpa using hcs
  by_cases hroom : n + s.size ≤ cap
  ·have hr := Lib.run_append_room_string (P := Tryz.prog) w 26 9 ty 5 i Tryz.underlying26 Tryz.underlying9 i1 i3 g n cap cur hg s hroom (by omega)
   rw [hr] at h1
   cases h1
   exact .inl rfl
  ·have hr := Lib.run_append_grow_string (P := Tryz.prog) w 26 9 ty 5 i (.int .u8 0) Tryz.underlying26 Tryz.underlying9 i1 i2 ⟨g, 0, none⟩ n cap xs (by rw [i3]; simpa using hown.1) (hown.cells (g := g) rfl) s (by omega) (by omega) (by rw [i4]; exact growslice_fits (by omega) (by omega))
   rw [hr] at h1
   cases h1
   exact .inr rfl
theorem strCells_byte (s : List UInt8) : Lib.strCells (strB s) = s.map byteV := by
 unfold Lib.strCells strB byteV
 simp
section
variable {T : TypeId} {w W W1 : World} {q : Nat} {l : List UInt8} {o : Value}
theorem WS.stepS (h : WS T w W q l o) (s : List UInt8) (hn : l.length + s.length ≤ 70368744177664) (ty : TypeId) :
 ∃ p' c' W2, (Builtin.append_ #[26, 9] ty #[o, .string (strB s)]).run Tryz.prog W = .ok (.slice p' (l ++ s).length c') W2 ∧ W2.heap[q]? = some (.cells #[o] T (0, 0)) ∧
  WS T w (W2.setCell ⟨q, 0, none⟩ (.slice p' (l ++ s).length c')) q (l ++ s) (.slice p' (l ++ s).length c') ∧ WTo q o (.slice p' (l ++ s).length c') W (W2.setCell ⟨q, 0, none⟩ (.slice p' (l ++ s).length c')) ∧ W.heap.size ≤ W2.heap.size := by
 have hsz := h.b.size
 obtain ⟨v', W2, a1, a2, a3, a4, a5⟩ := append_text h.own.1 (strB s) hn ty
 have hOwn : OwnsP W2 (fun b => w.heap.size ≤ b ∧ b ≠ q) 5 1 v' (l ++ s).length ((l ++ s).map byteV) := by
  refine ⟨by rw [List.length_append, List.map_append, ← strCells_byte]; exact a2, fun g hg => ?_⟩
  rcases a4 with e | e
  ·exact h.own.2 g (e.symm.trans hg)
  ·rw [e] at hg; cases hg
   exact ⟨hsz, fun e => by have := h.lt; omega⟩
 obtain ⟨p', c', rfl⟩ := Kbx hOwn
 have hq2 : W2.heap[q]? = some (.cells #[o] T (0, 0)) := (a3.block q h.lt fun e => (h.own.2 q e).2 rfl).trans h.box
 have hB2 : Below w.heap.size w W2 := a3.below h.b (fun b hb e => by have := (h.own.2 b e).1; omega) hsz
 have hset : ∀ b, b ≠ q → (W2.setCell ⟨q, 0, none⟩ (.slice p' (l ++ s).length c')).heap[b]? = W2.heap[b]? := fun b hb => Below.heap_setCell W2 ⟨q, 0, none⟩ _ b hb
 refine ⟨p', c', W2, a1, hq2, ⟨Kbf hB2 h.base _, h.base, ?_, hOwn.keep fun b hb _ => hset b hb.2⟩, ⟨?_, fun b hb1 hq ho => ?_, ?_⟩, a5⟩
 ·have := heap_setCell_same W2 q 0 #[o] T (.slice p' (l ++ s).length c') hq2
  exact this
 ·have : (W2.setCell ⟨q, 0, none⟩ (.slice p' (l ++ s).length c')).heap.size = W2.heap.size := by simp [World.setCell]
  omega
 ·rw [hset b hq, a3.block b hb1 ho]
 ·rcases a4 with e | e
  ·exact .inl e
  ·refine .inr fun b hb1 => ?_
   rw [e] at hb1; cases hb1; exact Nat.le_refl _
end
theorem fieldW (q : Nat) (W' : World) : (Instr.fieldAt 83 (.pointer (some ⟨q, 0, none⟩)) 0).run Tryz.prog W' = .ok (.pointer (some ⟨q, 0, none⟩)) W' := by simp [go_sem]
theorem Ka0 {n : Nat} (hn : n < 18446744073709551616) {w W : World} {q : Nat} {l : List UInt8} {o : Value} (h : WS 83 w W q l o) (hl : l.length ≤ 2000000000000) :
 Calls Tryz.prog 42 #[.pointer (some ⟨q, 0, none⟩), .int .u64 (n : Int)] W (Tells w W q l o (numB n)) := by
 have hlen : (numB n).length ≤ 10 := Kbj hn
 obtain ⟨p, c, rfl⟩ := h.slice
 have H := yh h
 have hS0 : W.drew.heap[q]? = some (.cells #[.slice p l.length c] 83 (0, 0)) := h.box
 have hlt : q < W.drew.heap.size := h.lt
 clear h
 go_enter Tryz.func42, Tryz.ntmps42
 go_wp2
 refine Kan (fun W' => W'.heap[q]? = some (.cells #[.slice p l.length c] 83 (0, 0))) (by kernel_rfl) hS0 (fun hS => ?_)
 refine tk 0 4 (v := .pointer (some ⟨q, 0, none⟩)) rfl rfl (fun W hW => Kai rfl rfl) ?_
 simp only [Act.put, sA, sZ, sS]
 refine tk 1 5 (v := .pointer (some ⟨q, 0, none⟩)) rfl rfl (fun W hW => Kai rfl rfl) ?_
 simp only [Act.put, sA, sZ, sS]
 refine tk 2 6 (v := .pointer (some ⟨q, 0, none⟩)) rfl rfl (fun W hW => rfl) ?_
 simp only [Act.put, sA, sZ, sS]
 refine tk 3 7 (v := .pointer (some ⟨q, 0, none⟩)) rfl rfl (fun W hW => Kae rfl rfl (fieldW q W)) ?_
 simp only [Act.put, sA, sZ, sS]
 refine tk 4 8 (v := .slice p l.length c) rfl rfl (fun W hW => Kag rfl rfl (Kah (w := W) Tryz.underlying26 rfl (Kab (o := 0) hW rfl))) ?_
 simp only [Act.put, sA, sZ, sS]
 refine tk 5 9 (v := .int .u64 (n : Int)) rfl rfl (fun W hW => Kai rfl rfl) ?_
 simp only [Act.put, sA, sZ, sS]
 refine Kb0 6 10 rfl rfl (by kernel_rfl) rfl (Kbh [.int .u64 (n : Int)] rfl rfl Tryz.func99 (by kernel_rfl) (by kernel_rfl)) ?_
 refine (cnumber_any hn _).mono ?_
 rintro e W1 ⟨ob, rfl, hB⟩
 obtain ⟨g, cb, rfl, hsrc⟩ := hB.ad (numB_pos n)
 have hb1 : Below W.heap.size W W1 := Kaa (Below.refl _ _).drew hB.b
 have hS1 : W1.heap[q]? = some (.cells #[.slice p l.length c] 83 (0, 0)) := Kak hB.b hlt hS0
 obtain ⟨p', c', W2, happ, hq2, hWS, hWT, hsz⟩ := H.out.step hb1 hsrc (c := cb) (by omega) 26
 have hst := put_u8s (p := p') (n := (l ++ numB n).length) (c := c') (Kab (o := 0) hq2 rfl) (Kav (o := 0) hq2)
 refine ⟨_, rfl, .inr hS1, ?_⟩
 simp only [Act.put, sA, sZ, sS]
 refine onlyRun 7 11 (v := .slice p' (l ++ (numB n)).length c') rfl rfl (by kernel_rfl) rfl (Ked rfl rfl rfl happ) (.inr hq2) ?_
 simp only [Act.put, sA, sZ, sS]
 refine tk 8 12 (v := .pointer (some ⟨q, 0, none⟩)) rfl rfl (fun W hW => rfl) ?_
 simp only [Act.put, sA, sZ, sS]
 refine tk 9 13 (v := .pointer (some ⟨q, 0, none⟩)) rfl rfl (fun W hW => Kae rfl rfl (fieldW q W)) ?_
 simp only [Act.put, sA, sZ, sS]
 refine onlySkip 10 rfl rfl (by kernel_rfl) rfl (Kdd rfl rfl rfl hst) (.inl (by kernel_rfl)) ?_
 refine done (by kernel_rfl) ?_ _
 have HF := yh (And.intro hWS hWT)
 clear hS hS0 hS1 happ hq2 hWS hWT hst hsrc hb1 hB H
 go_wp2
 go_end0
 exact ⟨rfl, _, HF.out⟩
theorem Kcy {n : Int} (h : i64T n) : IntKind.u64.wrap n = (toU n : Int) := by
 unfold i64T at h
 unfold toU
 rw [IntKind.wrap_u64]
 split <;> omega
theorem wtext_any {s : List UInt8} {w W : World} {q : Nat} {l : List UInt8} {o : Value} (h : WS 83 w W q l o) (hl : l.length + s.length ≤ 1000000000000) :
 Calls Tryz.prog 96 #[.pointer (some ⟨q, 0, none⟩), .string (strB s)] W (Tells w W q l o (textC s)) := by
 have z1 : (s.length : Int) ≤ 1000000000000 := by omega
 have hsz : (strB s).size = s.length := rfl
 have hnum := Ka0 (n := s.length) (by omega) h (by omega)
 have h10 := Kbj (n := s.length) (by unfold u64T; omega)
 have HN := yh hnum
 clear hnum
 go_enter Tryz.func96, Tryz.ntmps96
 go_wp2_with (first
  | (go_at_call 42; refine HN.out.mono ?_; rintro e W1 ⟨rfl, o1, h1, t1⟩
     (
      obtain ⟨p1, c1, rfl⟩ := h1.slice
      obtain ⟨p2, c2, W2, ha, hq2, h2, t2, _⟩ := h1.stepS s (by rw [List.length_append]; omega) 26
      generalize (l ++ numB s.length ++ s).length = N2 at *
      generalize (l ++ numB s.length).length = N1 at *
      have hst := put_u8s (p := p2) (n := N2) (c := c2) (Kab (o := 0) hq2 rfl) (Kav (o := 0) hq2)
      have HC := Kab (o := 0) h1.box rfl
      have HA := yh ha
      have HS := yh hst
      have HF := yh (And.intro h2 (t1.trans t2))
      clear h1 t1 ha hq2 h2 t2 hst))
  | (refine Kc9 rfl rfl rfl rfl HA.out ?_)
  | (refine Kaq rfl _ _ _ _ rfl rfl rfl HS.out ?_))
 go_end0
 refine ⟨rfl, _, ?_, HF.out.2⟩
 unfold textC
 rw [← List.append_assoc]
 exact HF.out.1
structure GT (P : Program) (t T : TypeId) (K : Nat) : Prop where
 app : ∀ {w : World} {vl : Value} {n : Nat} {ys : List Value}, w.ownsRow 0 t K vl n ys → ∀ {g : Nat} {x : Array Value}, x.size = K → (∀ u ∈ x.toList, u.oneCell' = true) → w.heap[g]? = some (.cells x t (0, 0)) → n ≤ 1000000 → ∀ ty : TypeId,
  ∃ v' w', (Builtin.append_ #[T, T] ty #[vl, .slice (some ⟨g, 0, none⟩) 1 1]).run P w = .ok v' w' ∧ w'.ownsRow 0 t K v' (n + 1) (ys ++ x.toList) ∧ Touch (fun b => vl.ownBlock = some b) w w' ∧
   (v'.ownBlock = vl.ownBlock ∨ v'.ownBlock = some w.heap.size) ∧ w.heap.size ≤ w'.heap.size
theorem GT.of {P : Program} {t T : TypeId} {K bytes : Nat} {z : Value} (hT : P.underlying T = some (.slice t)) (h : ∃ i, P.info? t = some i ∧ i.zero = some z ∧ i.size = K ∧ i.bytes = bytes) (hz : z.cells.size = K) (hb : bytes ≤ 100000000) : GT P t T K := by
 refine ⟨?_⟩
 intro w vl n ys hown g x hK h1 hc hn ty
 obtain ⟨i, i1, i2, i3, i4⟩ := h
 exact Kcv (P := P) (w := w) T ty t i z K bytes hT i1 i2 i3 i4 hz vl n ys hown ⟨g, 0, none⟩ 1 1 x.toList (by simp [hK]) (fun j u hu => by
  rw [Ka9, Nat.zero_add]; exact Kab hc (by simpa using hu)) h1 (by unfold maxLen; omega) (by
   have : (n + 1) * bytes ≤ 1000001 * 100000000 := Nat.mul_le_mul (by omega) hb
   omega)
structure EL {α : Type} (E : World → (Nat → Prop) → α → Array Value → Prop) (K : Nat) : Prop where
 keep : ∀ {w w' : World} {P : Nat → Prop} {x : α} {a : Array Value}, (∀ b, P b → b < w.heap.size → w'.heap[b]? = w.heap[b]?) → E w P x a → E w' P x a
 imp : ∀ {w : World} {P P' : Nat → Prop} {x : α} {a : Array Value}, (∀ b, b < w.heap.size → P b → P' b) → E w P x a → E w P' x a
 size : ∀ {w : World} {P : Nat → Prop} {x : α} {a : Array Value}, E w P x a → a.size = K
 ones : ∀ {w : World} {P : Nat → Prop} {x : α} {a : Array Value}, E w P x a → ∀ u ∈ a.toList, u.oneCell' = true
theorem Kdj : EL VOwn 6 := ⟨fun h => VOwn.keep h, fun h => VOwn.imp h, VOwn.size6, VOwn.ones⟩
section
variable {α : Type} {E : World → (Nat → Prop) → α → Array Value → Prop} {K : Nat} {Pg : Program} {t T : TypeId} {w w' W W1 : World} {P P' : Nat → Prop} {l m : List α} {xs ys : List (Array Value)}
def GOwns (E : World → (Nat → Prop) → α → Array Value → Prop) (w : World) (P : Nat → Prop) (l : List α) (xs : List (Array Value)) : Prop := xs.length = l.length ∧ ∀ (j : Nat) (v : α), l[j]? = some v → ∃ x, xs[j]? = some x ∧ E w P v x
theorem GOwns.nil : GOwns E w P [] [] := ⟨rfl, fun j v h => by simp at h⟩
theorem GOwns.snoc {v : α} {x : Array Value} (h : GOwns E w P l xs) (hx : E w P v x) : GOwns E w P (l ++ [v]) (xs ++ [x]) := by
 refine ⟨by simp [h.1], fun j u hu => ?_⟩
 by_cases hj : j < l.length
 ·rw [List.getElem?_append_left hj] at hu
  obtain ⟨y, h1, h2⟩ := h.2 j u hu
  exact ⟨y, by rw [List.getElem?_append_left (by rw [h.1]; exact hj)]; exact h1, h2⟩
 ·rw [List.getElem?_append_right (by omega)] at hu
  have hj2 : j - l.length = 0 := by
   by_cases e : j - l.length = 0
   ·exact e
   ·rw [List.getElem?_eq_none (by simp; omega)] at hu; cases hu
  rw [hj2] at hu
  cases hu
  exact ⟨x, by rw [List.getElem?_append_right (by rw [h.1]; omega), h.1, hj2]; rfl, hx⟩
theorem GOwns.mem (h : GOwns E w P l xs) {x : Array Value} (hx : x ∈ xs) : ∃ v ∈ l, E w P v x := by
 obtain ⟨j, hj, rfl⟩ := List.getElem_of_mem hx
 have hj2 : j < l.length := by rw [← h.1]; exact hj
 obtain ⟨y, h1, h2⟩ := h.2 j l[j] (List.getElem?_eq_getElem hj2)
 rw [List.getElem?_eq_getElem hj] at h1
 cases h1
 exact ⟨_, List.getElem_mem hj2, h2⟩
theorem GOwns.keep (hE : EL E K) (hk : ∀ b, P b → b < w.heap.size → w'.heap[b]? = w.heap[b]?) (h : GOwns E w P l xs) : GOwns E w' P l xs :=
 ⟨h.1, fun j v hv => by obtain ⟨x, h1, h2⟩ := h.2 j v hv; exact ⟨x, h1, hE.keep hk h2⟩⟩
theorem GOwns.imp (hE : EL E K) (hp : ∀ b, b < w.heap.size → P b → P' b) (h : GOwns E w P l xs) : GOwns E w P' l xs :=
 ⟨h.1, fun j v hv => by obtain ⟨x, h1, h2⟩ := h.2 j v hv; exact ⟨x, h1, hE.imp hp h2⟩⟩
theorem GOwns.below (hE : EL E K) (h : GOwns E w P l xs) (g : Below w.heap.size w w') : GOwns E w' P l xs := h.keep hE fun b _ hb => g.block b hb
def GOwn (E : World → (Nat → Prop) → α → Array Value → Prop) (t : TypeId) (K : Nat) (w : World) (P : Nat → Prop) (vl : Value) (l : List α) : Prop := ∃ xs, OwnsP w P t K vl l.length (xs.flatMap Array.toList) ∧ GOwns E w P l xs
theorem GOwn.keep {vl : Value} (hE : EL E K) (hk : ∀ b, P b → b < w.heap.size → w'.heap[b]? = w.heap[b]?) (h : GOwn E t K w P vl l) : GOwn E t K w' P vl l := by
 obtain ⟨xs, h1, h2⟩ := h; exact ⟨xs, h1.keep hk, h2.keep hE hk⟩
theorem GOwn.imp {vl : Value} (hE : EL E K) (hp : ∀ b, b < w.heap.size → P b → P' b) (h : GOwn E t K w P vl l) : GOwn E t K w P' vl l := by
 obtain ⟨xs, h1, h2⟩ := h; exact ⟨xs, h1.imp hp, h2.imp hE hp⟩
theorem GOwn.below {vl : Value} (hE : EL E K) (h : GOwn E t K w P vl l) (g : Below w.heap.size w w') : GOwn E t K w' P vl l := h.keep hE fun b _ hb => g.block b hb
theorem GOwn.nil : GOwn E t K w P (.slice none 0 0) ([] : List α) := ⟨[], ⟨⟨by simp, .inl ⟨rfl, rfl⟩⟩, fun g hg => by simp [Value.ownBlock] at hg⟩, .nil⟩
theorem GOwn.slice {vl : Value} (h : GOwn E t K w P vl l) : ∃ p c, vl = .slice p l.length c := by obtain ⟨xs, h1, _⟩ := h; exact Kbx h1
theorem own_one {t : TypeId} {vl : Value} {n : Nat} {zs : List Value} (h : OwnsP w P t K vl n zs) : vl.oneCell' = true := by
 rcases h.1.2 with ⟨rfl, _⟩ | ⟨g, cap, cur, rfl, _⟩ <;> rfl
def GInv (E : World → (Nat → Prop) → α → Array Value → Prop) (t : TypeId) (K : Nat) (w W : World) (ov : Value) (m : List α) : Prop := ∃ xs, OwnsP W (fun b => w.heap.size ≤ b) t K ov m.length (xs.flatMap Array.toList) ∧ GOwns E W (fun b => w.heap.size ≤ b ∧ ov.ownBlock ≠ some b) m xs ∧ Below w.heap.size w W
theorem GInv.b {ov : Value} (h : GInv E t K w W ov l) : Below w.heap.size w W := by obtain ⟨_, _, _, h⟩ := h; exact h
theorem GInv.below (hE : EL E K) {W' : World} {ov : Value} (h : GInv E t K w W ov l) (g : Below W.heap.size W W') : GInv E t K w W' ov l := by
 obtain ⟨xs, h1, h2, h3⟩ := h
 exact ⟨xs, h1.keep fun b _ hb => g.block b hb, h2.below hE g, Kaa h3 g⟩
theorem GInv.kept (hE : EL E K) {W' : World} {ov : Value} (h : GInv E t K w W ov l) (g : ∀ b, w.heap.size ≤ b → b < W.heap.size → W'.heap[b]? = W.heap[b]?) (hb : Below w.heap.size w W') : GInv E t K w W' ov l := by
 obtain ⟨xs, h1, h2, h3⟩ := h
 exact ⟨xs, h1.keep fun b hb h => g b hb h, h2.keep hE fun b hb h => g b hb.1 h, hb⟩
theorem GInv.start (h : Below w.heap.size w W) : GInv E t K w W (.slice none 0 0) ([] : List α) := ⟨[], ⟨⟨by simp, .inl ⟨rfl, rfl⟩⟩, fun g hg => by simp [Value.ownBlock] at hg⟩, .nil, h⟩
theorem GInv.own (hE : EL E K) {ov : Value} (h : GInv E t K w W ov l) : GOwn E t K W (fun b => w.heap.size ≤ b) ov l := by
 obtain ⟨xs, h1, h2, h3⟩ := h
 exact ⟨xs, h1, h2.imp hE fun b _ hb => hb.1⟩
theorem GInv.slice {ov : Value} (h : GInv E t K w W ov l) : ∃ p c, ov = .slice p l.length c := by obtain ⟨xs, h1, _⟩ := h; exact Kbx h1
theorem GInv.step (hE : EL E K) (hG : GT Pg t T K) {ov : Value} {v : α} {x : Array Value} {base : Nat} (h : GInv E t K w W ov m) (hbase : W.heap.size ≤ base) (hb : ∀ b, w.heap.size ≤ b → b < W.heap.size → W1.heap[b]? = W.heap[b]?) (hbw : Below w.heap.size w W1) (hsz : W.heap.size ≤ W1.heap.size) (hx : E W1 (fun b => base ≤ b) v x) (hm : m.length ≤ 1000000) (ty : TypeId) :
 ∃ v' W2, (Builtin.append_ #[T, T] ty #[ov, .slice (some ⟨W1.heap.size, 0, none⟩) 1 1]).run Pg (W1.alloc (.cells x t)) = .ok v' W2 ∧ GInv E t K w W2 v' (m ++ [v]) ∧ Touch (fun b => ov.ownBlock = some b) (W1.alloc (.cells x t)) W2 := by
 have hnew : Below W1.heap.size W1 (W1.alloc (.cells x t)) := Kac _
 have hlt : ∀ g, ov.ownBlock = some g → g < W.heap.size := by
  obtain ⟨xs, h1, _⟩ := h
  exact fun g hg => (h1.1.lt g hg).2
 obtain ⟨xs, h1, h2, h3⟩ := (h.kept hE hb hbw).below hE hnew
 have hx' : E (W1.alloc (.cells x t)) (fun b => base ≤ b) v x := hE.keep (fun b _ hb => hnew.block b hb) hx
 have hwW : w.heap.size ≤ W.heap.size := by obtain ⟨_, _, _, h⟩ := h; exact h.size
 obtain ⟨v', W2, a1, a2, a3, a4, a5⟩ := hG.app h1.1 (hE.size hx) (hE.ones hx) (heap_alloc_new W1 _) hm ty
 refine ⟨v', W2, a1, ⟨xs ++ [x], ⟨?_, fun g hg => ?_⟩, ?_, ?_⟩, a3⟩
 ·rw [List.flatMap_append, List.length_append]
  simpa using a2
 ·rcases a4 with e | e
  ·exact h1.2 g (e.symm.trans hg)
  ·rw [e] at hg
   cases hg
   have := h3.size
   omega
 ·have hs : GOwns E (W1.alloc (.cells x t)) (fun b => w.heap.size ≤ b ∧ ov.ownBlock ≠ some b ∧ b < (W1.alloc (.cells x t)).heap.size) (m ++ [v]) (xs ++ [x]) :=
   (h2.imp hE fun b hb hp => ⟨hp.1, hp.2, hb⟩).snoc (hE.imp (fun b hb hp => ⟨by omega, fun e => by have := hlt b e; omega, hb⟩) hx')
  refine (hs.keep hE (w' := W2) fun b hp hb => a3.block b hb hp.2.1).imp hE fun b _ hp => ⟨hp.1, ?_⟩
  rcases a4 with e | e
  ·rw [e]; exact hp.2.1
  ·rw [e]; intro e2; cases e2; have := hp.2.2; omega
 ·exact a3.below h3 (fun b hb e => by have := h1.2 b e; omega) h3.size
def GIn (E : World → (Nat → Prop) → α → Array Value → Prop) (t : TypeId) (K : Nat) (P : Nat → Prop) (W : World) (ov : Value) (m : List α) : Prop := ∃ xs, OwnsP W P t K ov m.length (xs.flatMap Array.toList) ∧ GOwns E W (fun b => P b ∧ ov.ownBlock ≠ some b) m xs
theorem GIn.start {P : Nat → Prop} : GIn E t K P W (.slice none 0 0) ([] : List α) := ⟨[], ⟨⟨by simp, .inl ⟨rfl, rfl⟩⟩, fun g hg => by simp [Value.ownBlock] at hg⟩, .nil⟩
theorem GIn.kept (hE : EL E K) {P P' : Nat → Prop} {W' : World} {ov : Value} (h : GIn E t K P W ov l) (g : ∀ b, P b → b < W.heap.size → W'.heap[b]? = W.heap[b]?) (hP : ∀ b, b < W.heap.size → P b → P' b) : GIn E t K P' W' ov l := by
 obtain ⟨xs, h1, h2⟩ := h
 exact ⟨xs, (h1.imp (P' := fun b => P b ∧ P' b) (fun b hb hp => ⟨hp, hP b hb hp⟩) |>.keep (fun b hb h => g b hb.1 h)).imp (fun b _ hb => hb.2),
  ((h2.imp hE (P' := fun b => P b ∧ P' b ∧ ov.ownBlock ≠ some b) (fun b hb hp => ⟨hp.1, hP b hb hp.1, hp.2⟩)).keep hE (fun b hb h => g b hb.1 h)).imp hE (fun b _ hb => hb.2)⟩
theorem GIn.own (hE : EL E K) {P : Nat → Prop} {ov : Value} (h : GIn E t K P W ov l) : GOwn E t K W P ov l := by
 obtain ⟨xs, h1, h2⟩ := h
 exact ⟨xs, h1, h2.imp hE fun b _ hb => hb.1⟩
theorem GIn.slice {P : Nat → Prop} {ov : Value} (h : GIn E t K P W ov l) : ∃ p c, ov = .slice p l.length c := by obtain ⟨xs, h1, _⟩ := h; exact Kbx h1
theorem GIn.lt {P : Nat → Prop} {ov : Value} (h : GIn E t K P W ov l) : ∀ g, ov.ownBlock = some g → g < W.heap.size ∧ P g := by
 obtain ⟨xs, h1, _⟩ := h
 exact fun g hg => ⟨(h1.1.lt g hg).2, h1.2 g hg⟩
theorem GIn.step (hE : EL E K) (hG : GT Pg t T K) {P P' : Nat → Prop} {ov : Value} {v : α} {x : Array Value} (h : GIn E t K P W ov m) (hb : ∀ b, P b → b < W.heap.size → W1.heap[b]? = W.heap[b]?) (hsz : W.heap.size ≤ W1.heap.size) (hP : ∀ b, b < W.heap.size → P b → P' b) (hnew : ∀ b, W1.heap.size ≤ b → P' b)
 (hx : E W1 (fun b => W.heap.size ≤ b ∧ P' b) v x) (hm : m.length ≤ 1000000) (ty : TypeId) :
 ∃ v' W2, (Builtin.append_ #[T, T] ty #[ov, .slice (some ⟨W1.heap.size, 0, none⟩) 1 1]).run Pg (W1.alloc (.cells x t)) = .ok v' W2 ∧ GIn E t K P' W2 v' (m ++ [v]) ∧ Touch (fun b => ov.ownBlock = some b) (W1.alloc (.cells x t)) W2 := by
 have ha : Below W1.heap.size W1 (W1.alloc (.cells x t)) := Kac _
 have hlt : ∀ g, ov.ownBlock = some g → g < W.heap.size := fun g hg => (h.lt g hg).1
 obtain ⟨xs, h1, h2⟩ := h.kept (P' := P') hE (W' := W1.alloc (.cells x t)) (fun b hp hlt => (ha.block b (by omega)).trans (hb b hp hlt)) hP
 have hx' : E (W1.alloc (.cells x t)) (fun b => W.heap.size ≤ b ∧ P' b) v x := hE.keep (fun b _ hb => ha.block b hb) hx
 have hs1 : (W1.alloc (.cells x t)).heap.size = W1.heap.size + 1 := by simp
 obtain ⟨v', W2, a1, a2, a3, a4, a5⟩ := hG.app h1.1 (hE.size hx) (hE.ones hx) (heap_alloc_new W1 _) hm ty
 refine ⟨v', W2, a1, ⟨xs ++ [x], ⟨?_, fun g hg => ?_⟩, ?_⟩, a3⟩
 ·rw [List.flatMap_append, List.length_append]
  simpa using a2
 ·rcases a4 with e | e
  ·exact h1.2 g (e.symm.trans hg)
  ·rw [e] at hg
   cases hg
   exact hnew _ (by omega)
 ·have hs : GOwns E (W1.alloc (.cells x t)) (fun b => P' b ∧ ov.ownBlock ≠ some b ∧ b < (W1.alloc (.cells x t)).heap.size) (m ++ [v]) (xs ++ [x]) :=
   (h2.imp hE fun b hb hp => ⟨hp.1, hp.2, hb⟩).snoc (hE.imp (fun b hb hp => ⟨hp.2, fun e => by have := hlt b e; omega, hb⟩) hx')
  refine (hs.keep hE (w' := W2) fun b hp hb => a3.block b hb hp.2.1).imp hE fun b _ hp => ⟨hp.1, ?_⟩
  rcases a4 with e | e
  ·rw [e]; exact hp.2.1
  ·rw [e]; intro e2; cases e2; have := hp.2.2; omega
def GRd (E : World → α → Array Value → Prop) (K : Nat) (w : World) (p : Option Addr) (c : Nat) (l : List α) : Prop :=
 (l.length ≤ c ∧ (l.length ≤ 140737488355328 ∧ c ≤ 9223372036854775807) ∧ (p = none → c = 0)) ∧ ∀ ad, p = some ad → (l ≠ [] → ad.spot = none) ∧ ∀ (j : Nat) (v : α), l[j]? = some v → ∃ cs : Array Value, cs.size = K ∧ (∀ (i : Nat) (u : Value), cs[i]? = some u → w.cell? ⟨ad.block, ad.off + j * K + i, none⟩ = some u) ∧ E w v cs
variable {F : World → α → Array Value → Prop}
theorem GRd.get {p : Option Addr} {c : Nat} (h : GRd F K w p c l) {i : Nat} (hi : i < l.length) : ∃ b o cs, p = some ⟨b, o, none⟩ ∧ cs.size = K ∧ (∀ (k : Nat) (u : Value), cs[k]? = some u → w.cell? ⟨b, o + i * K + k, none⟩ = some u) ∧ F w l[i] cs := by
 obtain ⟨⟨h1, h2, h3⟩, h4⟩ := h
 cases p with
 | none => have := h3 rfl; omega
 | some ad =>
   obtain ⟨hs, hc⟩ := h4 ad rfl
   have hs := hs (fun e => by rw [e] at hi; simp at hi)
   obtain ⟨b, o, sp⟩ := ad
   simp only at hs; subst hs
   obtain ⟨cs, h5, h6, h7⟩ := hc i _ (List.getElem?_eq_getElem hi)
   exact ⟨b, o, cs, rfl, h5, h6, h7⟩
theorem GRd.below (hF : ∀ {v : α} {cs : Array Value}, F w v cs → F w' v cs) {p : Option Addr} {c : Nat} (h : GRd F K w p c l) (g : Below w.heap.size w w') : GRd F K w' p c l := by
 obtain ⟨h1, h2⟩ := h
 refine ⟨h1, fun ad had => ⟨(h2 ad had).1, fun j v hv => ?_⟩⟩
 obtain ⟨cs, h3, h4, h5⟩ := (h2 ad had).2 j v hv
 exact ⟨cs, h3, fun i u hu => Kam g (ltOf (h4 i u hu)) (h4 i u hu), hF h5⟩
theorem flat_K {xs : List (Array Value)} (h6 : ∀ x ∈ xs, x.size = K) : ∀ (j : Nat) (x : Array Value), xs[j]? = some x → ∀ i, i < K → (xs.flatMap Array.toList)[j * K + i]? = x[i]? := by
 induction xs with
 | nil => intro j x h; simp at h
 | cons a r ih =>
   intro j x h i hi
   have ha := h6 a (by simp)
   rw [List.flatMap_cons]
   cases j with
   | zero =>
     simp only [List.getElem?_cons_zero, Option.some.injEq] at h
     subst h
     rw [Nat.zero_mul, Nat.zero_add, List.getElem?_append_left (by simp [ha, hi])]
     simp
   | succ j =>
     have e0 : (j + 1) * K = j * K + K := by rw [Nat.succ_mul]
     have hj : a.toList.length ≤ (j + 1) * K + i := by simp [ha]; omega
     rw [List.getElem?_append_right hj]
     have e : (j + 1) * K + i - a.toList.length = j * K + i := by simp [ha]; omega
     rw [e]
     exact ih (fun x hx => h6 x (by simp [hx])) j x (by simpa using h) i hi
theorem GOwn.rd (hE : EL E K) {vl : Value} (h : GOwn E t K w P vl l) (hn : l.length ≤ 140737488355328) (hr : ∀ v ∈ l, ∀ x, E w P v x → F w v x) : ∃ p c, vl = .slice p l.length c ∧ GRd F K w p c l := by
 obtain ⟨xs, h1, h2⟩ := h
 have hc := fun g => h1.1.cells (g := g)
 rcases h1.1.2 with ⟨rfl, h0⟩ | ⟨g, cap, cur, rfl, _, hg, hnc, hcm, _⟩
 ·have : l = [] := List.eq_nil_of_length_eq_zero h0
  subst this
  exact ⟨none, 0, rfl, ⟨Nat.le_refl _, by simp, fun _ => rfl⟩, fun ad h => by cases h⟩
 ·refine ⟨some ⟨g, 0, none⟩, cap, rfl, ⟨hnc, ⟨hn, by unfold maxLen at hcm; omega⟩, fun h => (by cases h)⟩, fun ad had => ?_⟩
  cases had
  refine ⟨fun _ => rfl, fun j v hv => ?_⟩
  obtain ⟨x, hx, hown⟩ := h2.2 j v hv
  refine ⟨x, hE.size hown, fun i u hu => ?_, hr v (List.mem_of_getElem? hv) x hown⟩
  have hi : i < K := by
   have := (Array.getElem?_eq_some_iff.1 hu).1
   rw [hE.size hown] at this; exact this
  have := hc g rfl (j * K + i) u (by rw [flat_K (fun y hy => by obtain ⟨z, _, hz⟩ := h2.mem hy; exact hE.size hz) j x hx i hi]; exact hu)
  rw [Ka9] at this
  rw [Nat.zero_add] at this ⊢
  exact this
end
theorem Kcu {a b : Array Value} (h : ∀ u ∈ a.toList, u.oneCell' = true) (g : ∀ u ∈ b.toList, u.oneCell' = true) : ∀ u ∈ (a ++ b).toList, u.oneCell' = true := fun u hu => by
 rw [Array.toList_append, List.mem_append] at hu
 rcases hu with hu | hu
 ·exact h u hu
 ·exact g u hu
def POwn (w : World) (P : Nat → Prop) (p : PropD) (x : Array Value) : Prop := ∃ y, x = #[.string (strB p.key)] ++ y ∧ VOwn w P p.val y
theorem Kcr : EL POwn 7 := by
 refine ⟨?_, ?_, ?_, ?_⟩
 ·rintro w w' P p a hk ⟨y, rfl, h⟩; exact ⟨y, rfl, h.keep hk⟩
 ·rintro w P P' p a hp ⟨y, rfl, h⟩; exact ⟨y, rfl, h.imp hp⟩
 ·rintro w P p a ⟨y, rfl, h⟩; rw [Array.size_append, h.size6]; rfl
 ·rintro w P p a ⟨y, rfl, h⟩; exact Kcu (by simp [Value.oneCell']) h.ones
def NOwn (w : World) (P : Nat → Prop) (n : NodeD) (x : Array Value) : Prop := ∃ vl vp, x = #[.int .i64 n.id, vl, vp] ∧ OwnsP w P 9 1 vl n.labels.length (n.labels.map strV) ∧ GOwn POwn 136 7 w P vp n.props
theorem Kbb : EL NOwn 3 := by
 refine ⟨?_, ?_, ?_, ?_⟩
 ·rintro w w' P p a hk ⟨vl, vp, rfl, h1, h2⟩; exact ⟨vl, vp, rfl, h1.keep hk, h2.keep Kcr hk⟩
 ·rintro w P P' p a hp ⟨vl, vp, rfl, h1, h2⟩; exact ⟨vl, vp, rfl, h1.imp hp, h2.imp Kcr hp⟩
 ·rintro w P p a ⟨vl, vp, rfl, h1, h2⟩; rfl
 ·rintro w P p a ⟨vl, vp, rfl, h1, xs, h2, _⟩ u hu
  have e1 := own_one h1
  have e2 := own_one h2
  simp only [List.mem_cons, List.not_mem_nil, or_false] at hu
  rcases hu with rfl | rfl | rfl <;> first | rfl | assumption
def ROwn (w : World) (P : Nat → Prop) (r : RelD) (x : Array Value) : Prop := ∃ vp, x = #[.int .i64 r.id, .int .i64 r.src, .int .i64 r.dst, .string (strB r.type), vp] ∧ GOwn POwn 136 7 w P vp r.props
theorem Kcf : EL ROwn 5 := by
 refine ⟨?_, ?_, ?_, ?_⟩
 ·rintro w w' P p a hk ⟨vp, rfl, h2⟩; exact ⟨vp, rfl, h2.keep Kcr hk⟩
 ·rintro w P P' p a hp ⟨vp, rfl, h2⟩; exact ⟨vp, rfl, h2.imp Kcr hp⟩
 ·rintro w P p a ⟨vp, rfl, h2⟩; rfl
 ·rintro w P p a ⟨vp, rfl, xs, h2, _⟩ u hu
  have e2 := own_one h2
  simp only [List.mem_cons, List.not_mem_nil, or_false] at hu
  rcases hu with rfl | rfl | rfl | rfl | rfl <;> first | rfl | assumption
def COwn (w : World) (P : Nat → Prop) (c : ChangeD) (x : Array Value) : Prop := ∃ a b, x = #[.int .i64 c.kind, .int .i64 c.id, .int .i64 c.other] ++ a ++ b ∧ NOwn w P c.node a ∧ ROwn w P c.rel b
theorem el_change : EL COwn 11 := by
 refine ⟨?_, ?_, ?_, ?_⟩
 ·rintro w w' P p a hk ⟨y, z, rfl, h1, h2⟩; exact ⟨y, z, rfl, Kbb.keep hk h1, Kcf.keep hk h2⟩
 ·rintro w P P' p a hp ⟨y, z, rfl, h1, h2⟩; exact ⟨y, z, rfl, Kbb.imp hp h1, Kcf.imp hp h2⟩
 ·rintro w P p a ⟨y, z, rfl, h1, h2⟩; rw [Array.size_append, Array.size_append, Kbb.size h1, Kcf.size h2]; rfl
 ·rintro w P p a ⟨y, z, rfl, h1, h2⟩; exact Kcu (Kcu (by simp [Value.oneCell']) (Kbb.ones h1)) (Kcf.ones h2)
def GrOwn (w : World) (P : Nat → Prop) (g : GraphD) (x : Array Value) : Prop := ∃ vn vr, x = #[vn, vr, .int .i64 g.nextNode, .int .i64 g.nextRel] ∧ GOwn NOwn 70 3 w P vn g.nodes ∧ GOwn ROwn 72 5 w P vr g.rels
def PRd (w : World) (p : PropD) (x : Array Value) : Prop := ∃ y, x = #[.string (strB p.key)] ++ y ∧ p.key.length ≤ 140737488355328 ∧ VRd w p.val y
def NRd (w : World) (n : NodeD) (x : Array Value) : Prop := ∃ pl cl pp cp, x = #[.int .i64 n.id, .slice pl n.labels.length cl, .slice pp n.props.length cp] ∧ RdS w pl cl n.labels ∧ GRd PRd 7 w pp cp n.props
def RRd (w : World) (r : RelD) (x : Array Value) : Prop := ∃ pp cp, x = #[.int .i64 r.id, .int .i64 r.src, .int .i64 r.dst, .string (strB r.type), .slice pp r.props.length cp] ∧ r.type.length ≤ 140737488355328 ∧ GRd PRd 7 w pp cp r.props
def CRd (w : World) (c : ChangeD) (x : Array Value) : Prop := ∃ a b, x = #[.int .i64 c.kind, .int .i64 c.id, .int .i64 c.other] ++ a ++ b ∧ NRd w c.node a ∧ RRd w c.rel b
def GrRd (w : World) (g : GraphD) (x : Array Value) : Prop := ∃ pn cn pr cr, x = #[.slice pn g.nodes.length cn, .slice pr g.rels.length cr, .int .i64 g.nextNode, .int .i64 g.nextRel] ∧ GRd NRd 3 w pn cn g.nodes ∧ GRd RRd 5 w pr cr g.rels
section
variable {w w' : World}
theorem PRd.below {p : PropD} {x : Array Value} (h : PRd w p x) (g : Below w.heap.size w w') : PRd w' p x := by
 obtain ⟨y, e, h1, h2⟩ := h; exact ⟨y, e, h1, h2.below g⟩
theorem NRd.below {p : NodeD} {x : Array Value} (h : NRd w p x) (g : Below w.heap.size w w') : NRd w' p x := by
 obtain ⟨pl, cl, pp, cp, e, h1, h2⟩ := h; exact ⟨pl, cl, pp, cp, e, h1.below g, h2.below (fun h => h.below g) g⟩
theorem RRd.below {p : RelD} {x : Array Value} (h : RRd w p x) (g : Below w.heap.size w w') : RRd w' p x := by
 obtain ⟨pp, cp, e, h1, h2⟩ := h; exact ⟨pp, cp, e, h1, h2.below (fun h => h.below g) g⟩
theorem CRd.below {p : ChangeD} {x : Array Value} (h : CRd w p x) (g : Below w.heap.size w w') : CRd w' p x := by
 obtain ⟨a, b, e, h1, h2⟩ := h; exact ⟨a, b, e, h1.below g, h2.below g⟩
theorem GrRd.below {p : GraphD} {x : Array Value} (h : GrRd w p x) (g : Below w.heap.size w w') : GrRd w' p x := by
 obtain ⟨pn, cn, pr, cr, e, h1, h2⟩ := h; exact ⟨pn, cn, pr, cr, e, h1.below (fun h => h.below g) g, h2.below (fun h => h.below g) g⟩
theorem POwn.rd {P : Nat → Prop} {p : PropD} {x : Array Value} (h : POwn w P p x) (ht : totP p ≤ 900000) : PRd w p x := by
 obtain ⟨y, e, h1⟩ := h
 unfold totP at ht
 exact ⟨y, e, by omega, h1.rd (by omega)⟩
theorem props_rd {P : Nat → Prop} {vp : Value} {l : List PropD} (h : GOwn POwn 136 7 w P vp l) (ht : totPs l ≤ 900000) : ∃ p c, vp = .slice p l.length c ∧ GRd PRd 7 w p c l := by
 have h1 : l.length ≤ totPs l := by
  clear h ht
  induction l with
  | nil => simp
  | cons a l ih => rw [totPs, List.map_cons, List.sum_cons, List.length_cons]; have : 1 ≤ totP a := by unfold totP; omega
                   unfold totPs at ih; omega
 refine h.rd Kcr (by omega) fun p hp x hx => hx.rd ?_
 have : totP p ≤ totPs l := by
  clear h ht h1 hx
  induction l with
  | nil => cases hp
  | cons a l ih =>
    rw [totPs, List.map_cons, List.sum_cons]
    unfold totPs at ih
    rcases List.mem_cons.1 hp with rfl | hp
    ·omega
    ·have := ih hp; omega
 omega
theorem NOwn.rd {P : Nat → Prop} {n : NodeD} {x : Array Value} (h : NOwn w P n x) (ht : totN n ≤ 900000) : NRd w n x := by
 obtain ⟨vl, vp, e, h1, h2⟩ := h
 unfold totN at ht
 have hl : n.labels.length ≤ totLs n.labels ∧ ∀ s ∈ n.labels, s.length ≤ totLs n.labels := by
  generalize n.labels = l
  induction l with
  | nil => simp
  | cons a l ih =>
    unfold totLs at ih ⊢
    rw [List.map_cons, List.sum_cons, List.length_cons]
    refine ⟨by omega, fun s hs => ?_⟩
    rcases List.mem_cons.1 hs with rfl | hs
    ·omega
    ·have := ih.2 s hs; omega
 obtain ⟨pl, cl, rfl, h3⟩ := owned_rdS h1 (by omega) (fun s hs => by have := hl.2 s hs; omega)
 obtain ⟨pp, cp, rfl, h4⟩ := props_rd h2 (by omega)
 exact ⟨pl, cl, pp, cp, e, h3, h4⟩
theorem ROwn.rd {P : Nat → Prop} {r : RelD} {x : Array Value} (h : ROwn w P r x) (ht : totR r ≤ 900000) : RRd w r x := by
 obtain ⟨vp, e, h2⟩ := h
 unfold totR at ht
 obtain ⟨pp, cp, rfl, h4⟩ := props_rd h2 (by omega)
 exact ⟨pp, cp, e, by omega, h4⟩
end
def isAggD (d : TypeDesc) : Bool := match d with | .struct _ | .array _ _ => true | _ => false
def StT (P : Program) (t : TypeId) (K : Nat) : Prop := ∃ d i, P.underlying t = some d ∧ isAggD d = true ∧ P.info? t = some i ∧ i.size = K
theorem StT.of {P : Program} {t : TypeId} {d : TypeDesc} {K : Nat} (hu : P.underlying t = some d) (hd : isAggD d = true) (hi : (P.info? t).map (·.size) = some K) : StT P t K := by
 obtain ⟨i, h1, h2⟩ := Option.map_eq_some_iff.1 hi
 exact ⟨d, i, hu, hd, h1, h2⟩
section
variable {P : Program} {t : TypeId} {K : Nat} {W : World} {cs : Array Value}
theorem StT.load (h : StT P t K) {g o : Nat} (hs : cs.size = K) (hc : ∀ (i : Nat) (u : Value), cs[i]? = some u → W.cell? ⟨g, o + i, none⟩ = some u) : (loadVar t ⟨g, o, none⟩).run P W = .ok (.agg cs) W := by
 obtain ⟨d, i, hu, hd, hi, hk⟩ := h
 have hl : (loadCells ⟨g, o, none⟩ cs.toList.length).run P W = .ok cs.toList.toArray W :=
  run_loadCells_list (P := P) W ⟨g, o, none⟩ cs.toList (fun j v hv => by
   rw [Ka9]
   exact hc j v (by simpa using hv))
 have hagg : (isAgg t).run P W = .ok true W := by
  cases d <;> simp_all [isAgg, isAggD, run_underlying hu]
 simp only [Array.toArray_toList, Array.length_toList, hs] at hl
 simp [loadVar, hagg, sizeOf, typeInfo, hi, hk, hl]
theorem StT.get (h : StT P t K) {g : Nat} {ty : TypeId} {fr : Nat × Nat} (hs : cs.size = K) (hg : W.heap[g]? = some (.cells cs ty fr)) : (loadVar t ⟨g, 0, none⟩).run P W = .ok (.agg cs) W :=
 h.load hs fun i u hu => by rw [Nat.zero_add, cell_of_row W g i cs ty fr hg]; exact hu
theorem setRow_fresh (z : Array Value) (ty : TypeId) : (W.alloc (.cells z ty)).setRow W.heap.size cs = W.alloc (.cells cs ty) := by
 exact World.setRow_alloc_new ..
theorem StT.put (h : StT P t K) {g : Nat} {z : Array Value} {ty : TypeId} (hs : cs.size = K) (h1 : ∀ u ∈ cs.toList, u.oneCell' = true) (hg : W.heap[g]? = some (.cells z ty (0, 0))) (hz : z.size = K) :
 (storeVar t ⟨g, 0, none⟩ (.agg cs)).run P W = .ok () (W.setRow g cs) := by
 obtain ⟨d, i, hu, hd, hi, hk⟩ := h
 exact run_storeVar_row (P := P) W g ty t z cs hg (by rw [hi, hs, ← hk]; rfl) (by rw [hz, hs]) (Array.all_eq_true_iff_forall_mem.2 fun u hu => h1 u (by simpa using hu))
theorem StT.fresh (h : StT P t K) (hs : cs.size = K) (h1 : ∀ u ∈ cs.toList, u.oneCell' = true) (z : Array Value) (hz : z.size = K) :
 (storeVar t ⟨W.heap.size, 0, none⟩ (.agg cs)).run P (W.alloc (.cells z t)) = .ok () (W.alloc (.cells cs t)) := by
 rw [h.put hs h1 (heap_alloc_new W _) hz, setRow_fresh]
end
structure EF {α : Type} (F : World → α → Array Value → Prop) (K : Nat) : Prop where
 below : ∀ {w w' : World} {x : α} {a : Array Value}, F w x a → Below w.heap.size w w' → F w' x a
 size : ∀ {w : World} {x : α} {a : Array Value}, F w x a → a.size = K
 ones : ∀ {w : World} {x : α} {a : Array Value}, F w x a → ∀ u ∈ a.toList, u.oneCell' = true
theorem ef_val : EF VRd 6 := by
 refine ⟨fun h g => h.below g, fun h => ?_, fun h u hu => ?_⟩
 ·obtain ⟨pk, ck, pl, cl, rfl, _⟩ := h.open; rfl
 ·obtain ⟨pk, ck, pl, cl, rfl, _⟩ := h.open
  simp only [List.mem_cons, List.not_mem_nil, or_false] at hu
  rcases hu with rfl | rfl | rfl | rfl | rfl | rfl <;> rfl
theorem ef_prop : EF PRd 7 := by
 refine ⟨fun h g => h.below g, fun h => ?_, fun h => ?_⟩
 ·obtain ⟨y, rfl, _, h⟩ := h; rw [Array.size_append, ef_val.size h]; rfl
 ·obtain ⟨y, rfl, _, h⟩ := h; exact Kcu (by simp [Value.oneCell']) (ef_val.ones h)
theorem ef_node : EF NRd 3 := by
 refine ⟨fun h g => h.below g, fun h => ?_, fun h u hu => ?_⟩
 ·obtain ⟨pl, cl, pp, cp, rfl, _⟩ := h; rfl
 ·obtain ⟨pl, cl, pp, cp, rfl, _⟩ := h
  simp only [List.mem_cons, List.not_mem_nil, or_false] at hu
  rcases hu with rfl | rfl | rfl <;> rfl
theorem ef_rel : EF RRd 5 := by
 refine ⟨fun h g => h.below g, fun h => ?_, fun h u hu => ?_⟩
 ·obtain ⟨pp, cp, rfl, _⟩ := h; rfl
 ·obtain ⟨pp, cp, rfl, _⟩ := h
  simp only [List.mem_cons, List.not_mem_nil, or_false] at hu
  rcases hu with rfl | rfl | rfl | rfl | rfl <;> rfl
theorem ef_change : EF CRd 11 := by
 refine ⟨fun h g => h.below g, fun h => ?_, fun h => ?_⟩
 ·obtain ⟨a, b, rfl, h1, h2⟩ := h; rw [Array.size_append, Array.size_append, ef_node.size h1, ef_rel.size h2]; rfl
 ·obtain ⟨a, b, rfl, h1, h2⟩ := h; exact Kcu (Kcu (by simp [Value.oneCell']) (ef_node.ones h1)) (ef_rel.ones h2)
theorem LRd.grd {w : World} {p : Option Addr} {c : Nat} {l : List V} (h : LRd w p c l) : GRd VRd 6 w p c l := by
 refine ⟨h.1, fun ad had => ⟨(h.2 ad had).1, fun j v hv => ?_⟩⟩
 obtain ⟨cs, ⟨c0, c1, c2, c3, c4, c5, e, h0, h1, h2, h3, h4, h5⟩, hv⟩ := (h.2 ad had).2 j v hv
 refine ⟨cs, by rw [e]; rfl, fun i u hu => ?_, hv⟩
 subst e
 match i, hu with
 | 0, hu => cases hu; exact h0
 | 1, hu => cases hu; exact h1
 | 2, hu => cases hu; exact h2
 | 3, hu => cases hu; exact h3
 | 4, hu => cases hu; exact h4
 | 5, hu => cases hu; exact h5
 | n + 6, hu => simp at hu
theorem Kbo : StT Tryz.prog 48 6 := .of Tryz.underlying48 (by rfl) (by kernel_rfl)
theorem Kdk : StT Tryz.prog 136 7 := .of Tryz.underlying136 (by rfl) (by kernel_rfl)
theorem Kct : StT Tryz.prog 70 3 := .of Tryz.underlying70 (by rfl) (by kernel_rfl)
theorem Kd0 : StT Tryz.prog 72 5 := .of Tryz.underlying72 (by rfl) (by kernel_rfl)
theorem Kb3 : StT Tryz.prog 74 11 := .of Tryz.underlying74 (by rfl) (by kernel_rfl)
theorem Kbt : StT Tryz.prog 25 4 := .of Tryz.underlying25 (by rfl) (by kernel_rfl)
theorem rowV_any {α : Type} {F : World → α → Array Value → Prop} (hF : EF F 6) (en : α → List UInt8) {l : List α} {w W : World} {q : Nat} {m : List UInt8} {o : Value} {p : Option Addr} {c : Nat}
 (hrd : GRd F 6 w p c l) (h : WS 83 w W q m o) (hlen : m.length + (rowsC en l).length ≤ 1000000000000)
 (J : Nat → World → Value → Prop) (hJ : ∀ j W W' o o', J j W o → WTo q o o' W W' → J j W' o') (h0 : J 0 W o)
 (one : ∀ j (hj : j < l.length) m o W cs, J j W o → WS 83 w W q m o → F w l[j] cs → m.length + (en l[j]).length ≤ 1000000000000 → Calls Tryz.prog 64 #[.pointer (some ⟨q, 0, none⟩), .agg cs] W fun e W' => e = .returned (.tuple #[]) ∧ ∃ o', WS 83 w W' q (m ++ en l[j]) o' ∧ J (j + 1) W' o') :
 Calls Tryz.prog 117 #[.pointer (some ⟨q, 0, none⟩), .slice p l.length c, (.func (.func 64) #[.pointer (some ⟨q, 0, none⟩)] #[])] W fun e W' => e = .returned (.tuple #[]) ∧ ∃ o', WS 83 w W' q (m ++ rowsC en l) o' ∧ J l.length W' o' := by
 have z1 : (l.length : Int) ≤ 140737488355328 := by have := hrd.1.2.1; omega
 have hu : toU (l.length : Int) = l.length := by unfold toU; rw [if_neg (by omega)]; simp
 have hnum := Ka0 (n := l.length) (by omega) h (by omega)
 have HN := yh hnum
 have HJ := yh hJ
 have HO := yh one
 have HR := yh hrd
 have HL := yh hlen
 have H0 := yh h0
 clear hnum hJ one hrd hlen h0 hu h
 go_enter Tryz.func117, Tryz.ntmps117
 go_wp2_with (go_at_call 42; refine HN.out.mono ?_; rintro e W1 ⟨rfl, o1, h1, t1⟩; have H1 := yh (And.intro h1 (HJ.out _ _ _ _ _ H0.out t1)); clear h1 t1)
 go_loopw [15] (fun i wr => ∃ j : Nat, j ≤ l.length ∧ i = .int .i64 (j : Int) ∧ Hid (∃ o, WS 83 w wr q (m ++ numB l.length ++ (l.take j).flatMap en) o ∧ J j wr o)) (fun i _ => l.length - (intOf i).toNat)
 case atStart => exact ⟨0, Nat.zero_le _, rfl, yh ⟨o1, by simpa using H1.out.1, H1.out.2⟩⟩
 case round =>
  obtain ⟨j, hj, rfl, HI⟩ := hrel
  obtain ⟨o2, h2, j2⟩ := HI.out
  by_cases hlt : j < l.length
  ·have hlt1 : j + 1 ≤ l.length := hlt
   obtain ⟨b, of, cs, rfl, hs, hc, hv⟩ := HR.out.get hlt
   have hones := hF.ones hv
   have hL1 := StT.load Kbo hs (fun i u hu => Kam h2.b (ltOf (hc i u hu)) (hc i u hu)) (W := wr)
   have hS := StT.fresh Kbo hs hones (W := wr)
   have hL2 := StT.get Kbo hs (heap_alloc_new wr (.cells cs 48))
   have hbn := Kac (w := wr) (.cells cs 48)
   have h3 := h2.below hbn
   have hst := Kc1 (e := en) hlt
   have hle : (m ++ numB l.length ++ (l.take j).flatMap en).length + (en l[j]).length ≤ 1000000000000 := by
    have e1 : (l.flatMap en).length = ((l.take (j + 1)).flatMap en).length + ((l.drop (j + 1)).flatMap en).length := by
     rw [← List.length_append, ← List.flatMap_append, List.take_append_drop]
    have := HL.out
    unfold rowsC at this
    rw [hst] at e1
    simp only [List.length_append] at *
    omega
   have hone := HO.out j hlt _ _ _ cs (HJ.out _ _ _ _ _ j2 (WTo.of_below hbn)) h3 hv hle
   rw [List.append_assoc _ _ (en l[j]), ← hst] at hone
   have HL1 := yh hL1
   have HS := yh hS
   have HL2 := yh hL2
   have HC := yh hone
   clear hc hones hL1 hS hL2 hbn h3 hst hle hone HI h2 j2 hv H1 HN H0 HL
   go_wp2_with (first
    | (refine Kau rfl _ _ _ rfl rfl HL1.out ?_; clear HL1)
    | (refine Kaq rfl _ _ _ _ rfl rfl rfl (HS.out _ rfl) ?_; clear HS)
    | (refine Kau rfl _ _ _ rfl rfl HL2.out ?_; clear HL2)
    | (go_at_call 64; refine HC.out.mono ?_; rintro e W2 ⟨rfl, hw2⟩; have HW2 := yh hw2; clear hw2 HC))
   go_roundw
   case rel => exact ⟨j + 1, hlt1, by go_num, HW2⟩
   case measure => simp [intOf]; omega
  ·obtain rfl : j = l.length := by omega
   have HF := yh (show ∃ o', WS 83 w wr q (m ++ rowsC en l) o' ∧ J l.length wr o' from ⟨o2, by rw [← rows_at, ← List.append_assoc]; exact h2, j2⟩)
   clear HI h2 j2 H1 HN H0 HL
   go_wp2
   go_end0
   exact ⟨rfl, HF.out⟩
theorem rowV_tells {α : Type} {F : World → α → Array Value → Prop} (hF : EF F 6) (en : α → List UInt8) {l : List α} {w W : World} {q : Nat} {m : List UInt8} {o : Value} {p : Option Addr} {c : Nat}
 (hrd : GRd F 6 w p c l) (h : WS 83 w W q m o) (hlen : m.length + (rowsC en l).length ≤ 1000000000000)
 (one : ∀ x ∈ l, ∀ m o W cs, WS 83 w W q m o → F w x cs → m.length + (en x).length ≤ 1000000000000 → Calls Tryz.prog 64 #[.pointer (some ⟨q, 0, none⟩), .agg cs] W (Tells w W q m o (en x))) :
 Calls Tryz.prog 117 #[.pointer (some ⟨q, 0, none⟩), .slice p l.length c, (.func (.func 64) #[.pointer (some ⟨q, 0, none⟩)] #[])] W (Tells w W q m o (rowsC en l)) := by
 refine (rowV_any hF en hrd h hlen (fun _ W' o' => WTo q o o' W W') (fun j W1 W2 o1 o2 h1 h2 => h1.trans h2) (WTo.refl q o W) ?_).mono ?_
 ·intro j hj m o1 W1 cs h1 h2 h3 h4
  refine (one _ (List.getElem_mem hj) m o1 W1 cs h2 h3 h4).mono ?_
  rintro e W2 ⟨rfl, o2, h5, h6⟩
  exact ⟨rfl, o2, h5, h1.trans h6⟩
 ·rintro e W' ⟨rfl, o', h1, h2⟩
  exact ⟨rfl, o', h1, h2⟩
theorem rowM_any {α : Type} {F : World → α → Array Value → Prop} (hF : EF F 6) (en : α → List UInt8) {l : List α} {w W : World} {q : Nat} {m : List UInt8} {o : Value} {p : Option Addr} {c : Nat} {a1 a2 a3 : Option Addr}
 (hrd : GRd F 6 w p c l) (h : WS 83 w W q m o) (hlen : m.length + (rowsC en l).length ≤ 1000000000000)
 (J : Nat → World → Value → Prop) (hJ : ∀ j W W' o o', J j W o → WTo q o o' W W' → J j W' o') (h0 : J 0 W o)
 (one : ∀ j (hj : j < l.length) m o W cs, J j W o → WS 83 w W q m o → F w l[j] cs → m.length + (en l[j]).length ≤ 1000000000000 → Calls Tryz.prog 118 #[.agg cs, .pointer a1, .pointer a2, .pointer a3] W fun e W' => e = .returned (.tuple #[]) ∧ ∃ o', WS 83 w W' q (m ++ en l[j]) o' ∧ J (j + 1) W' o') :
 Calls Tryz.prog 117 #[.pointer (some ⟨q, 0, none⟩), .slice p l.length c, (.func (.func 118) #[] #[.pointer a1, .pointer a2, .pointer a3])] W fun e W' => e = .returned (.tuple #[]) ∧ ∃ o', WS 83 w W' q (m ++ rowsC en l) o' ∧ J l.length W' o' := by
 have z1 : (l.length : Int) ≤ 140737488355328 := by have := hrd.1.2.1; omega
 have hu : toU (l.length : Int) = l.length := by unfold toU; rw [if_neg (by omega)]; simp
 have hnum := Ka0 (n := l.length) (by omega) h (by omega)
 have HN := yh hnum
 have HJ := yh hJ
 have HO := yh one
 have HR := yh hrd
 have HL := yh hlen
 have H0 := yh h0
 clear hnum hJ one hrd hlen h0 hu h
 go_enter Tryz.func117, Tryz.ntmps117
 go_wp2_with (go_at_call 42; refine HN.out.mono ?_; rintro e W1 ⟨rfl, o1, h1, t1⟩; have H1 := yh (And.intro h1 (HJ.out _ _ _ _ _ H0.out t1)); clear h1 t1)
 go_loopw [15] (fun i wr => ∃ j : Nat, j ≤ l.length ∧ i = .int .i64 (j : Int) ∧ Hid (∃ o, WS 83 w wr q (m ++ numB l.length ++ (l.take j).flatMap en) o ∧ J j wr o)) (fun i _ => l.length - (intOf i).toNat)
 case atStart => exact ⟨0, Nat.zero_le _, rfl, yh ⟨o1, by simpa using H1.out.1, H1.out.2⟩⟩
 case round =>
  obtain ⟨j, hj, rfl, HI⟩ := hrel
  obtain ⟨o2, h2, j2⟩ := HI.out
  by_cases hlt : j < l.length
  ·have hlt1 : j + 1 ≤ l.length := hlt
   obtain ⟨b, of, cs, rfl, hs, hc, hv⟩ := HR.out.get hlt
   have hones := hF.ones hv
   have hL1 := StT.load Kbo hs (fun i u hu => Kam h2.b (ltOf (hc i u hu)) (hc i u hu)) (W := wr)
   have hS := StT.fresh Kbo hs hones (W := wr)
   have hL2 := StT.get Kbo hs (heap_alloc_new wr (.cells cs 48))
   have hbn := Kac (w := wr) (.cells cs 48)
   have h3 := h2.below hbn
   have hst := Kc1 (e := en) hlt
   have hle : (m ++ numB l.length ++ (l.take j).flatMap en).length + (en l[j]).length ≤ 1000000000000 := by
    have e1 : (l.flatMap en).length = ((l.take (j + 1)).flatMap en).length + ((l.drop (j + 1)).flatMap en).length := by
     rw [← List.length_append, ← List.flatMap_append, List.take_append_drop]
    have := HL.out
    unfold rowsC at this
    rw [hst] at e1
    simp only [List.length_append] at *
    omega
   have hone := HO.out j hlt _ _ _ cs (HJ.out _ _ _ _ _ j2 (WTo.of_below hbn)) h3 hv hle
   rw [List.append_assoc _ _ (en l[j]), ← hst] at hone
   have HL1 := yh hL1
   have HS := yh hS
   have HL2 := yh hL2
   have HC := yh hone
   clear hc hones hL1 hS hL2 hbn h3 hst hle hone HI h2 j2 hv H1 HN H0 HL
   go_wp2_with (first
    | (refine Kau rfl _ _ _ rfl rfl HL1.out ?_; clear HL1)
    | (refine Kaq rfl _ _ _ _ rfl rfl rfl (HS.out _ rfl) ?_; clear HS)
    | (refine Kau rfl _ _ _ rfl rfl HL2.out ?_; clear HL2)
    | (go_at_call 118; refine HC.out.mono ?_; rintro e W2 ⟨rfl, hw2⟩; have HW2 := yh hw2; clear hw2 HC))
   go_roundw
   case rel => exact ⟨j + 1, hlt1, by go_num, HW2⟩
   case measure => simp [intOf]; omega
  ·obtain rfl : j = l.length := by omega
   have HF := yh (show ∃ o', WS 83 w wr q (m ++ rowsC en l) o' ∧ J l.length wr o' from ⟨o2, by rw [← rows_at, ← List.append_assoc]; exact h2, j2⟩)
   clear HI h2 j2 H1 HN H0 HL
   go_wp2
   go_end0
   exact ⟨rfl, HF.out⟩
section
variable {T : TypeId} {w W W1 W' : World} {q : Nat} {l : List UInt8} {o o' : Value}
theorem WTo.box (t : WTo q o o' W W1) (h : WS T w W q l o) {b : Nat} {ob : Obj} (hb : W.heap[b]? = some ob) (hq : b ≠ q) (ho : o.ownBlock ≠ some b) : W1.heap[b]? = some ob :=
 (t.keep b (Array.getElem?_eq_some_iff.1 hb).1 hq ho).trans hb
theorem WTo.not (t : WTo q o o' W W1) {b : Nat} (hb : b < W.heap.size) (ho : o.ownBlock ≠ some b) : o'.ownBlock ≠ some b := by
 rcases t.own with e | e
 ·rw [e]; exact ho
 ·intro h; have := e b h; omega
theorem WS.own_lt (h : WS T w W q l o) {b : Nat} (hb : o.ownBlock = some b) : b < W.heap.size := (h.own.1.lt b hb).2
structure Side (W : World) (q : Nat) (o : Value) (b : Nat) (ob : Obj) : Prop where
 at_ : W.heap[b]? = some ob
 ne : b ≠ q
 no : o.ownBlock ≠ some b
theorem Side.to {b : Nat} {ob : Obj} (h : Side W q o b ob) (t : WTo q o o' W W1) : Side W1 q o' b ob := by
 have hlt := (Array.getElem?_eq_some_iff.1 h.at_).1
 exact ⟨(t.keep b hlt h.ne h.no).trans h.at_, h.ne, t.not hlt h.no⟩
theorem WS.side (h : WS T w W q l o) (g : Below W.heap.size W W1) {b : Nat} {ob : Obj} (hb : W.heap.size ≤ b) (hat : W1.heap[b]? = some ob) : Side W1 q o b ob :=
 ⟨hat, fun e => by have := h.lt; omega, fun e => by have := h.own_lt e; omega⟩
theorem WS.stepB (h : WS T w W q l o) (c : UInt8) (hn : l.length ≤ 1000000000000) (ty : TypeId) :
 ∃ p' c' W2, (Builtin.append_ #[26, 26] ty #[o, .slice (some ⟨W.heap.size, 0, none⟩) 1 1]).run Tryz.prog (W.drew.alloc (.cells #[.int .u8 (c.toNat : Int)] 5)) = .ok (.slice p' (l ++ [c]).length c') W2 ∧ W2.heap[q]? = some (.cells #[o] T (0, 0)) ∧
  WS T w (W2.setCell ⟨q, 0, none⟩ (.slice p' (l ++ [c]).length c')) q (l ++ [c]) (.slice p' (l ++ [c]).length c') ∧ WTo q o (.slice p' (l ++ [c]).length c') W (W2.setCell ⟨q, 0, none⟩ (.slice p' (l ++ [c]).length c')) := by
 have hb : Below W.heap.size W (W.drew.alloc (.cells #[.int .u8 (c.toNat : Int)] 5)) := (Below.refl _ _).drew.alloc (Nat.le_refl _) _
 have hnew : (W.drew.alloc (.cells #[.int .u8 (c.toNat : Int)] 5)).heap[W.heap.size]? = some (.cells #[.int .u8 (c.toNat : Int)] 5 (0, 0)) := heap_alloc_new W.drew _
 obtain ⟨p', c', W2, h1, h2, h3, h4, _⟩ := h.step (m := [c]) (ad := ⟨W.heap.size, 0, none⟩) (c := 1) hb (fun j u hu => by
  rw [Ka9, Nat.zero_add]
  exact Kab hnew (by simpa [byteV] using hu)) (by simp; omega) ty
 exact ⟨p', c', W2, h1, h2, h3, h4⟩
end
theorem conv_kind {k : Int} (h0 : 0 ≤ k) (h1 : k < 256) (W : World) : (convert 44 5 (.int .i64 k)).run Tryz.prog W = .ok (.int .u8 ((UInt8.ofNat k.toNat).toNat : Int)) W := by
 have e : IntKind.u8.wrap k = ((UInt8.ofNat k.toNat).toNat : Int) := by
  rw [Kb1 (by omega)]
  simp [IntKind.wrap, IntKind.signed, IntKind.bits]; omega
 rw [← e]
 simp [convert, go_sem]
def WValOf (w : World) (v : V) : Prop := ∀ (d : Nat), wfV d v → ∀ (W : World) (q : Nat) (l : List UInt8) (o : Value) (x : Array Value), VRd w v x → WS 83 w W q l o → l.length + (valC v).length ≤ 1000000000000 →
 Calls Tryz.prog 64 #[.pointer (some ⟨q, 0, none⟩), .agg x] W (Tells w W q l o (valC v))
def WVal (w : World) : Prop := ∀ v : V, WValOf w v
theorem put_int {w : World} {ad : Addr} {n : Int} {u : Value} (hc : w.cell? ad = some u) (hf : w.frozen? ad = false) : (storeVar 3 ad (.int .i64 n)).run Tryz.prog w = .ok () (w.setCell ad (.int .i64 n)) := by
 simp [storeVar, go_sem, hc, hf]
theorem WVal.at {w : World} (h : WVal w) (v : V) {d : Nat} (hwf : wfV d v) {W : World} {q : Nat} {l : List UInt8} {o : Value} {x : Array Value} (hx : VRd w v x) (hw : WS 83 w W q l o) (hl : l.length + (valC v).length ≤ 1000000000000) :
 Calls Tryz.prog 64 #[.pointer (some ⟨q, 0, none⟩), .agg x] W (Tells w W q l o (valC v)) := h v d hwf W q l o x hx hw hl
theorem xor_all {a : Nat} (h : a < 18446744073709551616) : a ^^^ 18446744073709551615 = 18446744073709551615 - a := by
 have h1 := congrArg BitVec.toNat (BitVec.xor_allOnes (x := BitVec.ofNat 64 a))
 rw [BitVec.toNat_xor, BitVec.toNat_not, BitVec.toNat_ofNat, BitVec.toNat_allOnes] at h1
 have e : (2 : Nat) ^ 64 = 18446744073709551616 := rfl
 rw [e, Nat.mod_eq_of_lt h] at h1
 exact h1
theorem exec_binu {P : Program} {a : Act} {w : World} {o : Oper} {op : BinOp} {t t' : TypeId} {x y : Operand} {k k' : IntKind} {n m : Int} {v : Value} (ho : o.op = .binOp op t x y t') (hx : a.eval x = .int k n) (hy : a.eval y = .int k' m)
 (hr : (binOp op t (.int k n) (.int k' m)).run P w = .ok v w) : (execOp a.eval o).run P w = .ok (.value v) w := by
 unfold execOp; rw [ho]; simp only [hx, hy]
 have e : eqGuard op t x y (.int k n) (.int k' m) = pure () := by unfold eqGuard; cases op <;> rfl
 simp only [e, Sem.run_bind, Sem.run_pure, Result.andThen_ok, hr]
theorem conv_u64 {n : Int} (h : i64T n) (W : World) : (convert 2 79 (.int .i64 n)).run Tryz.prog W = .ok (.int .u64 (toU n : Int)) W := by
 rw [← Kcy h]
 simp [convert, go_sem]
theorem shl_one {a : Nat} (W : World) : (binOp .shl 79 (.int .u64 (a : Int)) (.int .u64 1)).run Tryz.prog W = .ok (.int .u64 ((2 * a % 18446744073709551616 : Nat) : Int)) W := by
 have e : ((2 * a % 18446744073709551616 : Nat) : Int) = IntKind.u64.wrap ((a : Int) * 2) := by rw [IntKind.wrap_u64]; omega
 rw [e]
 simp [go_sem]
theorem shr_neg {n : Int} (h : i64T n) (hn : n < 0) (W : World) : (binOp .shr 2 (.int .i64 n) (.int .u64 63)).run Tryz.prog W = .ok (.int .i64 (-1)) W := by
 have e : n / 9223372036854775808 = -1 := by unfold i64T at h; omega
 simp [go_sem, e]
theorem shr_pos {n : Int} (h : i64T n) (hn : 0 ≤ n) (W : World) : (binOp .shr 2 (.int .i64 n) (.int .u64 63)).run Tryz.prog W = .ok (.int .i64 0) W := by
 have e : n / 9223372036854775808 = 0 := by unfold i64T at h; omega
 simp [go_sem, e]
theorem xor_run {a b c : Nat} (h : bits .xor .u64 (a : Int) (b : Int) = (c : Int)) (W : World) : (binOp .xor 79 (.int .u64 (a : Int)) (.int .u64 (b : Int))).run Tryz.prog W = .ok (.int .u64 (c : Int)) W := by
 rw [← h]
 simp [go_sem]
theorem zz_neg {n : Int} (h : i64T n) (hn : n < 0) : bits .xor .u64 ((2 * toU n % 18446744073709551616 : Nat) : Int) ((18446744073709551615 : Nat) : Int) = (zzN n : Int) := by
 rw [u64_xor_nat _ _ (Nat.mod_lt _ (by decide)) (by decide), xor_all (Nat.mod_lt _ (by decide))]
 unfold i64T at h
 unfold zzN toU
 rw [if_pos hn, if_pos hn]
 omega
theorem zz_pos {n : Int} (h : i64T n) (hn : 0 ≤ n) : bits .xor .u64 ((2 * toU n % 18446744073709551616 : Nat) : Int) ((0 : Nat) : Int) = (zzN n : Int) := by
 rw [u64_xor_nat _ _ (Nat.mod_lt _ (by decide)) (by decide), Nat.xor_zero]
 unfold i64T at h
 unfold zzN toU
 rw [if_neg (by omega), if_neg (by omega)]
 omega
theorem Kdm {n : Int} (hn : i64T n) {w W : World} {q : Nat} {l : List UInt8} {o : Value} (h : WS 83 w W q l o) (hl : l.length ≤ 1000000000000) :
 Calls Tryz.prog 116 #[.pointer (some ⟨q, 0, none⟩), .int .i64 n] W (Tells w W q l o (numB (zzN n))) := by
 have HN := yh (Ka0 (n := zzN n) (un_zz hn).1 h (by omega))
 have H1 := yh (conv_u64 hn W)
 have H2 := yh (shl_one (a := toU n) W)
 have H3 : Hid (∃ s : Int, ∃ b : Nat, (binOp .shr 2 (.int .i64 n) (.int .u64 63)).run Tryz.prog W = .ok (.int .i64 s) W ∧ (convert 2 79 (.int .i64 s)).run Tryz.prog W = .ok (.int .u64 (b : Int)) W ∧
  (binOp .xor 79 (.int .u64 ((2 * toU n % 18446744073709551616 : Nat) : Int)) (.int .u64 (b : Int))).run Tryz.prog W = .ok (.int .u64 (zzN n : Int)) W) := by
  by_cases hs : n < 0
  ·exact yh ⟨-1, 18446744073709551615, shr_neg hn hs W, conv_u64 (n := -1) (by unfold i64T; omega) W, xor_run (zz_neg hn hs) W⟩
  ·exact yh ⟨0, 0, shr_pos hn (by omega) W, conv_u64 (n := 0) (by unfold i64T; omega) W, xor_run (zz_pos hn (by omega)) W⟩
 obtain ⟨s, b, h3, h4, h5⟩ := H3.out
 have G3 := yh h3
 have G4 := yh h4
 have G5 := yh h5
 generalize hA : ((2 * toU n % 18446744073709551616 : Nat) : Int) = A at *
 generalize hU : ((toU n : Nat) : Int) = U at *
 generalize hB : ((b : Nat) : Int) = B at *
 generalize hZ : ((zzN n : Nat) : Int) = Z at *
 clear h h3 h4 h5 H3 hn hA hU hB
 go_enter Tryz.func116, Tryz.ntmps116
 go_wp2_with (first
  | (refine Kba rfl (Kc0 rfl rfl H1.out) ?_)
  | (refine Kba rfl (exec_binu rfl rfl rfl H2.out) ?_)
  | (refine Kba rfl (exec_binu rfl rfl rfl G3.out) ?_)
  | (refine Kba rfl (Kc0 rfl rfl G4.out) ?_)
  | (refine Kba rfl (exec_binu rfl rfl rfl G5.out) ?_)
  | (go_at_call 42; refine HN.out.mono ?_; rintro e W1 ⟨rfl, o1, h1, t1⟩; have HE := yh (And.intro h1 t1); clear h1 t1))
 go_end0
 exact ⟨rfl, o1, HE.out⟩
structure MapJ (q : Nat) (x : Array Value) (B2 B3 B5 : Nat) (W0 : World) (o0 : Value) (j : Nat) (W' : World) (o' : Value) : Prop where
 p2 : Side W' q o' B2 (.cells #[.pointer (some ⟨q, 0, none⟩)] 85 (0, 0))
 p3 : Side W' q o' B3 (.cells x 48 (0, 0))
 p5 : Side W' q o' B5 (.cells #[.int .i64 (j : Int)] 3 (0, 0))
 ne : B5 ≠ B2 ∧ B5 ≠ B3
 tw : WTo q o0 o' W0 W'
 hi : W0.heap.size ≤ B5
theorem MapJ.step {q : Nat} {x : Array Value} {B2 B3 B5 : Nat} {W0 W W' : World} {o0 o o' : Value} {j : Nat} (h : MapJ q x B2 B3 B5 W0 o0 j W o) (t : WTo q o o' W W') : MapJ q x B2 B3 B5 W0 o0 j W' o' :=
 ⟨h.p2.to t, h.p3.to t, h.p5.to t, h.ne, h.tw.trans t, h.hi⟩
theorem MapJ.next {q : Nat} {x : Array Value} {B2 B3 B5 : Nat} {W0 W : World} {o0 o : Value} {j : Nat} (h : MapJ q x B2 B3 B5 W0 o0 j W o) : MapJ q x B2 B3 B5 W0 o0 (j + 1) (W.setCell ⟨B5, 0, none⟩ (.int .i64 ((j : Int) + 1))) o := by
 have hs : ∀ b, b ≠ B5 → (W.setCell ⟨B5, 0, none⟩ (.int .i64 ((j : Int) + 1))).heap[b]? = W.heap[b]? := fun b hb => Below.heap_setCell _ _ _ _ hb
 refine ⟨⟨(hs _ h.ne.1.symm).trans h.p2.at_, h.p2.ne, h.p2.no⟩, ⟨(hs _ h.ne.2.symm).trans h.p3.at_, h.p3.ne, h.p3.no⟩, ⟨?_, h.p5.ne, h.p5.no⟩, h.ne, ⟨?_, fun b hb hq ho => ?_, h.tw.own⟩, h.hi⟩
 ·have := heap_setCell_same W B5 0 #[.int .i64 (j : Int)] 3 (.int .i64 ((j : Int) + 1)) h.p5.at_
  simpa using this
 ·have := h.tw.size; simp [World.setCell]; omega
 ·rw [hs b (by have := h.hi; omega)]; exact h.tw.keep b hb hq ho
theorem wpair_any {w W : World} {q B2 B3 B5 j d : Nat} {m : List UInt8} {o o0 : Value} {W0 : World} {k : Int} {b : Bool} {n : Int} {t : List UInt8} {ks : List (List UInt8)} {pk : Option Addr} {ck : Nat} {vl : Value} {v : V} {cs : Array Value}
 (hJ : MapJ q #[.int .i64 k, .bool b, .int .i64 n, .string (strB t), .slice pk ks.length ck, vl] B2 B3 B5 W0 o0 j W o) (h : WS 83 w W q m o) (hv : VRd w v cs) (hval : WValOf w v) (hwf : wfV d v) (hk : RdS w pk ck ks) (hj : j < ks.length) (hl : m.length + (textC ks[j] ++ valC v).length ≤ 1000000000000) (hw0 : w.heap.size ≤ W0.heap.size) :
 Calls Tryz.prog 118 #[.agg cs, .pointer (some ⟨B2, 0, none⟩), .pointer (some ⟨B3, 0, none⟩), .pointer (some ⟨B5, 0, none⟩)] W fun e W' => e = .returned (.tuple #[]) ∧ ∃ o', WS 83 w W' q (m ++ (textC ks[j] ++ valC v)) o' ∧ MapJ q #[.int .i64 k, .bool b, .int .i64 n, .string (strB t), .slice pk ks.length ck, vl] B2 B3 B5 W0 o0 (j + 1) W' o' := by
 rw [List.length_append] at hl
 have zk : (ks.length : Int) ≤ 140737488355328 := by have := hk.2.1.1; omega
 have hb0 := Kac (w := W) (.cells cs 48)
 have h0 := h.below hb0
 have hJ0 := hJ.step (WTo.of_below (o := o) hb0)
 have hcs := ef_val.size hv
 have hs0 : Side (W.alloc (.cells cs 48)) q o W.heap.size (.cells cs 48 (0, 0)) := h.side hb0 (Nat.le_refl _) (heap_alloc_new W _)
 obtain ⟨bk, ok, rfl, hck, hlk⟩ := (hk.below h0.b).get hj
 have htl : (textC ks[j]).length = (numB ks[j].length).length + ks[j].length := by unfold textC; rw [List.length_append]
 have hd := (Below.refl (W.alloc (.cells cs 48)).heap.size (W.alloc (.cells cs 48))).drew
 have HT := yh (wtext_any (h0.below hd) (s := ks[j]) (by omega))
 have HD := yh (And.intro (hJ0.step (WTo.of_below (o := o) hd)) (hs0.to (WTo.of_below (o := o) hd)))
 have hS0 : (W.alloc (.cells cs 48)).drew.cell? ⟨B2, 0, none⟩ = some (.pointer (some ⟨q, 0, none⟩)) ∧ (W.alloc (.cells cs 48)).drew.cell? ⟨B3, 4, none⟩ = some (.slice (some ⟨bk, ok, none⟩) ks.length ck) ∧ (W.alloc (.cells cs 48)).drew.cell? ⟨B5, 0, none⟩ = some (.int .i64 (j : Int)) ∧ (W.alloc (.cells cs 48)).drew.cell? ⟨bk, ok + j, none⟩ = some (.string (strB ks[j])) :=
  ⟨Kab (o := 0) hJ0.p2.at_ rfl, Kab (o := 4) hJ0.p3.at_ rfl, Kab (o := 0) hJ0.p5.at_ rfl, hck⟩
 have hf : ∀ W' : World, (Instr.fieldAt 48 (.pointer (some ⟨B3, 0, none⟩)) 4).run Tryz.prog W' = .ok (.pointer (some ⟨B3, 4, none⟩)) W' := by intro W'; simp [go_sem]
 have hi : ∀ W' : World, (Instr.indexAt 45 (.slice (some ⟨bk, ok, none⟩) ks.length ck) (.int .i64 (j : Int))).run Tryz.prog W' = .ok (.pointer (some ⟨bk, ok + j, none⟩)) W' := by
  intro W'; simp [go_sem, hj]
 have HS := yh (And.intro hS0 (And.intro hf hi))
 have HQ := yh hval
 have HV := yh hv
 clear hb0 h0 hJ0 hs0 hck htl hS0 hf hi hd hval hJ h hk hv
 go_enter Tryz.func118, Tryz.ntmps118
 go_wp2
 obtain ⟨hS0, hf, hi⟩ := HS.out
 generalize hWa : W.alloc (.cells cs 48) = Wa at *
 clear hWa
 refine Kan (fun W' => W'.cell? ⟨B2, 0, none⟩ = some (.pointer (some ⟨q, 0, none⟩)) ∧ W'.cell? ⟨B3, 4, none⟩ = some (.slice (some ⟨bk, ok, none⟩) ks.length ck) ∧ W'.cell? ⟨B5, 0, none⟩ = some (.int .i64 (j : Int)) ∧ W'.cell? ⟨bk, ok + j, none⟩ = some (.string (strB ks[j]))) (by kernel_rfl) hS0 (fun hS => ?_)
 refine tk 0 5 (v := .pointer (some ⟨q, 0, none⟩)) rfl rfl (fun W hW => Kag rfl rfl (Kah (w := W) Tryz.underlying85 rfl hW.1)) ?_
 simp only [Act.put, sA, sZ, sS]
 refine tk 1 6 (v := .pointer (some ⟨B3, 4, none⟩)) rfl rfl (fun W hW => Kae rfl rfl (hf W)) ?_
 simp only [Act.put, sA, sZ, sS]
 refine tk 2 7 (v := .slice (some ⟨bk, ok, none⟩) ks.length ck) rfl rfl (fun W hW => Kag rfl rfl (Kah (w := W) Tryz.underlying45 rfl hW.2.1)) ?_
 simp only [Act.put, sA, sZ, sS]
 refine tk 3 8 (v := .int .i64 (j : Int)) rfl rfl (fun W hW => Kag rfl rfl (Kah (w := W) Tryz.underlying3 rfl hW.2.2.1)) ?_
 simp only [Act.put, sA, sZ, sS]
 refine tk 4 9 (v := .pointer (some ⟨bk, ok + j, none⟩)) rfl rfl (fun W hW => Kar rfl rfl rfl (hi W)) ?_
 simp only [Act.put, sA, sZ, sS]
 refine tk 5 10 (v := .string (strB ks[j])) rfl rfl (fun W hW => Kag rfl rfl (Kah (w := W) Tryz.underlying9 rfl hW.2.2.2)) ?_
 simp only [Act.put, sA, sZ, sS]
 refine Kb0 6 11 rfl rfl (by kernel_rfl) rfl (Kbh [.pointer (some ⟨q, 0, none⟩), .string (strB ks[j])] rfl rfl Tryz.func96 (by kernel_rfl) (by kernel_rfl)) ?_
 refine HT.out.mono ?_
 rintro e W2 ⟨rfl, o2, h2, t2⟩
 have hJ2 := HD.out.1.step t2
 have hs2 := HD.out.2.to t2
 have HL := yh (StT.get Kbo hcs hs2.at_)
 have c2 := Kab (o := 0) hJ2.p2.at_ rfl
 have HC := yh (HQ.out d hwf W2 q _ o2 cs HV.out h2 (by rw [List.length_append]; omega))
 have HE := yh hJ2
 clear t2 hJ2 hs2 h2
 refine ⟨_, rfl, .inl (by kernel_rfl), ?_⟩
 refine done (by kernel_rfl) ?_ _
 clear hS hS0 hf hi HS HT HD
 go_wp2_with (first
  | (refine Kau rfl _ _ _ rfl rfl HL.out ?_; clear HL)
  | (go_at_call 64; refine HC.out.mono ?_; rintro e W3 ⟨rfl, o3, h3, t3⟩
     (
      have hJ3 := HE.out.step t3
      have c5 := Kab (o := 0) hJ3.p5.at_ rfl
      have HS := yh (put_int (n := (j : Int) + 1) c5 (Kav (o := 0) hJ3.p5.at_))
      have HF := yh (And.intro (h3.other hJ3.p5.ne hJ3.p5.no (by have := hJ3.hi; omega) (i := 0) (.int .i64 ((j : Int) + 1))) hJ3.next)
      clear h3 t3 hJ3 HE HC))
  | (refine Kaq rfl _ _ _ _ rfl rfl rfl HS.out ?_))
 go_end0
 refine ⟨rfl, o3, ?_, HF.out.2⟩
 rw [← List.append_assoc]
 exact HF.out.1
theorem zip_grd {w : World} {p : Option Addr} {c : Nat} {ks : List (List UInt8)} {l : List V} (h : LRd w p c l) (he : ks.length = l.length) : GRd (fun w (p : List UInt8 × V) cs => VRd w p.2 cs) 6 w p c (ks.zip l) := by
 have hz : (ks.zip l).length = l.length := by simp; omega
 have hg := h.grd
 refine ⟨by rw [hz]; exact hg.1, fun ad had => ⟨fun hne => (hg.2 ad had).1 fun e => hne (by rw [e]; simp), fun j v hv => ?_⟩⟩
 have hj : j < (ks.zip l).length := (List.getElem?_eq_some_iff.1 hv).1
 have hv2 : l[j]? = some v.2 := by
  rw [List.getElem?_eq_getElem hj, List.getElem_zip] at hv
  cases hv
  exact List.getElem?_eq_getElem (by omega)
 exact (hg.2 ad had).2 j v.2 hv2
theorem ef_pair : EF (fun w (p : List UInt8 × V) cs => VRd w p.2 cs) 6 := ⟨fun h g => ef_val.below h g, fun h => ef_val.size h, fun h => ef_val.ones h⟩
theorem rows_pairs {ks : List (List UInt8)} {l : List V} (h : ks.length = l.length) : rowsC (fun p : List UInt8 × V => textC p.1 ++ valC p.2) (ks.zip l) = numB l.length ++ kvC ks l := by
 unfold rowsC
 rw [kvC_eq ks l h]
 congr 2
 simp; omega
theorem rows_vals (l : List V) : rowsC valC l = numB l.length ++ valsC l := by unfold rowsC; rw [Kd3]
theorem find_tu (a : Bool) (w : World) : (Instr.findKey 4 (.bool a) [{ key := .bool true, val := .int .u64 1, born := 0 }]).run Tryz.prog w = .ok (if a then some (0, .int .u64 1) else none) w := by
 cases a <;> simp [Instr.findKey, Sem.run_bind, run_underlying Tryz.underlying4, Result.andThen, Instr.findNow, Instr.sameNow]
theorem lookup_tu {w : World} {b clk : Nat} (h : w.heap[b]? = some (.map #[{ key := .bool true, val := .int .u64 1, born := 0 }] clk)) (a : Bool) : (Instr.lookup 166 (.map (some b)) (.bool a) false).run Tryz.prog w = .ok (.int .u64 (b2i a)) w := by
 unfold Instr.lookup
 simp only [Sem.run_bind, run_underlying Tryz.underlying166, Result.andThen_ok, getObj, Sem.run, h, Sem.run_pure, check_bool, find_tu]
 cases a
 ·simp [Tryz.zeroValue79, b2i]
 ·simp [b2i]
theorem insert_tu {w : World} {b : Nat} (h : w.heap[b]? = some (.map #[] 0)) : (Instr.mapUpdate 166 (.map (some b)) (.bool true) (.int .u64 1)).run Tryz.prog w = .ok () (w.putObj b (.map #[{ key := .bool true, val := .int .u64 1, born := 0 }] 1)) := by
 unfold Instr.mapUpdate
 have hf : (Instr.findKey 4 (.bool true) []).run Tryz.prog w = .ok none w := by simp [Instr.findKey, Sem.run_bind, run_underlying Tryz.underlying4, Result.andThen, Instr.findNow]
 simp only [Sem.run_bind, run_underlying Tryz.underlying166, Result.andThen_ok, getObj, Sem.run, h, Sem.run_pure, check_bool, hf]
 simp [setObj, Sem.run, h, World.putObj]
theorem wvalue_of {w : World} {k : Int} {b : Bool} {n : Int} {t : List UInt8} {ks : List (List UInt8)} {l : List V} (ih : ∀ v ∈ l, WValOf w v) : WValOf w (.mk k b n t ks l) := by
 intro d hwf W q m o x hx h hl
 obtain ⟨pk, ck, pl, cl, rfl, htx, hk1, hl1⟩ := Kee.1 hx
 cases d with
 | zero => rw [wfV] at hwf; exact hwf.elim
 | succ d =>
 rw [wfV] at hwf
 have hk0 : 0 ≤ k ∧ k ≤ 7 := by rcases hwf with ⟨e, _⟩ | ⟨e, _⟩ | ⟨e, _⟩ | ⟨e, _⟩ | ⟨e, _⟩ | ⟨e, _⟩ | ⟨e | e, _⟩ <;> omega
 obtain ⟨p, c, rfl⟩ := h.slice
 have hb : Below W.heap.size W ((W.alloc (.cells #[.pointer (some ⟨q, 0, none⟩)] 85)).alloc (.cells #[.int .i64 k, .bool b, .int .i64 n, .string (strB t), .slice pk ks.length ck, .slice pl l.length cl] 48)) := (Kac _).alloc (by simp) _
 have h1 := h.below hb
 have s2 := h.side hb (b := W.heap.size) (ob := .cells #[.pointer (some ⟨q, 0, none⟩)] 85 (0, 0)) (Nat.le_refl _) (by simp only [Kaf, World.size_alloc]; rw [if_neg (by omega), if_pos trivial])
 have s3 := h.side hb (b := W.heap.size + 1) (ob := .cells #[.int .i64 k, .bool b, .int .i64 n, .string (strB t), .slice pk ks.length ck, .slice pl l.length cl] 48 (0, 0)) (by omega) (by simp only [Kaf, World.size_alloc]; rw [if_pos trivial])
 have hml : m.length ≤ 1000000000000 := by omega
 have HB := yh (And.intro hb (And.intro h1 (And.intro s2 s3)))
 have HW := yh hwf
 have HL := yh hl
 have HI := yh ih
 have HK := yh hk1
 have HV := yh hl1
 have hf0 : ∀ W' : World, (Instr.fieldAt 48 (.pointer (some ⟨W.heap.size + 1, 0, none⟩)) 0).run Tryz.prog W' = .ok (.pointer (some ⟨W.heap.size + 1, 0, none⟩)) W' := by intro W'; simp [go_sem]
 have HF0 := yh hf0
 clear hb h1 s2 s3 hwf hl ih hk1 hl1 hx h hf0
 go_enter Tryz.func64, Tryz.ntmps64
 go_wp2
 obtain ⟨hb, h1, s2, s3⟩ := HB.out
 have hf0 := HF0.out
 generalize hWa : (W.alloc (.cells #[.pointer (some ⟨q, 0, none⟩)] 85)).alloc (.cells #[.int .i64 k, .bool b, .int .i64 n, .string (strB t), .slice pk ks.length ck, .slice pl l.length cl] 48) = W1 at *
 clear hWa
 have hS0 : W1.drew.cell? ⟨W.heap.size, 0, none⟩ = some (.pointer (some ⟨q, 0, none⟩)) ∧ W1.drew.heap[q]? = some (.cells #[.slice p m.length c] 83 (0, 0)) ∧ W1.drew.cell? ⟨W.heap.size + 1, 0, none⟩ = some (.int .i64 k) := ⟨Kab (o := 0) s2.at_ rfl, h1.box, Kab (o := 0) s3.at_ rfl⟩
 have hbd : Below W1.heap.size W1 (W1.drew.alloc (.cells #[.int .u8 ((UInt8.ofNat k.toNat).toNat : Int)] 5)) := (Below.refl _ _).drew.alloc (Nat.le_refl _) _
 have hS1 : (W1.drew.alloc (.cells #[.int .u8 ((UInt8.ofNat k.toNat).toNat : Int)] 5)).cell? ⟨W.heap.size, 0, none⟩ = some (.pointer (some ⟨q, 0, none⟩)) ∧ (W1.drew.alloc (.cells #[.int .u8 ((UInt8.ofNat k.toNat).toNat : Int)] 5)).heap[q]? = some (.cells #[.slice p m.length c] 83 (0, 0)) ∧ (W1.drew.alloc (.cells #[.int .u8 ((UInt8.ofNat k.toNat).toNat : Int)] 5)).cell? ⟨W.heap.size + 1, 0, none⟩ = some (.int .i64 k) :=
  ⟨Kab (o := 0) (Kak hbd (Array.getElem?_eq_some_iff.1 s2.at_).1 s2.at_) rfl, Kak hbd h1.lt h1.box, Kab (o := 0) (Kak hbd (Array.getElem?_eq_some_iff.1 s3.at_).1 s3.at_) rfl⟩
 obtain ⟨p', c', W2, happ, hq2, hws, hto⟩ := h1.stepB (UInt8.ofNat k.toNat) hml 26
 have hst := put_u8s (p := p') (n := (m ++ [UInt8.ofNat k.toNat]).length) (c := c') (Kab (o := 0) hq2 rfl) (Kav (o := 0) hq2)
 have t2 := s2.to hto
 have t3 := s3.to hto
 have hsc : ∀ b, b ≠ q → (W2.setCell ⟨q, 0, none⟩ (.slice p' (m ++ [UInt8.ofNat k.toNat]).length c')).heap[b]? = W2.heap[b]? := fun b hb => Below.heap_setCell W2 ⟨q, 0, none⟩ _ b hb
 have hS2 : W2.cell? ⟨W.heap.size, 0, none⟩ = some (.pointer (some ⟨q, 0, none⟩)) ∧ W2.heap[q]? = some (.cells #[.slice p m.length c] 83 (0, 0)) ∧ W2.cell? ⟨W.heap.size + 1, 0, none⟩ = some (.int .i64 k) :=
  ⟨Kab (o := 0) ((hsc _ s2.ne).symm.trans t2.at_) rfl, hq2, Kab (o := 0) ((hsc _ s3.ne).symm.trans t3.at_) rfl⟩
 refine Kan (fun W' => W'.cell? ⟨W.heap.size, 0, none⟩ = some (.pointer (some ⟨q, 0, none⟩)) ∧ W'.heap[q]? = some (.cells #[.slice p m.length c] 83 (0, 0)) ∧ W'.cell? ⟨W.heap.size + 1, 0, none⟩ = some (.int .i64 k)) (by kernel_rfl) hS0 (fun hS => ?_)
 refine tk 0 6 (v := .pointer (some ⟨q, 0, none⟩)) rfl rfl (fun W hW => Kag rfl rfl (Kah (w := W) Tryz.underlying85 rfl hW.1)) ?_
 simp only [Act.put, sA, sZ, sS]
 refine tk 1 7 (v := .pointer (some ⟨q, 0, none⟩)) rfl rfl (fun W hW => Kag rfl rfl (Kah (w := W) Tryz.underlying85 rfl hW.1)) ?_
 simp only [Act.put, sA, sZ, sS]
 refine tk 2 8 (v := .pointer (some ⟨q, 0, none⟩)) rfl rfl (fun W hW => rfl) ?_
 simp only [Act.put, sA, sZ, sS]
 refine tk 3 9 (v := .pointer (some ⟨q, 0, none⟩)) rfl rfl (fun W hW => Kae rfl rfl (fieldW q W)) ?_
 simp only [Act.put, sA, sZ, sS]
 refine tk 4 10 (v := .slice p m.length c) rfl rfl (fun W hW => Kag rfl rfl (Kah (w := W) Tryz.underlying26 rfl (Kab (o := 0) hW.2.1 rfl))) ?_
 simp only [Act.put, sA, sZ, sS]
 refine tk 5 11 (v := .pointer (some ⟨W.heap.size + 1, 0, none⟩)) rfl rfl (fun W hW => Kae rfl rfl (hf0 W)) ?_
 simp only [Act.put, sA, sZ, sS]
 refine tk 6 12 (v := .int .i64 k) rfl rfl (fun W hW => Kag rfl rfl (Kah (w := W) Tryz.underlying44 rfl hW.2.2)) ?_
 simp only [Act.put, sA, sZ, sS]
 refine tk 7 13 (v := .int .u8 ((UInt8.ofNat k.toNat).toNat : Int)) rfl rfl (fun W hW => Kc0 rfl rfl (conv_kind hk0.1 (by omega) W)) ?_
 simp only [Act.put, sA, sZ, sS]
 have hbs := Kao (P := Tryz.prog) (w := W1.drew) (v := .int .u8 ((UInt8.ofNat k.toNat).toNat : Int)) Tryz.underlying26 Tryz.sizeOf5 Tryz.zeroValue5 rfl (by omega) (by omega)
 refine onlyRun 8 14 (v := .slice (some ⟨W1.heap.size, 0, none⟩) 1 1) rfl rfl (by kernel_rfl) rfl (Kc5 rfl rfl hbs) (.inr hS1) ?_
 simp only [Act.put, sA, sZ, sS]
 refine onlyRun 9 15 (v := .slice p' (m ++ [UInt8.ofNat k.toNat]).length c') rfl rfl (by kernel_rfl) rfl (Ked rfl rfl rfl happ) (.inr hS2) ?_
 simp only [Act.put, sA, sZ, sS]
 refine tk 10 16 (v := .pointer (some ⟨q, 0, none⟩)) rfl rfl (fun W hW => rfl) ?_
 simp only [Act.put, sA, sZ, sS]
 refine tk 11 17 (v := .pointer (some ⟨q, 0, none⟩)) rfl rfl (fun W hW => Kae rfl rfl (fieldW q W)) ?_
 simp only [Act.put, sA, sZ, sS]
 refine onlySkip 12 rfl rfl (by kernel_rfl) rfl (Kdd rfl rfl rfl hst) (.inl (by kernel_rfl)) ?_
 refine done (by kernel_rfl) ?_ _
 have fin : ∀ (rest : List UInt8) (o4 : Value) (W4 : World), valC (.mk k b n t ks l) = UInt8.ofNat k.toNat :: rest → WS 83 w W4 q (m ++ [UInt8.ofNat k.toNat] ++ rest) o4 → WTo q (.slice p' (m ++ [UInt8.ofNat k.toNat]).length c') o4 (W2.setCell ⟨q, 0, none⟩ (.slice p' (m ++ [UInt8.ofNat k.toNat]).length c')) W4 → Tells w W q m (.slice p m.length c) (valC (.mk k b n t ks l)) (.returned (.tuple #[])) W4 := by
  intro rest o4 W4 e h4 t4
  refine ⟨rfl, o4, ?_, (WTo.of_below (q := q) (o := .slice p m.length c) hb).trans (hto.trans t4)⟩
  rw [e]
  simpa using h4
 generalize hWb : W2.setCell ⟨q, 0, none⟩ (.slice p' (m ++ [UInt8.ofNat k.toNat]).length c') = W3 at *
 generalize hob : Value.slice p' (m ++ [UInt8.ofNat k.toNat]).length c' = o3 at *
 have c2 := Kab (o := 0) t2.at_ rfl
 have c30 := Kab (o := 0) t3.at_ rfl
 have c31 := Kab (o := 1) t3.at_ rfl
 have c32 := Kab (o := 2) t3.at_ rfl
 have c33 := Kab (o := 3) t3.at_ rfl
 have c35 := Kab (o := 5) t3.at_ rfl
 have FIN := yh fin
 have HT := yh (And.intro hws (And.intro t2 t3))
 have hwf := HW.out
 clear hWb hob hS hS0 hS1 hS2 hbs hbd happ hq2 hst hsc fin hws t2 t3 hto s2 s3 h1 hb hf0 HF0 HB HW
 have hl := HL.out
 rcases hwf with ⟨rfl, rfl, rfl, rfl, rfl, rfl⟩ | ⟨rfl, rfl, rfl, rfl, rfl⟩ | ⟨rfl, rfl, g1, rfl, rfl, rfl⟩ | ⟨rfl, rfl, rfl, g1, rfl, rfl⟩ | ⟨rfl, rfl, rfl, rfl, rfl, g1, g2⟩ | ⟨rfl, rfl, rfl, rfl, g1, g2, g3, g4⟩ | ⟨hk, rfl, g1, rfl, rfl, rfl⟩
 ·clear hl c31 c32 c33 c35
  go_wp2
  go_end0
  exact FIN.out [] o3 W3 (by rw [valC]; rfl) (by simpa using HT.out.1) (WTo.refl _ _ _)
 ·clear c32 c33 c35
  have e1 : valC (.mk 1 b 0 [] [] []) = UInt8.ofNat (1 : Int).toNat :: numB (if b then 1 else 0) := by rw [valC, if_pos rfl]; cases b <;> (rw [Kbv (by decide)]; rfl)
  have hmm := @run_makeMap Tryz.prog
  have hin := insert_tu (w := W3.alloc (.map #[] 0)) (b := W3.heap.size) (heap_alloc_new _ _)
  have hbm : Below W3.heap.size W3 ((W3.alloc (.map #[] 0)).putObj W3.heap.size (.map #[{ key := .bool true, val := .int .u64 1, born := 0 }] 1)) := Kc3 (Kac _) (Nat.le_refl _)
  have hlk := fun a => lookup_tu (w := (W3.alloc (.map #[] 0)).putObj W3.heap.size (.map #[{ key := .bool true, val := .int .u64 1, born := 0 }] 1)) (b := W3.heap.size) (clk := 1) (Kd9 (heap_alloc_new _ _)) a
  generalize (W3.alloc (.map #[] 0)).putObj W3.heap.size (.map #[{ key := .bool true, val := .int .u64 1, born := 0 }] 1) = W4 at *
  have d2 := Kam hbm (ltOf c2) c2
  have d31 := Kam hbm (ltOf c31) c31
  have HN := yh (Ka0 (n := if b then 1 else 0) (by cases b <;> decide) (HT.out.1.below hbm) (by rw [List.length_append]; simp; omega))
  have HBM := yh (WTo.of_below (q := q) (o := o3) hbm)
  clear hl c31 hbm
  cases b
  ·have hl0 := hlk false
   clear hlk
   go_wp2_with (go_at_call 42; refine HN.out.mono ?_; rintro e W5 ⟨rfl, o4, h4, t4⟩; have HE := yh (And.intro h4 (HBM.out.trans t4)); clear h4 t4 HN)
   go_end0
   exact FIN.out _ o4 _ e1 HE.out.1 HE.out.2
  ·have hl0 := hlk true
   clear hlk
   go_wp2_with (go_at_call 42; refine HN.out.mono ?_; rintro e W5 ⟨rfl, o4, h4, t4⟩; have HE := yh (And.intro h4 (HBM.out.trans t4)); clear h4 t4 HN)
   go_end0
   exact FIN.out _ o4 _ e1 HE.out.1 HE.out.2
 ·have e1 : valC (.mk 2 false n [] [] []) = UInt8.ofNat (2 : Int).toNat :: numB (zzN n) := by rw [valC, if_neg (by decide), if_pos rfl]
  have HN := yh (Kdm g1 HT.out.1 (by rw [e1] at hl; simp only [List.length_append, List.length_cons, List.length_nil] at *; omega))
  clear hl c31 c33 c35
  go_wp2_with (go_at_call 116; refine HN.out.mono ?_; rintro e W4 ⟨rfl, o4, h4, t4⟩; have HE := yh (And.intro h4 t4); clear h4 t4 HN)
  go_end0
  exact FIN.out _ o4 _ e1 HE.out.1 HE.out.2
 ·have e1 : valC (.mk 3 false 0 t [] []) = UInt8.ofNat (3 : Int).toNat :: textC t := by rw [valC, if_neg (by decide), if_neg (by decide), if_pos rfl]
  have htl : (textC t).length = (numB t.length).length + t.length := by unfold textC; rw [List.length_append]
  have HN := yh (wtext_any (s := t) HT.out.1 (by rw [e1] at hl; simp only [List.length_append, List.length_cons, List.length_nil] at *; omega))
  clear hl c31 c32 c35 htl
  go_wp2_with (go_at_call 96; refine HN.out.mono ?_; rintro e W4 ⟨rfl, o4, h4, t4⟩; have HE := yh (And.intro h4 t4); clear h4 t4 HN)
  go_end0
  exact FIN.out _ o4 _ e1 HE.out.1 HE.out.2
 ·have e1 : valC (.mk 4 false 0 [] [] l) = UInt8.ofNat (4 : Int).toNat :: rowsC valC l := by rw [valC, if_neg (by decide), if_neg (by decide), if_neg (by decide), if_pos rfl, rows_vals]
  have HN := yh (rowV_tells ef_val valC HV.out.grd HT.out.1 (by rw [e1] at hl; simp only [List.length_append, List.length_cons, List.length_nil] at *; omega) (fun x hx m o W cs hw hF hm => HI.out x hx d (g2 x hx) W q m o cs hF hw hm))
  clear hl c31 c32 c33
  go_wp2_with (go_at_call 117; refine HN.out.mono ?_; rintro e W4 ⟨rfl, o4, h4, t4⟩; have HE := yh (And.intro h4 t4); clear h4 t4 HN)
  go_end0
  exact FIN.out _ o4 _ e1 HE.out.1 HE.out.2
 ·have e1 : valC (.mk 5 false 0 [] ks l) = UInt8.ofNat (5 : Int).toNat :: rowsC (fun p : List UInt8 × V => textC p.1 ++ valC p.2) (ks.zip l) := by rw [valC, if_neg (by decide), if_neg (by decide), if_neg (by decide), if_neg (by decide), if_pos rfl, rows_pairs g1]
  have hz : (ks.zip l).length = l.length := by simp; omega
  have hbn := Kac (w := W3) (.cells #[.int .i64 0] 3)
  have hm0 : MapJ q #[.int .i64 5, .bool false, .int .i64 0, .string (strB []), .slice pk ks.length ck, .slice pl l.length cl] W.heap.size (W.heap.size + 1) W3.heap.size W3 o3 0 (W3.alloc (.cells #[.int .i64 0] 3)) o3 :=
   ⟨HT.out.2.1.to (WTo.of_below hbn), HT.out.2.2.to (WTo.of_below hbn), HT.out.1.side hbn (Nat.le_refl _) (heap_alloc_new W3 _), ⟨by have := (Array.getElem?_eq_some_iff.1 HT.out.2.1.at_).1; omega, by have := (Array.getElem?_eq_some_iff.1 HT.out.2.2.at_).1; omega⟩, WTo.of_below hbn, Nat.le_refl _⟩
  have hrow := rowM_any ef_pair (fun p : List UInt8 × V => textC p.1 ++ valC p.2) (a1 := some ⟨W.heap.size, 0, none⟩) (a2 := some ⟨W.heap.size + 1, 0, none⟩) (a3 := some ⟨W3.heap.size, 0, none⟩) (zip_grd HV.out g1) (HT.out.1.below hbn) (by rw [e1] at hl; simp only [List.length_append, List.length_cons, List.length_nil] at *; omega)
   (fun j W' o' => MapJ q #[.int .i64 5, .bool false, .int .i64 0, .string (strB []), .slice pk ks.length ck, .slice pl l.length cl] W.heap.size (W.heap.size + 1) W3.heap.size W3 o3 j W' o') (fun j W1 W2 o1 o2 h1 h2 => h1.step h2) hm0
   (fun j hj m o W' cs hJ hw hF hm => by
     have e : (ks.zip l)[j] = (ks[j]'(by simp at hj; omega), l[j]'(by simp at hj; omega)) := List.getElem_zip
     rw [e] at hF hm ⊢
     exact wpair_any hJ hw hF (HI.out _ (List.getElem_mem _)) (g4 _ (List.getElem_mem _)) HK.out _ hm HT.out.1.b.size)
  rw [hz] at hrow
  have HN := yh hrow
  have b2 := Kam hbn (ltOf c2) c2
  have b5 := Kam hbn (ltOf c35) c35
  clear hl c31 c32 c33 hrow hm0 hbn
  go_wp2_with (go_at_call 117; refine HN.out.mono ?_; rintro e W4 ⟨rfl, o4, h4, t4⟩; have HE := yh (And.intro h4 t4.tw); clear h4 t4 HN)
  go_end0
  exact FIN.out _ o4 _ e1 HE.out.1 HE.out.2
 ·rcases hk with rfl | rfl
  ·have e1 : valC (.mk 6 false n [] [] []) = UInt8.ofNat (6 : Int).toNat :: numB (toU n) := by rw [valC, if_neg (by decide), if_neg (by decide), if_neg (by decide), if_neg (by decide), if_neg (by decide), if_pos (by decide)]
   have hu := Kcy g1
   have HN := yh (Ka0 (n := toU n) (Kbu g1).1 HT.out.1 (by rw [e1] at hl; simp only [List.length_append, List.length_cons, List.length_nil] at *; omega))
   clear hl c31 c33 c35
   go_wp2_with (go_at_call 42; refine HN.out.mono ?_; rintro e W4 ⟨rfl, o4, h4, t4⟩; have HE := yh (And.intro h4 t4); clear h4 t4 HN)
   go_end0
   exact FIN.out _ o4 _ e1 HE.out.1 HE.out.2
  ·have e1 : valC (.mk 7 false n [] [] []) = UInt8.ofNat (7 : Int).toNat :: numB (toU n) := by rw [valC, if_neg (by decide), if_neg (by decide), if_neg (by decide), if_neg (by decide), if_neg (by decide), if_pos (by decide)]
   have hu := Kcy g1
   have HN := yh (Ka0 (n := toU n) (Kbu g1).1 HT.out.1 (by rw [e1] at hl; simp only [List.length_append, List.length_cons, List.length_nil] at *; omega))
   clear hl c31 c33 c35
   go_wp2_with (go_at_call 42; refine HN.out.mono ?_; rintro e W4 ⟨rfl, o4, h4, t4⟩; have HE := yh (And.intro h4 t4); clear h4 t4 HN)
   go_end0
   exact FIN.out _ o4 _ e1 HE.out.1 HE.out.2
theorem wvalue_any (w : World) : WVal w := by
 refine V.ind ?_
 intro k b n t ks l ih
 exact wvalue_of ih
theorem rowP_any {α : Type} {F : World → α → Array Value → Prop} (hF : EF F 7) (en : α → List UInt8) {l : List α} {w W : World} {q : Nat} {m : List UInt8} {o : Value} {p : Option Addr} {c : Nat}
 (hrd : GRd F 7 w p c l) (h : WS 83 w W q m o) (hlen : m.length + (rowsC en l).length ≤ 1000000000000)
 (J : Nat → World → Value → Prop) (hJ : ∀ j W W' o o', J j W o → WTo q o o' W W' → J j W' o') (h0 : J 0 W o)
 (one : ∀ j (hj : j < l.length) m o W cs, J j W o → WS 83 w W q m o → F w l[j] cs → m.length + (en l[j]).length ≤ 1000000000000 → Calls Tryz.prog 98 #[.pointer (some ⟨q, 0, none⟩), .agg cs] W fun e W' => e = .returned (.tuple #[]) ∧ ∃ o', WS 83 w W' q (m ++ en l[j]) o' ∧ J (j + 1) W' o') :
 Calls Tryz.prog 97 #[.pointer (some ⟨q, 0, none⟩), .slice p l.length c, (.func (.func 98) #[.pointer (some ⟨q, 0, none⟩)] #[])] W fun e W' => e = .returned (.tuple #[]) ∧ ∃ o', WS 83 w W' q (m ++ rowsC en l) o' ∧ J l.length W' o' := by
 have z1 : (l.length : Int) ≤ 140737488355328 := by have := hrd.1.2.1; omega
 have hu : toU (l.length : Int) = l.length := by unfold toU; rw [if_neg (by omega)]; simp
 have hnum := Ka0 (n := l.length) (by omega) h (by omega)
 have HN := yh hnum
 have HJ := yh hJ
 have HO := yh one
 have HR := yh hrd
 have HL := yh hlen
 have H0 := yh h0
 clear hnum hJ one hrd hlen h0 hu h
 go_enter Tryz.func97, Tryz.ntmps97
 go_wp2_with (go_at_call 42; refine HN.out.mono ?_; rintro e W1 ⟨rfl, o1, h1, t1⟩; have H1 := yh (And.intro h1 (HJ.out _ _ _ _ _ H0.out t1)); clear h1 t1)
 go_loopw [15] (fun i wr => ∃ j : Nat, j ≤ l.length ∧ i = .int .i64 (j : Int) ∧ Hid (∃ o, WS 83 w wr q (m ++ numB l.length ++ (l.take j).flatMap en) o ∧ J j wr o)) (fun i _ => l.length - (intOf i).toNat)
 case atStart => exact ⟨0, Nat.zero_le _, rfl, yh ⟨o1, by simpa using H1.out.1, H1.out.2⟩⟩
 case round =>
  obtain ⟨j, hj, rfl, HI⟩ := hrel
  obtain ⟨o2, h2, j2⟩ := HI.out
  by_cases hlt : j < l.length
  ·have hlt1 : j + 1 ≤ l.length := hlt
   obtain ⟨b, of, cs, rfl, hs, hc, hv⟩ := HR.out.get hlt
   have hones := hF.ones hv
   have hL1 := StT.load Kdk hs (fun i u hu => Kam h2.b (ltOf (hc i u hu)) (hc i u hu)) (W := wr)
   have hS := StT.fresh Kdk hs hones (W := wr)
   have hL2 := StT.get Kdk hs (heap_alloc_new wr (.cells cs 136))
   have hbn := Kac (w := wr) (.cells cs 136)
   have h3 := h2.below hbn
   have hst := Kc1 (e := en) hlt
   have hle : (m ++ numB l.length ++ (l.take j).flatMap en).length + (en l[j]).length ≤ 1000000000000 := by
    have e1 : (l.flatMap en).length = ((l.take (j + 1)).flatMap en).length + ((l.drop (j + 1)).flatMap en).length := by
     rw [← List.length_append, ← List.flatMap_append, List.take_append_drop]
    have := HL.out
    unfold rowsC at this
    rw [hst] at e1
    simp only [List.length_append] at *
    omega
   have hone := HO.out j hlt _ _ _ cs (HJ.out _ _ _ _ _ j2 (WTo.of_below hbn)) h3 hv hle
   rw [List.append_assoc _ _ (en l[j]), ← hst] at hone
   have HL1 := yh hL1
   have HS := yh hS
   have HL2 := yh hL2
   have HC := yh hone
   clear hc hones hL1 hS hL2 hbn h3 hst hle hone HI h2 j2 hv H1 HN H0 HL
   go_wp2_with (first
    | (refine Kau rfl _ _ _ rfl rfl HL1.out ?_; clear HL1)
    | (refine Kaq rfl _ _ _ _ rfl rfl rfl (HS.out _ rfl) ?_; clear HS)
    | (refine Kau rfl _ _ _ rfl rfl HL2.out ?_; clear HL2)
    | (go_at_call 98; refine HC.out.mono ?_; rintro e W2 ⟨rfl, hw2⟩; have HW2 := yh hw2; clear hw2 HC))
   go_roundw
   case rel => exact ⟨j + 1, hlt1, by go_num, HW2⟩
   case measure => simp [intOf]; omega
  ·obtain rfl : j = l.length := by omega
   have HF := yh (show ∃ o', WS 83 w wr q (m ++ rowsC en l) o' ∧ J l.length wr o' from ⟨o2, by rw [← rows_at, ← List.append_assoc]; exact h2, j2⟩)
   clear HI h2 j2 H1 HN H0 HL
   go_wp2
   go_end0
   exact ⟨rfl, HF.out⟩
theorem rowP_tells {α : Type} {F : World → α → Array Value → Prop} (hF : EF F 7) (en : α → List UInt8) {l : List α} {w W : World} {q : Nat} {m : List UInt8} {o : Value} {p : Option Addr} {c : Nat}
 (hrd : GRd F 7 w p c l) (h : WS 83 w W q m o) (hlen : m.length + (rowsC en l).length ≤ 1000000000000)
 (one : ∀ x ∈ l, ∀ m o W cs, WS 83 w W q m o → F w x cs → m.length + (en x).length ≤ 1000000000000 → Calls Tryz.prog 98 #[.pointer (some ⟨q, 0, none⟩), .agg cs] W (Tells w W q m o (en x))) :
 Calls Tryz.prog 97 #[.pointer (some ⟨q, 0, none⟩), .slice p l.length c, (.func (.func 98) #[.pointer (some ⟨q, 0, none⟩)] #[])] W (Tells w W q m o (rowsC en l)) := by
 refine (rowP_any hF en hrd h hlen (fun _ W' o' => WTo q o o' W W') (fun j W1 W2 o1 o2 h1 h2 => h1.trans h2) (WTo.refl q o W) ?_).mono ?_
 ·intro j hj m o1 W1 cs h1 h2 h3 h4
  refine (one _ (List.getElem_mem hj) m o1 W1 cs h2 h3 h4).mono ?_
  rintro e W2 ⟨rfl, o2, h5, h6⟩
  exact ⟨rfl, o2, h5, h1.trans h6⟩
 ·rintro e W' ⟨rfl, o', h1, h2⟩
  exact ⟨rfl, o', h1, h2⟩
theorem rowN_any {α : Type} {F : World → α → Array Value → Prop} (hF : EF F 3) (en : α → List UInt8) {l : List α} {w W : World} {q : Nat} {m : List UInt8} {o : Value} {p : Option Addr} {c : Nat}
 (hrd : GRd F 3 w p c l) (h : WS 83 w W q m o) (hlen : m.length + (rowsC en l).length ≤ 1000000000000)
 (J : Nat → World → Value → Prop) (hJ : ∀ j W W' o o', J j W o → WTo q o o' W W' → J j W' o') (h0 : J 0 W o)
 (one : ∀ j (hj : j < l.length) m o W cs, J j W o → WS 83 w W q m o → F w l[j] cs → m.length + (en l[j]).length ≤ 1000000000000 → Calls Tryz.prog 39 #[.pointer (some ⟨q, 0, none⟩), .agg cs] W fun e W' => e = .returned (.tuple #[]) ∧ ∃ o', WS 83 w W' q (m ++ en l[j]) o' ∧ J (j + 1) W' o') :
 Calls Tryz.prog 38 #[.pointer (some ⟨q, 0, none⟩), .slice p l.length c, (.func (.func 39) #[.pointer (some ⟨q, 0, none⟩)] #[])] W fun e W' => e = .returned (.tuple #[]) ∧ ∃ o', WS 83 w W' q (m ++ rowsC en l) o' ∧ J l.length W' o' := by
 have z1 : (l.length : Int) ≤ 140737488355328 := by have := hrd.1.2.1; omega
 have hu : toU (l.length : Int) = l.length := by unfold toU; rw [if_neg (by omega)]; simp
 have hnum := Ka0 (n := l.length) (by omega) h (by omega)
 have HN := yh hnum
 have HJ := yh hJ
 have HO := yh one
 have HR := yh hrd
 have HL := yh hlen
 have H0 := yh h0
 clear hnum hJ one hrd hlen h0 hu h
 go_enter Tryz.func38, Tryz.ntmps38
 go_wp2_with (go_at_call 42; refine HN.out.mono ?_; rintro e W1 ⟨rfl, o1, h1, t1⟩; have H1 := yh (And.intro h1 (HJ.out _ _ _ _ _ H0.out t1)); clear h1 t1)
 go_loopw [15] (fun i wr => ∃ j : Nat, j ≤ l.length ∧ i = .int .i64 (j : Int) ∧ Hid (∃ o, WS 83 w wr q (m ++ numB l.length ++ (l.take j).flatMap en) o ∧ J j wr o)) (fun i _ => l.length - (intOf i).toNat)
 case atStart => exact ⟨0, Nat.zero_le _, rfl, yh ⟨o1, by simpa using H1.out.1, H1.out.2⟩⟩
 case round =>
  obtain ⟨j, hj, rfl, HI⟩ := hrel
  obtain ⟨o2, h2, j2⟩ := HI.out
  by_cases hlt : j < l.length
  ·have hlt1 : j + 1 ≤ l.length := hlt
   obtain ⟨b, of, cs, rfl, hs, hc, hv⟩ := HR.out.get hlt
   have hones := hF.ones hv
   have hL1 := StT.load Kct hs (fun i u hu => Kam h2.b (ltOf (hc i u hu)) (hc i u hu)) (W := wr)
   have hS := StT.fresh Kct hs hones (W := wr)
   have hL2 := StT.get Kct hs (heap_alloc_new wr (.cells cs 70))
   have hbn := Kac (w := wr) (.cells cs 70)
   have h3 := h2.below hbn
   have hst := Kc1 (e := en) hlt
   have hle : (m ++ numB l.length ++ (l.take j).flatMap en).length + (en l[j]).length ≤ 1000000000000 := by
    have e1 : (l.flatMap en).length = ((l.take (j + 1)).flatMap en).length + ((l.drop (j + 1)).flatMap en).length := by
     rw [← List.length_append, ← List.flatMap_append, List.take_append_drop]
    have := HL.out
    unfold rowsC at this
    rw [hst] at e1
    simp only [List.length_append] at *
    omega
   have hone := HO.out j hlt _ _ _ cs (HJ.out _ _ _ _ _ j2 (WTo.of_below hbn)) h3 hv hle
   rw [List.append_assoc _ _ (en l[j]), ← hst] at hone
   have HL1 := yh hL1
   have HS := yh hS
   have HL2 := yh hL2
   have HC := yh hone
   clear hc hones hL1 hS hL2 hbn h3 hst hle hone HI h2 j2 hv H1 HN H0 HL
   go_wp2_with (first
    | (refine Kau rfl _ _ _ rfl rfl HL1.out ?_; clear HL1)
    | (refine Kaq rfl _ _ _ _ rfl rfl rfl (HS.out _ rfl) ?_; clear HS)
    | (refine Kau rfl _ _ _ rfl rfl HL2.out ?_; clear HL2)
    | (go_at_call 39; refine HC.out.mono ?_; rintro e W2 ⟨rfl, hw2⟩; have HW2 := yh hw2; clear hw2 HC))
   go_roundw
   case rel => exact ⟨j + 1, hlt1, by go_num, HW2⟩
   case measure => simp [intOf]; omega
  ·obtain rfl : j = l.length := by omega
   have HF := yh (show ∃ o', WS 83 w wr q (m ++ rowsC en l) o' ∧ J l.length wr o' from ⟨o2, by rw [← rows_at, ← List.append_assoc]; exact h2, j2⟩)
   clear HI h2 j2 H1 HN H0 HL
   go_wp2
   go_end0
   exact ⟨rfl, HF.out⟩
theorem rowN_tells {α : Type} {F : World → α → Array Value → Prop} (hF : EF F 3) (en : α → List UInt8) {l : List α} {w W : World} {q : Nat} {m : List UInt8} {o : Value} {p : Option Addr} {c : Nat}
 (hrd : GRd F 3 w p c l) (h : WS 83 w W q m o) (hlen : m.length + (rowsC en l).length ≤ 1000000000000)
 (one : ∀ x ∈ l, ∀ m o W cs, WS 83 w W q m o → F w x cs → m.length + (en x).length ≤ 1000000000000 → Calls Tryz.prog 39 #[.pointer (some ⟨q, 0, none⟩), .agg cs] W (Tells w W q m o (en x))) :
 Calls Tryz.prog 38 #[.pointer (some ⟨q, 0, none⟩), .slice p l.length c, (.func (.func 39) #[.pointer (some ⟨q, 0, none⟩)] #[])] W (Tells w W q m o (rowsC en l)) := by
 refine (rowN_any hF en hrd h hlen (fun _ W' o' => WTo q o o' W W') (fun j W1 W2 o1 o2 h1 h2 => h1.trans h2) (WTo.refl q o W) ?_).mono ?_
 ·intro j hj m o1 W1 cs h1 h2 h3 h4
  refine (one _ (List.getElem_mem hj) m o1 W1 cs h2 h3 h4).mono ?_
  rintro e W2 ⟨rfl, o2, h5, h6⟩
  exact ⟨rfl, o2, h5, h1.trans h6⟩
 ·rintro e W' ⟨rfl, o', h1, h2⟩
  exact ⟨rfl, o', h1, h2⟩
theorem take_len {α : Type} (en : α → List UInt8) {l : List α} {m : List UInt8} {n j : Nat} (h : j < l.length) (hl : m.length + (rowsC en l).length ≤ n) : (m ++ numB l.length ++ (l.take j).flatMap en).length + (en l[j]).length ≤ n := by
 have hst := Kc1 (e := en) h
 have e1 : (l.flatMap en).length = ((l.take (j + 1)).flatMap en).length + ((l.drop (j + 1)).flatMap en).length := by
  rw [← List.length_append, ← List.flatMap_append, List.take_append_drop]
 unfold rowsC at hl
 rw [hst] at e1
 simp only [List.length_append] at *
 omega
theorem rowS_tells {l : List (List UInt8)} {w W : World} {q : Nat} {m : List UInt8} {o : Value} {p : Option Addr} {c : Nat}
 (hrd : RdS w p c l) (h : WS 83 w W q m o) (hlen : m.length + (rowsC textC l).length ≤ 1000000000000) :
 Calls Tryz.prog 95 #[.pointer (some ⟨q, 0, none⟩), .slice p l.length c, .func (.func 96) #[.pointer (some ⟨q, 0, none⟩)] #[]] W (Tells w W q m o (rowsC textC l)) := by
 have z1 : (l.length : Int) ≤ 140737488355328 := by have := hrd.2.1.1; omega
 have hnum := Ka0 (n := l.length) (by omega) h (by omega)
 have HN := yh hnum
 have HR := yh hrd
 have HL := yh hlen
 clear hnum hrd hlen h
 go_enter Tryz.func95, Tryz.ntmps95
 go_wp2_with (go_at_call 42; refine HN.out.mono ?_; rintro e W1 ⟨rfl, o1, h1, t1⟩; have H1 := yh (And.intro h1 t1); clear h1 t1)
 go_loopw [15] (fun i wr => ∃ j : Nat, j ≤ l.length ∧ i = .int .i64 (j : Int) ∧ Hid (∃ o', WS 83 w wr q (m ++ numB l.length ++ (l.take j).flatMap textC) o' ∧ WTo q o o' W wr)) (fun i _ => l.length - (intOf i).toNat)
 case atStart => exact ⟨0, Nat.zero_le _, rfl, yh ⟨o1, by simpa using H1.out.1, H1.out.2⟩⟩
 case round =>
  obtain ⟨j, hj, rfl, HI⟩ := hrel
  obtain ⟨o2, h2, j2⟩ := HI.out
  by_cases hlt : j < l.length
  ·have hlt1 : j + 1 ≤ l.length := hlt
   obtain ⟨b, of, rfl, hc, hcl⟩ := (HR.out.below h2.b).get hlt
   have hst := Kc1 (e := textC) hlt
   have hle := take_len textC hlt HL.out
   have hone := wtext_any h2 (s := l[j]) (by have htl : (textC l[j]).length = (numB l[j].length).length + l[j].length := (by unfold textC; rw [List.length_append]); omega)
   have hap : m ++ numB l.length ++ (l.take j).flatMap textC ++ textC l[j] = m ++ numB l.length ++ (l.take (j + 1)).flatMap textC := by rw [hst, List.append_assoc _ _ (textC l[j])]
   unfold Tells at hone
   rw [hap] at hone
   generalize l[j] = s at *
   have HC := yh hone
   have HT := yh j2
   clear hst hle hone HI h2 j2 H1 HN HL hcl hap
   go_wp2_with (go_at_call 96; refine HC.out.mono ?_; rintro e W2 ⟨rfl, o3, h3, t3⟩; have HW2 := yh (And.intro h3 (HT.out.trans t3)); clear h3 t3 HC)
   go_roundw
   case rel => exact ⟨j + 1, hlt1, by go_num, yh ⟨o3, HW2.out⟩⟩
   case measure => simp [intOf]; omega
  ·obtain rfl : j = l.length := by omega
   have HF := yh (show ∃ o', WS 83 w wr q (m ++ rowsC textC l) o' ∧ WTo q o o' W wr from ⟨o2, by rw [← rows_at, ← List.append_assoc]; exact h2, j2⟩)
   clear HI h2 j2 H1 HN HL
   go_wp2
   go_end0
   exact ⟨rfl, HF.out⟩
theorem wprop_any {w W : World} (hval : WVal w) {p : PropD} (hwf : wfP p) {q : Nat} {l : List UInt8} {o : Value} {x : Array Value} (hx : PRd w p x) (h : WS 83 w W q l o) (hl : l.length + (propC p).length ≤ 1000000000000) :
 Calls Tryz.prog 98 #[.pointer (some ⟨q, 0, none⟩), .agg x] W (Tells w W q l o (propC p)) := by
 obtain ⟨y, hxy, hk, hv⟩ := hx
 unfold propC at hl ⊢
 rw [List.length_append] at hl
 have hb := Kac (w := W) (.cells x 136)
 have hbx : (W.alloc (.cells x 136)).heap[W.heap.size]? = some (.cells x 136 (0, 0)) := heap_alloc_new W _
 have h1 := h.below hb
 have hq : W.heap.size ≠ q := fun e => by have := h.lt; omega
 have ho : o.ownBlock ≠ some W.heap.size := fun e => by have := h.own_lt e; omega
 have hk0 : x[0]? = some (.string (strB p.key)) := by rw [hxy, Array.getElem?_append_left (by simp)]; rfl
 have hkx : ∀ (i : Nat) (u : Value), y[i]? = some u → x[1 + i]? = some u := fun i u hu => by rw [hxy, Array.getElem?_append_right (by simp)]; simpa using hu
 have hlen : (textC p.key).length = (numB p.key.length).length + p.key.length := by unfold textC; rw [List.length_append]
 have HT := yh (wtext_any h1 (s := p.key) (by omega))
 have HK := yh (Kah (P := Tryz.prog) (w := W.alloc (.cells x 136)) Tryz.underlying9 rfl (Kab (o := 0) hbx hk0))
 have HB := yh (And.intro hb (And.intro hbx (And.intro h1 (And.intro hq ho))))
 have HX := yh hkx
 have HV := yh hv
 clear hb hbx h1 hq ho hk0 hkx hxy hlen h
 go_enter Tryz.func98, Tryz.ntmps98
 go_wp2_with (first
  | (refine Kau rfl _ _ _ rfl rfl HK.out ?_; clear HK)
  | (go_at_call 96; refine HT.out.mono ?_; rintro e W2 ⟨rfl, o2, h2, t2⟩
     (
      obtain ⟨hb, hbx, h1, hq, ho⟩ := HB.out
      have hbx2 := t2.box h1 hbx hq ho
      have HL := yh (StT.load Kbo (g := W.heap.size) (o := 1) (ef_val.size HV.out) (fun i u hu => Kab hbx2 (HX.out i u hu)))
      have HC := yh (hval.at p.val hwf.2 HV.out h2 (by rw [List.length_append]; omega))
      have HF := yh ((WTo.of_below (q := q) (o := o) hb).trans t2)
      clear hb hbx h1 hq ho hbx2 h2 t2 HT HB))
  | (refine Kau rfl _ _ _ rfl rfl HL.out ?_; clear HL)
  | (go_at_call 64; refine HC.out.mono ?_; rintro e W3 ⟨rfl, o3, h3, t3⟩; have HE := yh (And.intro h3 (HF.out.trans t3)); clear h3 t3 HC))
 go_end0
 refine ⟨rfl, o3, ?_, HE.out.2⟩
 rw [← List.append_assoc]
 exact HE.out.1
theorem wnode_any {w W : World} (hval : WVal w) {n : NodeD} (hwf : wfN n) {q : Nat} {l : List UInt8} {o : Value} {x : Array Value} (hx : NRd w n x) (h : WS 83 w W q l o) (hl : l.length + (nodeC n).length ≤ 1000000000000) :
 Calls Tryz.prog 39 #[.pointer (some ⟨q, 0, none⟩), .agg x] W (Tells w W q l o (nodeC n)) := by
 obtain ⟨pl, cl, pp, cp, rfl, hls, hps⟩ := hx
 obtain ⟨hid, hwl, hwp⟩ := hwf
 unfold nodeC at hl ⊢
 simp only [List.length_append] at hl
 have hb := Kac (w := W) (.cells #[.int .i64 n.id, .slice pl n.labels.length cl, .slice pp n.props.length cp] 70)
 have hbx : (W.alloc (.cells #[.int .i64 n.id, .slice pl n.labels.length cl, .slice pp n.props.length cp] 70)).heap[W.heap.size]? = some (.cells #[.int .i64 n.id, .slice pl n.labels.length cl, .slice pp n.props.length cp] 70 (0, 0)) := heap_alloc_new W _
 have h1 := h.below hb
 have hq : W.heap.size ≠ q := fun e => by have := h.lt; omega
 have ho : o.ownBlock ≠ some W.heap.size := fun e => by have := h.own_lt e; omega
 have hlt : W.heap.size < (W.alloc (.cells #[.int .i64 n.id, .slice pl n.labels.length cl, .slice pp n.props.length cp] 70)).heap.size := by simp
 have hu : ((IntKind.u64.wrap n.id : Int)) = (toU n.id : Int) := Kcy hid
 have HN := yh (Ka0 (n := toU n.id) (Kbu hid).1 h1 (by omega))
 have HB := yh (And.intro hb (And.intro hbx (And.intro h1 (And.intro hq (And.intro ho hlt)))))
 have HS := yh hls
 have HP := yh hps
 have HW := yh hwp
 clear hb hbx h1 hq ho hlt hls hps hwp hwl h
 go_enter Tryz.func39, Tryz.ntmps39
 go_wp2_with (first
  | (go_at_call 42; refine HN.out.mono ?_; rintro e W2 ⟨rfl, o2, h2, t2⟩
     (
      obtain ⟨hb, hbx, h1, hq, ho, hlt⟩ := HB.out
      have hbx2 := t2.box h1 hbx hq ho
      have ho2 := t2.not hlt ho
      have HL1 := Kab (o := 1) hbx2 rfl
      have HR1 := yh (rowS_tells HS.out h2 (by rw [List.length_append]; omega))
      have HF := yh (And.intro ((WTo.of_below (q := q) (o := o) hb).trans t2) (And.intro hbx2 (And.intro h2 (And.intro hq ho2))))
      clear hb hbx h1 hq ho hbx2 h2 t2 HN HB hlt ho2))
  | (go_at_call 95; refine HR1.out.mono ?_; rintro e W3 ⟨rfl, o3, h3, t3⟩
     (
      obtain ⟨t2, hbx2, h2, hq, ho2⟩ := HF.out
      have hbx3 := t3.box h2 hbx2 hq ho2
      have HL2 := Kab (o := 2) hbx3 rfl
      have HR2 := yh (rowP_tells ef_prop propC HP.out h3 (by simp only [List.length_append]; omega) (fun p hp m o W cs hw hF hm => wprop_any hval (HW.out.2 p hp) hF hw hm))
      have HG := yh (t2.trans t3)
      clear t2 hbx2 h2 hq ho2 HF HR1 hbx3 h3 t3 HL1))
  | (go_at_call 97; refine HR2.out.mono ?_; rintro e W4 ⟨rfl, o4, h4, t4⟩; have HE := yh (And.intro h4 (HG.out.trans t4)); clear h4 t4 HR2))
 go_end0
 refine ⟨rfl, o4, ?_, HE.out.2⟩
 rw [← List.append_assoc, ← List.append_assoc]
 exact HE.out.1
def relNs (r : RelD) : List Int := [r.id, r.src, r.dst]
def numsC (l : List Int) : List UInt8 := l.flatMap fun n => numB (toU n)
theorem numsC_len {l : List Int} (h : ∀ n ∈ l, i64T n) : (numsC l).length ≤ 10 * l.length := by
 unfold numsC
 induction l with
 | nil => simp
 | cons a l ih =>
   have := Kbj (Kbu (h a (by simp))).1
   have := ih fun n hn => h n (by simp [hn])
   simp only [List.flatMap_cons, List.length_append, List.length_cons]
   omega
theorem relC_eq (r : RelD) : relC r = numsC (relNs r) ++ (textC r.type ++ rowsC propC r.props) := by
 unfold relC numsC relNs
 simp
theorem wfR_ns {r : RelD} (h : wfR r) : ∀ n ∈ relNs r, i64T n := by
 unfold relNs
 intro n hn
 simp only [List.mem_cons, List.not_mem_nil, or_false] at hn
 rcases hn with rfl | rfl | rfl
 ·exact h.1
 ·exact h.2.1
 ·exact h.2.2.1
theorem index_three0 (a b c : Int) (W : World) : (Instr.index 148 (.agg #[.int .i64 a, .int .i64 b, .int .i64 c]) (.int .i64 0)).run Tryz.prog W = .ok (.int .i64 a) W := by kernel_rfl
theorem index_three1 (a b c : Int) (W : World) : (Instr.index 148 (.agg #[.int .i64 a, .int .i64 b, .int .i64 c]) (.int .i64 1)).run Tryz.prog W = .ok (.int .i64 b) W := by kernel_rfl
theorem index_three2 (a b c : Int) (W : World) : (Instr.index 148 (.agg #[.int .i64 a, .int .i64 b, .int .i64 c]) (.int .i64 2)).run Tryz.prog W = .ok (.int .i64 c) W := by kernel_rfl
theorem wrel_any {w W : World} (hval : WVal w) {r : RelD} (hwf : wfR r) {q : Nat} {l : List UInt8} {o : Value} {x : Array Value} (hx : RRd w r x) (h : WS 83 w W q l o) (hl : l.length + (relC r).length ≤ 1000000000000) :
 Calls Tryz.prog 41 #[.pointer (some ⟨q, 0, none⟩), .agg x] W (Tells w W q l o (relC r)) := by
 obtain ⟨pp, cp, rfl, hty, hps⟩ := hx
 have hns := wfR_ns hwf
 obtain ⟨h1, h2, h3, hwt, hwp⟩ := hwf
 have hcl := numsC_len hns
 rw [relC_eq] at hl ⊢
 simp only [List.length_append] at hl
 have htl : (textC r.type).length = (numB r.type.length).length + r.type.length := by unfold textC; rw [List.length_append]
 have hb := Kac (w := W) (.cells #[.int .i64 r.id, .int .i64 r.src, .int .i64 r.dst, .string (strB r.type), .slice pp r.props.length cp] 72)
 have hbx : (W.alloc (.cells #[.int .i64 r.id, .int .i64 r.src, .int .i64 r.dst, .string (strB r.type), .slice pp r.props.length cp] 72)).heap[W.heap.size]? = some (.cells #[.int .i64 r.id, .int .i64 r.src, .int .i64 r.dst, .string (strB r.type), .slice pp r.props.length cp] 72 (0, 0)) := heap_alloc_new W _
 have hw1 := h.below hb
 have hq : W.heap.size ≠ q := fun e => by have := h.lt; omega
 have ho : o.ownBlock ≠ some W.heap.size := fun e => by have := h.own_lt e; omega
 have hu : ∀ n ∈ relNs r, IntKind.u64.wrap n = (toU n : Int) ∧ toU n < 18446744073709551616 := fun n hn => ⟨Kcy (hns n hn), (Kbu (hns n hn)).1⟩
 have hn0 : IntKind.u64.wrap r.id = (toU r.id : Int) := Kcy h1
 have hn1 : IntKind.u64.wrap r.src = (toU r.src : Int) := Kcy h2
 have hn2 : IntKind.u64.wrap r.dst = (toU r.dst : Int) := Kcy h3
 have b0 := (Kbu h1).1
 have b1 := (Kbu h2).1
 have b2 := (Kbu h3).1
 have HB := yh (And.intro hb (And.intro hbx (And.intro hw1 (And.intro hq ho))))
 have HP := yh hps
 have HW := yh hwp
 have HU := yh (And.intro b0 (And.intro b1 b2))
 have hlt : W.heap.size < (W.alloc (.cells #[.int .i64 r.id, .int .i64 r.src, .int .i64 r.dst, .string (strB r.type), .slice pp r.props.length cp] 72)).heap.size := by simp
 have HLT := yh hlt
 have HI0 : Hid (∃ o', WS 83 w (W.alloc (.cells #[.int .i64 r.id, .int .i64 r.src, .int .i64 r.dst, .string (strB r.type), .slice pp r.props.length cp] 72)) q (l ++ numsC ((relNs r).take 0)) o' ∧ WTo q o o' (W.alloc (.cells #[.int .i64 r.id, .int .i64 r.src, .int .i64 r.dst, .string (strB r.type), .slice pp r.props.length cp] 72)) (W.alloc (.cells #[.int .i64 r.id, .int .i64 r.src, .int .i64 r.dst, .string (strB r.type), .slice pp r.props.length cp] 72))) :=
  yh ⟨o, by simpa [numsC] using hw1, WTo.refl _ _ _⟩
 clear hb hbx hw1 hq ho hps hwp hwt h hns hu h1 h2 h3 b0 b1 b2 hlt
 go_enter Tryz.func41, Tryz.ntmps41
 go_wp2
 go_loopw [13] (fun i wr => ∃ j : Nat, j ≤ 3 ∧ i = .int .i64 (j : Int) ∧ Hid (∃ o', WS 83 w wr q (l ++ numsC ((relNs r).take j)) o' ∧ WTo q o o' (W.alloc (.cells #[.int .i64 r.id, .int .i64 r.src, .int .i64 r.dst, .string (strB r.type), .slice pp r.props.length cp] 72)) wr)) (fun i _ => 3 - (intOf i).toNat)
 case atStart => exact ⟨0, Nat.zero_le _, rfl, HI0⟩
 case round =>
  obtain ⟨j, hj, rfl, HI⟩ := hrel
  obtain ⟨o2, h2, t2⟩ := HI.out
  have hj4 : j = 0 ∨ j = 1 ∨ j = 2 ∨ j = 3 := by omega
  rcases hj4 with rfl | rfl | rfl | rfl
  ·have HC := yh (Ka0 (n := toU r.id) HU.out.1 h2 (by simp [numsC, relNs]; omega))
   have HT := yh t2
   clear HI h2 t2 HI0
   have HX := yh (index_three0 r.id r.src r.dst)
   go_wp2_with (first
    | (refine Kba rfl (exec_index rfl rfl rfl (HX.out _)) ?_)
    | (go_at_call 42; refine HC.out.mono ?_; rintro e W2 ⟨rfl, o3, h3, t3⟩; have HW2 := yh (And.intro h3 (HT.out.trans t3)); clear h3 t3 HC))
   go_roundw
   case rel => exact ⟨1, by omega, rfl, yh ⟨o3, by simpa [numsC, relNs] using HW2.out.1, HW2.out.2⟩⟩
   case measure => simp [intOf]
  ·have HC := yh (Ka0 (n := toU r.src) HU.out.2.1 h2 (by have := Kbj HU.out.1; simp [numsC, relNs]; omega))
   have HT := yh t2
   clear HI h2 t2 HI0
   have HX := yh (index_three1 r.id r.src r.dst)
   go_wp2_with (first
    | (refine Kba rfl (exec_index rfl rfl rfl (HX.out _)) ?_)
    | (go_at_call 42; refine HC.out.mono ?_; rintro e W2 ⟨rfl, o3, h3, t3⟩; have HW2 := yh (And.intro h3 (HT.out.trans t3)); clear h3 t3 HC))
   go_roundw
   case rel => exact ⟨2, by omega, rfl, yh ⟨o3, by simpa [numsC, relNs] using HW2.out.1, HW2.out.2⟩⟩
   case measure => simp [intOf]
  ·have HC := yh (Ka0 (n := toU r.dst) HU.out.2.2 h2 (by have := Kbj HU.out.1; have := Kbj HU.out.2.1; simp [numsC, relNs]; omega))
   have HT := yh t2
   clear HI h2 t2 HI0
   have HX := yh (index_three2 r.id r.src r.dst)
   go_wp2_with (first
    | (refine Kba rfl (exec_index rfl rfl rfl (HX.out _)) ?_)
    | (go_at_call 42; refine HC.out.mono ?_; rintro e W2 ⟨rfl, o3, h3, t3⟩; have HW2 := yh (And.intro h3 (HT.out.trans t3)); clear h3 t3 HC))
   go_roundw
   case rel => exact ⟨3, by omega, rfl, yh ⟨o3, by simpa [numsC, relNs] using HW2.out.1, HW2.out.2⟩⟩
   case measure => simp [intOf]
  ·obtain ⟨hb, hbx, hw1, hq, ho⟩ := HB.out
   have hbx2 := t2.box hw1 hbx hq ho
   have ho2 := t2.not HLT.out ho
   have h2' : WS 83 w wr q (l ++ numsC (relNs r)) o2 := h2
   have c3 := Kab (o := 3) hbx2 rfl
   have HC := yh (wtext_any h2' (s := r.type) (by rw [List.length_append]; omega))
   have HF := yh (And.intro ((WTo.of_below (q := q) (o := o) hb).trans t2) (And.intro hbx2 (And.intro h2' (And.intro hq ho2))))
   clear hb hbx hw1 hq ho hbx2 h2 t2 HI HI0 h2' ho2
   go_wp2_with (first
    | (go_at_call 96; refine HC.out.mono ?_; rintro e W3 ⟨rfl, o3, h3, t3⟩
       (
        obtain ⟨t2, hbx2, h2, hq, ho2⟩ := HF.out
        have hbx3 := t3.box h2 hbx2 hq ho2
        have c4 := Kab (o := 4) hbx3 rfl
        have HR2 := yh (rowP_tells ef_prop propC HP.out h3 (by simp only [List.length_append]; omega) (fun p hp m o W cs hw hF hm => wprop_any hval (HW.out.2 p hp) hF hw hm))
        have HG := yh (t2.trans t3)
        clear t2 hbx2 h2 hq ho2 HF HC hbx3 h3 t3 c3))
    | (go_at_call 97; refine HR2.out.mono ?_; rintro e W4 ⟨rfl, o4, h4, t4⟩; have HE := yh (And.intro h4 (HG.out.trans t4)); clear h4 t4 HR2))
   go_end0
   refine ⟨rfl, o4, ?_, HE.out.2⟩
   rw [← List.append_assoc, ← List.append_assoc]
   exact HE.out.1
theorem rowR_any {α : Type} {F : World → α → Array Value → Prop} (hF : EF F 5) (en : α → List UInt8) {l : List α} {w W : World} {q : Nat} {m : List UInt8} {o : Value} {p : Option Addr} {c : Nat}
 (hrd : GRd F 5 w p c l) (h : WS 83 w W q m o) (hlen : m.length + (rowsC en l).length ≤ 1000000000000)
 (J : Nat → World → Value → Prop) (hJ : ∀ j W W' o o', J j W o → WTo q o o' W W' → J j W' o') (h0 : J 0 W o)
 (one : ∀ j (hj : j < l.length) m o W cs, J j W o → WS 83 w W q m o → F w l[j] cs → m.length + (en l[j]).length ≤ 1000000000000 → Calls Tryz.prog 41 #[.pointer (some ⟨q, 0, none⟩), .agg cs] W fun e W' => e = .returned (.tuple #[]) ∧ ∃ o', WS 83 w W' q (m ++ en l[j]) o' ∧ J (j + 1) W' o') :
 Calls Tryz.prog 40 #[.pointer (some ⟨q, 0, none⟩), .slice p l.length c, (.func (.func 41) #[.pointer (some ⟨q, 0, none⟩)] #[])] W fun e W' => e = .returned (.tuple #[]) ∧ ∃ o', WS 83 w W' q (m ++ rowsC en l) o' ∧ J l.length W' o' := by
 have z1 : (l.length : Int) ≤ 140737488355328 := by have := hrd.1.2.1; omega
 have hu : toU (l.length : Int) = l.length := by unfold toU; rw [if_neg (by omega)]; simp
 have hnum := Ka0 (n := l.length) (by omega) h (by omega)
 have HN := yh hnum
 have HJ := yh hJ
 have HO := yh one
 have HR := yh hrd
 have HL := yh hlen
 have H0 := yh h0
 clear hnum hJ one hrd hlen h0 hu h
 go_enter Tryz.func40, Tryz.ntmps40
 go_wp2_with (go_at_call 42; refine HN.out.mono ?_; rintro e W1 ⟨rfl, o1, h1, t1⟩; have H1 := yh (And.intro h1 (HJ.out _ _ _ _ _ H0.out t1)); clear h1 t1)
 go_loopw [15] (fun i wr => ∃ j : Nat, j ≤ l.length ∧ i = .int .i64 (j : Int) ∧ Hid (∃ o, WS 83 w wr q (m ++ numB l.length ++ (l.take j).flatMap en) o ∧ J j wr o)) (fun i _ => l.length - (intOf i).toNat)
 case atStart => exact ⟨0, Nat.zero_le _, rfl, yh ⟨o1, by simpa using H1.out.1, H1.out.2⟩⟩
 case round =>
  obtain ⟨j, hj, rfl, HI⟩ := hrel
  obtain ⟨o2, h2, j2⟩ := HI.out
  by_cases hlt : j < l.length
  ·have hlt1 : j + 1 ≤ l.length := hlt
   obtain ⟨b, of, cs, rfl, hs, hc, hv⟩ := HR.out.get hlt
   have hones := hF.ones hv
   have hL1 := StT.load Kd0 hs (fun i u hu => Kam h2.b (ltOf (hc i u hu)) (hc i u hu)) (W := wr)
   have hS := StT.fresh Kd0 hs hones (W := wr)
   have hL2 := StT.get Kd0 hs (heap_alloc_new wr (.cells cs 72))
   have hbn := Kac (w := wr) (.cells cs 72)
   have h3 := h2.below hbn
   have hst := Kc1 (e := en) hlt
   have hle : (m ++ numB l.length ++ (l.take j).flatMap en).length + (en l[j]).length ≤ 1000000000000 := by
    have e1 : (l.flatMap en).length = ((l.take (j + 1)).flatMap en).length + ((l.drop (j + 1)).flatMap en).length := by
     rw [← List.length_append, ← List.flatMap_append, List.take_append_drop]
    have := HL.out
    unfold rowsC at this
    rw [hst] at e1
    simp only [List.length_append] at *
    omega
   have hone := HO.out j hlt _ _ _ cs (HJ.out _ _ _ _ _ j2 (WTo.of_below hbn)) h3 hv hle
   rw [List.append_assoc _ _ (en l[j]), ← hst] at hone
   have HL1 := yh hL1
   have HS := yh hS
   have HL2 := yh hL2
   have HC := yh hone
   clear hc hones hL1 hS hL2 hbn h3 hst hle hone HI h2 j2 hv H1 HN H0 HL
   go_wp2_with (first
    | (refine Kau rfl _ _ _ rfl rfl HL1.out ?_; clear HL1)
    | (refine Kaq rfl _ _ _ _ rfl rfl rfl (HS.out _ rfl) ?_; clear HS)
    | (refine Kau rfl _ _ _ rfl rfl HL2.out ?_; clear HL2)
    | (go_at_call 41; refine HC.out.mono ?_; rintro e W2 ⟨rfl, hw2⟩; have HW2 := yh hw2; clear hw2 HC))
   go_roundw
   case rel => exact ⟨j + 1, hlt1, by go_num, HW2⟩
   case measure => simp [intOf]; omega
  ·obtain rfl : j = l.length := by omega
   have HF := yh (show ∃ o', WS 83 w wr q (m ++ rowsC en l) o' ∧ J l.length wr o' from ⟨o2, by rw [← rows_at, ← List.append_assoc]; exact h2, j2⟩)
   clear HI h2 j2 H1 HN H0 HL
   go_wp2
   go_end0
   exact ⟨rfl, HF.out⟩
theorem rowR_tells {α : Type} {F : World → α → Array Value → Prop} (hF : EF F 5) (en : α → List UInt8) {l : List α} {w W : World} {q : Nat} {m : List UInt8} {o : Value} {p : Option Addr} {c : Nat}
 (hrd : GRd F 5 w p c l) (h : WS 83 w W q m o) (hlen : m.length + (rowsC en l).length ≤ 1000000000000)
 (one : ∀ x ∈ l, ∀ m o W cs, WS 83 w W q m o → F w x cs → m.length + (en x).length ≤ 1000000000000 → Calls Tryz.prog 41 #[.pointer (some ⟨q, 0, none⟩), .agg cs] W (Tells w W q m o (en x))) :
 Calls Tryz.prog 40 #[.pointer (some ⟨q, 0, none⟩), .slice p l.length c, (.func (.func 41) #[.pointer (some ⟨q, 0, none⟩)] #[])] W (Tells w W q m o (rowsC en l)) := by
 refine (rowR_any hF en hrd h hlen (fun _ W' o' => WTo q o o' W W') (fun j W1 W2 o1 o2 h1 h2 => h1.trans h2) (WTo.refl q o W) ?_).mono ?_
 ·intro j hj m o1 W1 cs h1 h2 h3 h4
  refine (one _ (List.getElem_mem hj) m o1 W1 cs h2 h3 h4).mono ?_
  rintro e W2 ⟨rfl, o2, h5, h6⟩
  exact ⟨rfl, o2, h5, h1.trans h6⟩
 ·rintro e W' ⟨rfl, o', h1, h2⟩
  exact ⟨rfl, o', h1, h2⟩
theorem rowC_any {α : Type} {F : World → α → Array Value → Prop} (hF : EF F 11) (en : α → List UInt8) {l : List α} {w W : World} {q : Nat} {m : List UInt8} {o : Value} {p : Option Addr} {c : Nat}
 (hrd : GRd F 11 w p c l) (h : WS 83 w W q m o) (hlen : m.length + (rowsC en l).length ≤ 1000000000000)
 (J : Nat → World → Value → Prop) (hJ : ∀ j W W' o o', J j W o → WTo q o o' W W' → J j W' o') (h0 : J 0 W o)
 (one : ∀ j (hj : j < l.length) m o W cs, J j W o → WS 83 w W q m o → F w l[j] cs → m.length + (en l[j]).length ≤ 1000000000000 → Calls Tryz.prog 77 #[.pointer (some ⟨q, 0, none⟩), .agg cs] W fun e W' => e = .returned (.tuple #[]) ∧ ∃ o', WS 83 w W' q (m ++ en l[j]) o' ∧ J (j + 1) W' o') :
 Calls Tryz.prog 76 #[.pointer (some ⟨q, 0, none⟩), .slice p l.length c, (.func (.func 77) #[.pointer (some ⟨q, 0, none⟩)] #[])] W fun e W' => e = .returned (.tuple #[]) ∧ ∃ o', WS 83 w W' q (m ++ rowsC en l) o' ∧ J l.length W' o' := by
 have z1 : (l.length : Int) ≤ 140737488355328 := by have := hrd.1.2.1; omega
 have hu : toU (l.length : Int) = l.length := by unfold toU; rw [if_neg (by omega)]; simp
 have hnum := Ka0 (n := l.length) (by omega) h (by omega)
 have HN := yh hnum
 have HJ := yh hJ
 have HO := yh one
 have HR := yh hrd
 have HL := yh hlen
 have H0 := yh h0
 clear hnum hJ one hrd hlen h0 hu h
 go_enter Tryz.func76, Tryz.ntmps76
 go_wp2_with (go_at_call 42; refine HN.out.mono ?_; rintro e W1 ⟨rfl, o1, h1, t1⟩; have H1 := yh (And.intro h1 (HJ.out _ _ _ _ _ H0.out t1)); clear h1 t1)
 go_loopw [15] (fun i wr => ∃ j : Nat, j ≤ l.length ∧ i = .int .i64 (j : Int) ∧ Hid (∃ o, WS 83 w wr q (m ++ numB l.length ++ (l.take j).flatMap en) o ∧ J j wr o)) (fun i _ => l.length - (intOf i).toNat)
 case atStart => exact ⟨0, Nat.zero_le _, rfl, yh ⟨o1, by simpa using H1.out.1, H1.out.2⟩⟩
 case round =>
  obtain ⟨j, hj, rfl, HI⟩ := hrel
  obtain ⟨o2, h2, j2⟩ := HI.out
  by_cases hlt : j < l.length
  ·have hlt1 : j + 1 ≤ l.length := hlt
   obtain ⟨b, of, cs, rfl, hs, hc, hv⟩ := HR.out.get hlt
   have hones := hF.ones hv
   have hL1 := StT.load Kb3 hs (fun i u hu => Kam h2.b (ltOf (hc i u hu)) (hc i u hu)) (W := wr)
   have hS := StT.fresh Kb3 hs hones (W := wr)
   have hL2 := StT.get Kb3 hs (heap_alloc_new wr (.cells cs 74))
   have hbn := Kac (w := wr) (.cells cs 74)
   have h3 := h2.below hbn
   have hst := Kc1 (e := en) hlt
   have hle : (m ++ numB l.length ++ (l.take j).flatMap en).length + (en l[j]).length ≤ 1000000000000 := by
    have e1 : (l.flatMap en).length = ((l.take (j + 1)).flatMap en).length + ((l.drop (j + 1)).flatMap en).length := by
     rw [← List.length_append, ← List.flatMap_append, List.take_append_drop]
    have := HL.out
    unfold rowsC at this
    rw [hst] at e1
    simp only [List.length_append] at *
    omega
   have hone := HO.out j hlt _ _ _ cs (HJ.out _ _ _ _ _ j2 (WTo.of_below hbn)) h3 hv hle
   rw [List.append_assoc _ _ (en l[j]), ← hst] at hone
   have HL1 := yh hL1
   have HS := yh hS
   have HL2 := yh hL2
   have HC := yh hone
   clear hc hones hL1 hS hL2 hbn h3 hst hle hone HI h2 j2 hv H1 HN H0 HL
   go_wp2_with (first
    | (refine Kau rfl _ _ _ rfl rfl HL1.out ?_; clear HL1)
    | (refine Kaq rfl _ _ _ _ rfl rfl rfl (HS.out _ rfl) ?_; clear HS)
    | (refine Kau rfl _ _ _ rfl rfl HL2.out ?_; clear HL2)
    | (go_at_call 77; refine HC.out.mono ?_; rintro e W2 ⟨rfl, hw2⟩; have HW2 := yh hw2; clear hw2 HC))
   go_roundw
   case rel => exact ⟨j + 1, hlt1, by go_num, HW2⟩
   case measure => simp [intOf]; omega
  ·obtain rfl : j = l.length := by omega
   have HF := yh (show ∃ o', WS 83 w wr q (m ++ rowsC en l) o' ∧ J l.length wr o' from ⟨o2, by rw [← rows_at, ← List.append_assoc]; exact h2, j2⟩)
   clear HI h2 j2 H1 HN H0 HL
   go_wp2
   go_end0
   exact ⟨rfl, HF.out⟩
theorem rowC_tells {α : Type} {F : World → α → Array Value → Prop} (hF : EF F 11) (en : α → List UInt8) {l : List α} {w W : World} {q : Nat} {m : List UInt8} {o : Value} {p : Option Addr} {c : Nat}
 (hrd : GRd F 11 w p c l) (h : WS 83 w W q m o) (hlen : m.length + (rowsC en l).length ≤ 1000000000000)
 (one : ∀ x ∈ l, ∀ m o W cs, WS 83 w W q m o → F w x cs → m.length + (en x).length ≤ 1000000000000 → Calls Tryz.prog 77 #[.pointer (some ⟨q, 0, none⟩), .agg cs] W (Tells w W q m o (en x))) :
 Calls Tryz.prog 76 #[.pointer (some ⟨q, 0, none⟩), .slice p l.length c, (.func (.func 77) #[.pointer (some ⟨q, 0, none⟩)] #[])] W (Tells w W q m o (rowsC en l)) := by
 refine (rowC_any hF en hrd h hlen (fun _ W' o' => WTo q o o' W W') (fun j W1 W2 o1 o2 h1 h2 => h1.trans h2) (WTo.refl q o W) ?_).mono ?_
 ·intro j hj m o1 W1 cs h1 h2 h3 h4
  refine (one _ (List.getElem_mem hj) m o1 W1 cs h2 h3 h4).mono ?_
  rintro e W2 ⟨rfl, o2, h5, h6⟩
  exact ⟨rfl, o2, h5, h1.trans h6⟩
 ·rintro e W' ⟨rfl, o', h1, h2⟩
  exact ⟨rfl, o', h1, h2⟩
theorem conv_ckind {k : Int} (h0 : 0 ≤ k) (h1 : k < 256) (W : World) : (convert 67 5 (.int .i64 k)).run Tryz.prog W = .ok (.int .u8 ((UInt8.ofNat k.toNat).toNat : Int)) W := by
 have e : IntKind.u8.wrap k = ((UInt8.ofNat k.toNat).toNat : Int) := by
  rw [Kb1 (by omega)]
  simp [IntKind.wrap, IntKind.signed, IntKind.bits]; omega
 rw [← e]
 simp [convert, go_sem]
theorem wfC_kind {c : ChangeD} (h : wfC (toldC c)) : 0 ≤ c.kind ∧ c.kind ≤ 4 := by
 unfold wfC at h
 have hk : (toldC c).kind = c.kind := by unfold toldC; split <;> (try split) <;> (try split) <;> simp_all
 rw [hk] at h
 rcases h with ⟨h, _⟩ | ⟨h, _⟩ | ⟨h | h, _⟩ | ⟨h, _⟩ <;> omega
def useC (c : ChangeD) : Prop := 0 ≤ c.kind ∧ c.kind ≤ 4 ∧ (c.kind = 0 → wfN c.node) ∧ (c.kind = 1 → wfR c.rel) ∧ (2 ≤ c.kind → i64T c.id ∧ i64T c.other)
theorem wchange_any {w W : World} (hval : WVal w) {cd : ChangeD} (hwf : useC cd) {q : Nat} {m : List UInt8} {o : Value} {x : Array Value} (hx : CRd w cd x) (h : WS 83 w W q m o) (hl : m.length + (Kax cd).length ≤ 1000000000000) :
 Calls Tryz.prog 77 #[.pointer (some ⟨q, 0, none⟩), .agg x] W (Tells w W q m o (Kax cd)) := by
 obtain ⟨xa, xb, hxe, hna, hrb⟩ := hx
 have sa := ef_node.size hna
 have sb := ef_rel.size hrb
 have x0 : x[0]? = some (.int .i64 cd.kind) := by rw [hxe, Array.append_assoc, Array.getElem?_append_left (by simp)]; rfl
 have x1 : x[1]? = some (.int .i64 cd.id) := by rw [hxe, Array.append_assoc, Array.getElem?_append_left (by simp)]; rfl
 have x2 : x[2]? = some (.int .i64 cd.other) := by rw [hxe, Array.append_assoc, Array.getElem?_append_left (by simp)]; rfl
 have xna : ∀ (i : Nat) (u : Value), xa[i]? = some u → x[3 + i]? = some u := fun i u hu => by
  have hi := (Array.getElem?_eq_some_iff.1 hu).1
  rw [hxe, Array.getElem?_append_left (by simp; omega), Array.getElem?_append_right (by simp)]; simpa using hu
 have xrb : ∀ (i : Nat) (u : Value), xb[i]? = some u → x[6 + i]? = some u := fun i u hu => by
  rw [hxe, Array.getElem?_append_right (by simp [sa])]; simp only [Array.size_append, sa]; simpa using hu
 have hk0 : 0 ≤ cd.kind ∧ cd.kind ≤ 4 := ⟨hwf.1, hwf.2.1⟩
 obtain ⟨p, c, rfl⟩ := h.slice
 have hb := Kac (w := W) (.cells x 74)
 have h1 := h.below hb
 have s3 := h.side hb (b := W.heap.size) (ob := .cells x 74 (0, 0)) (Nat.le_refl _) (heap_alloc_new W _)
 have hml : m.length ≤ 1000000000000 := by omega
 have HB := yh (And.intro hb (And.intro h1 s3))
 have HX := yh (And.intro x0 (And.intro x1 (And.intro x2 (And.intro xna xrb))))
 have HR := yh (And.intro hna hrb)
 have HW := yh hwf
 have HL := yh hl
 have hf0 : ∀ W' : World, (Instr.fieldAt 74 (.pointer (some ⟨W.heap.size, 0, none⟩)) 0).run Tryz.prog W' = .ok (.pointer (some ⟨W.heap.size, 0, none⟩)) W' := by intro W'; simp [go_sem]
 have HF0 := yh hf0
 clear hb h1 s3 hwf hl h hf0 x0 x1 x2 xna xrb hxe hna hrb
 go_enter Tryz.func77, Tryz.ntmps77
 go_wp2
 obtain ⟨hb, h1, s3⟩ := HB.out
 have hf0 := HF0.out
 generalize hWa : W.alloc (.cells x 74) = W1 at *
 clear hWa
 have hS0 : W1.drew.heap[q]? = some (.cells #[.slice p m.length c] 83 (0, 0)) ∧ W1.drew.cell? ⟨W.heap.size, 0, none⟩ = some (.int .i64 cd.kind) := ⟨h1.box, Kab (o := 0) s3.at_ HX.out.1⟩
 have hbd : Below W1.heap.size W1 (W1.drew.alloc (.cells #[.int .u8 ((UInt8.ofNat cd.kind.toNat).toNat : Int)] 5)) := (Below.refl _ _).drew.alloc (Nat.le_refl _) _
 have hS1 : (W1.drew.alloc (.cells #[.int .u8 ((UInt8.ofNat cd.kind.toNat).toNat : Int)] 5)).heap[q]? = some (.cells #[.slice p m.length c] 83 (0, 0)) ∧ (W1.drew.alloc (.cells #[.int .u8 ((UInt8.ofNat cd.kind.toNat).toNat : Int)] 5)).cell? ⟨W.heap.size, 0, none⟩ = some (.int .i64 cd.kind) :=
  ⟨Kak hbd h1.lt h1.box, Kab (o := 0) (Kak hbd (Array.getElem?_eq_some_iff.1 s3.at_).1 s3.at_) HX.out.1⟩
 obtain ⟨p', c', W2, happ, hq2, hws, hto⟩ := h1.stepB (UInt8.ofNat cd.kind.toNat) hml 26
 have hst := put_u8s (p := p') (n := (m ++ [UInt8.ofNat cd.kind.toNat]).length) (c := c') (Kab (o := 0) hq2 rfl) (Kav (o := 0) hq2)
 have t3 := s3.to hto
 have hsc : ∀ b, b ≠ q → (W2.setCell ⟨q, 0, none⟩ (.slice p' (m ++ [UInt8.ofNat cd.kind.toNat]).length c')).heap[b]? = W2.heap[b]? := fun b hb => Below.heap_setCell W2 ⟨q, 0, none⟩ _ b hb
 have hS2 : W2.heap[q]? = some (.cells #[.slice p m.length c] 83 (0, 0)) ∧ W2.cell? ⟨W.heap.size, 0, none⟩ = some (.int .i64 cd.kind) :=
  ⟨hq2, Kab (o := 0) ((hsc _ s3.ne).symm.trans t3.at_) HX.out.1⟩
 refine Kan (fun W' => W'.heap[q]? = some (.cells #[.slice p m.length c] 83 (0, 0)) ∧ W'.cell? ⟨W.heap.size, 0, none⟩ = some (.int .i64 cd.kind)) (by kernel_rfl) hS0 (fun hS => ?_)
 refine tk 0 4 (v := .pointer (some ⟨q, 0, none⟩)) rfl rfl (fun W hW => Kai rfl rfl) ?_
 simp only [Act.put, sA, sZ, sS]
 refine tk 1 5 (v := .pointer (some ⟨q, 0, none⟩)) rfl rfl (fun W hW => Kai rfl rfl) ?_
 simp only [Act.put, sA, sZ, sS]
 refine tk 2 6 (v := .pointer (some ⟨q, 0, none⟩)) rfl rfl (fun W hW => rfl) ?_
 simp only [Act.put, sA, sZ, sS]
 refine tk 3 7 (v := .pointer (some ⟨q, 0, none⟩)) rfl rfl (fun W hW => Kae rfl rfl (fieldW q W)) ?_
 simp only [Act.put, sA, sZ, sS]
 refine tk 4 8 (v := .slice p m.length c) rfl rfl (fun W hW => Kag rfl rfl (Kah (w := W) Tryz.underlying26 rfl (Kab (o := 0) hW.1 rfl))) ?_
 simp only [Act.put, sA, sZ, sS]
 refine tk 5 9 (v := .pointer (some ⟨W.heap.size, 0, none⟩)) rfl rfl (fun W hW => Kae rfl rfl (hf0 W)) ?_
 simp only [Act.put, sA, sZ, sS]
 refine tk 6 10 (v := .int .i64 cd.kind) rfl rfl (fun W hW => Kag rfl rfl (Kah (w := W) Tryz.underlying67 rfl hW.2)) ?_
 simp only [Act.put, sA, sZ, sS]
 refine tk 7 11 (v := .int .u8 ((UInt8.ofNat cd.kind.toNat).toNat : Int)) rfl rfl (fun W hW => Kc0 rfl rfl (conv_ckind hk0.1 (by omega) W)) ?_
 simp only [Act.put, sA, sZ, sS]
 have hbs := Kao (P := Tryz.prog) (w := W1.drew) (v := .int .u8 ((UInt8.ofNat cd.kind.toNat).toNat : Int)) Tryz.underlying26 Tryz.sizeOf5 Tryz.zeroValue5 rfl (by omega) (by omega)
 refine onlyRun 8 12 (v := .slice (some ⟨W1.heap.size, 0, none⟩) 1 1) rfl rfl (by kernel_rfl) rfl (Kc5 rfl rfl hbs) (.inr hS1) ?_
 simp only [Act.put, sA, sZ, sS]
 refine onlyRun 9 13 (v := .slice p' (m ++ [UInt8.ofNat cd.kind.toNat]).length c') rfl rfl (by kernel_rfl) rfl (Ked rfl rfl rfl happ) (.inr hS2) ?_
 simp only [Act.put, sA, sZ, sS]
 refine tk 10 14 (v := .pointer (some ⟨q, 0, none⟩)) rfl rfl (fun W hW => rfl) ?_
 simp only [Act.put, sA, sZ, sS]
 refine tk 11 15 (v := .pointer (some ⟨q, 0, none⟩)) rfl rfl (fun W hW => Kae rfl rfl (fieldW q W)) ?_
 simp only [Act.put, sA, sZ, sS]
 refine onlySkip 12 rfl rfl (by kernel_rfl) rfl (Kdd rfl rfl rfl hst) (.inl (by kernel_rfl)) ?_
 refine done (by kernel_rfl) ?_ _
 have fin : ∀ (rest : List UInt8) (o4 : Value) (W4 : World), Kax cd = UInt8.ofNat cd.kind.toNat :: rest → WS 83 w W4 q (m ++ [UInt8.ofNat cd.kind.toNat] ++ rest) o4 → WTo q (.slice p' (m ++ [UInt8.ofNat cd.kind.toNat]).length c') o4 (W2.setCell ⟨q, 0, none⟩ (.slice p' (m ++ [UInt8.ofNat cd.kind.toNat]).length c')) W4 → Tells w W q m (.slice p m.length c) (Kax cd) (.returned (.tuple #[])) W4 := by
  intro rest o4 W4 e h4 t4
  refine ⟨rfl, o4, ?_, (WTo.of_below (q := q) (o := .slice p m.length c) hb).trans (hto.trans t4)⟩
  rw [e]
  simpa using h4
 generalize hWb : W2.setCell ⟨q, 0, none⟩ (.slice p' (m ++ [UInt8.ofNat cd.kind.toNat]).length c') = W3 at *
 generalize hob : Value.slice p' (m ++ [UInt8.ofNat cd.kind.toNat]).length c' = o3 at *
 have c0 := Kab (o := 0) t3.at_ HX.out.1
 have c1 := Kab (o := 1) t3.at_ HX.out.2.1
 have FIN := yh fin
 have HT := yh (And.intro hws t3)
 clear hWb hob hS hS0 hS1 hS2 hbs hbd happ hq2 hst hsc fin hws t3 hto s3 h1 hb hf0 HF0 HB
 have hl := HL.out
 obtain ⟨_, _, u0, u1, u2⟩ := HW.out
 have hk5 : cd.kind = 0 ∨ cd.kind = 1 ∨ cd.kind = 2 ∨ cd.kind = 3 ∨ cd.kind = 4 := by omega
 rcases hk5 with hk | hk | hk | hk | hk
 ·have e1 : Kax cd = UInt8.ofNat cd.kind.toNat :: nodeC cd.node := by unfold Kax; rw [if_pos hk]
  have HN := yh (wnode_any hval (u0 hk) HR.out.1 HT.out.1 (by rw [e1] at hl; simp only [List.length_append, List.length_cons, List.length_nil] at *; omega))
  have HL2 := yh (StT.load Kct (g := W.heap.size) (o := 3) sa (fun i u hu => Kab HT.out.2.at_ (HX.out.2.2.2.1 i u hu)))
  clear hl u0 u1 u2 hk0
  go_wp2_with (first
   | (refine Kau rfl _ _ _ rfl rfl HL2.out ?_; clear HL2)
   | (go_at_call 39; refine HN.out.mono ?_; rintro e W4 ⟨rfl, o4, h4, t4⟩; have HE := yh (And.intro h4 t4); clear h4 t4 HN))
  go_end0
  exact FIN.out _ o4 _ e1 HE.out.1 HE.out.2
 ·have e1 : Kax cd = UInt8.ofNat cd.kind.toNat :: relC cd.rel := by unfold Kax; rw [if_neg (by omega), if_pos hk]
  have HN := yh (wrel_any hval (u1 hk) HR.out.2 HT.out.1 (by rw [e1] at hl; simp only [List.length_append, List.length_cons, List.length_nil] at *; omega))
  have HL2 := yh (StT.load Kd0 (g := W.heap.size) (o := 6) sb (fun i u hu => Kab HT.out.2.at_ (HX.out.2.2.2.2 i u hu)))
  clear hl u0 u1 u2 hk0
  go_wp2_with (first
   | (refine Kau rfl _ _ _ rfl rfl HL2.out ?_; clear HL2)
   | (go_at_call 41; refine HN.out.mono ?_; rintro e W4 ⟨rfl, o4, h4, t4⟩; have HE := yh (And.intro h4 t4); clear h4 t4 HN))
  go_end0
  exact FIN.out _ o4 _ e1 HE.out.1 HE.out.2
 ·have e1 : Kax cd = UInt8.ofNat cd.kind.toNat :: numB (zzN cd.id) := by unfold Kax; rw [if_neg (by omega), if_neg (by omega), if_neg (by omega)]
  have HN := yh (Kdm (u2 (by omega)).1 HT.out.1 (by rw [e1] at hl; simp only [List.length_append, List.length_cons, List.length_nil] at *; omega))
  clear hl u0 u1 u2 hk0
  go_wp2_with (first
   | (go_at_call 116; refine HN.out.mono ?_; rintro e W4 ⟨rfl, o4, h4, t4⟩
      (
       have t34 := HT.out.2.to t4
       have d0 := Kab (o := 0) t34.at_ HX.out.1
       have HE := yh (And.intro h4 t4)
       clear h4 t4 HN t34 c0 c1)))
  go_end0
  exact FIN.out _ o4 _ e1 HE.out.1 HE.out.2
 ·have e1 : Kax cd = UInt8.ofNat cd.kind.toNat :: numB (zzN cd.id) := by unfold Kax; rw [if_neg (by omega), if_neg (by omega), if_neg (by omega)]
  have HN := yh (Kdm (u2 (by omega)).1 HT.out.1 (by rw [e1] at hl; simp only [List.length_append, List.length_cons, List.length_nil] at *; omega))
  clear hl u0 u1 u2 hk0
  go_wp2_with (first
   | (go_at_call 116; refine HN.out.mono ?_; rintro e W4 ⟨rfl, o4, h4, t4⟩
      (
       have t34 := HT.out.2.to t4
       have d0 := Kab (o := 0) t34.at_ HX.out.1
       have HE := yh (And.intro h4 t4)
       clear h4 t4 HN t34 c0 c1)))
  go_end0
  exact FIN.out _ o4 _ e1 HE.out.1 HE.out.2
 ·have e1 : Kax cd = UInt8.ofNat cd.kind.toNat :: (numB (zzN cd.id) ++ numB (zzN cd.other)) := by unfold Kax; rw [if_neg (by omega), if_neg (by omega), if_pos hk]
  have HN := yh (Kdm (u2 (by omega)).1 HT.out.1 (by rw [e1] at hl; simp only [List.length_append, List.length_cons, List.length_nil] at *; omega))
  have HO := yh (u2 (by omega)).2
  clear u0 u1 u2 hk0
  go_wp2_with (go_at_call 116; first
   | (refine HN.out.mono ?_; rintro e W4 ⟨rfl, o4, h4, t4⟩
      (
       have t34 := HT.out.2.to t4
       have d0 := Kab (o := 0) t34.at_ HX.out.1
       have d2 := Kab (o := 2) t34.at_ HX.out.2.2.1
       have HN2 := yh (Kdm HO.out h4 (by rw [e1] at hl; simp only [List.length_append, List.length_cons, List.length_nil] at *; omega))
       have HT4 := yh t4
       clear h4 t4 HN t34 c0 c1 hl))
   | (refine HN2.out.mono ?_; rintro e W5 ⟨rfl, o5, h5, t5⟩; have HE := yh (And.intro h5 (HT4.out.trans t5)); clear h5 t5 HN2))
  go_end0
  exact FIN.out _ o5 _ e1 (by rw [← List.append_assoc]; exact HE.out.1) HE.out.2
section
variable {P : Program} {ops : Array Oper} {rest : List Oper} {Q : Exit → Act → World → Prop} {a : Act} {w w' : World} {dst : Option Tmp} {ty : TypeId} {pos : String} {af : Array Edge} {t : TypeId} {x y : Operand} {v : Value}
theorem Kal {b : Addr} (hr : (loadVar t b).run P w = .ok v w) (hx : a.eval x = .pointer (some b)) (h : wpList P ops Q rest (a.put dst v) w) : wpList P ops Q (⟨dst, .load t x, ty, pos, af, none⟩ :: rest) a w := Kau rfl t x b rfl hx hr h
theorem Kad {b : Addr} (hr : (storeVar t b v).run P w = .ok () w') (hx : a.eval x = .pointer (some b)) (hy : a.eval y = v) (h : wpList P ops Q rest a w') : wpList P ops Q (⟨none, .store t x y, ty, pos, af, none⟩ :: rest) a w := Kaq rfl t x y b rfl hx hy hr h
theorem op_slice {lo hi mx : Option Operand} {vx : Value} {lo' hi' mx' : Option Value} (hr : (Instr.sliceAt t vx lo' hi' mx').run P w = .ok v w') (hx : a.eval x = vx) (h1 : lo.map a.eval = lo') (h2 : hi.map a.eval = hi') (h3 : mx.map a.eval = mx') (h : wpList P ops Q rest (a.put dst v) w') :
 wpList P ops Q (⟨dst, .slice t x lo hi mx, ty, pos, af, none⟩ :: rest) a w := Kba rfl (exec_slice rfl hx h1 h2 h3 hr) h
theorem Kby {s : TypeId} {vx : Value} (hr : (convert s t vx).run P w = .ok v w') (hx : a.eval x = vx) (h : wpList P ops Q rest (a.put dst v) w') : wpList P ops Q (⟨dst, .convert s t x, ty, pos, af, none⟩ :: rest) a w := Kba rfl (Kc0 rfl hx hr) h
theorem op_bs1 {n i : Nat} {u : Value} (hr : (Instr.buildSlice t n #[(i, u)]).run P w = .ok v w') (hx : a.eval x = u) (h : wpList P ops Q rest (a.put dst v) w') : wpList P ops Q (⟨dst, .buildSlice t n #[(i, x)], ty, pos, af, none⟩ :: rest) a w := Kba rfl (Kc5 rfl hx hr) h
theorem Kbc {u : TypeId} {vx vy : Value} (hr : (Builtin.append_ #[t, u] ty #[vx, vy]).run P w = .ok v w') (hx : a.eval x = vx) (hy : a.eval y = vy) (h : wpList P ops Q rest (a.put dst v) w') :
 wpList P ops Q (⟨dst, .call { callee := .builtin .append, args := #[x, y], argTypes := #[t, u] }, ty, pos, af, none⟩ :: rest) a w := Kc9 rfl rfl hx hy hr h
end
theorem no_zero (s : List UInt8) : decide (Lib.indexByte s 0 < 0) = !s.contains 0 := by
 have hge := Lib.indexByte_ge s 0
 rw [Bool.eq_iff_iff]
 simp only [decide_eq_true_eq, Bool.not_eq_true', List.contains_eq_mem, decide_eq_false_iff_not]
 constructor
 ·intro h hm
  obtain ⟨k, hk, he⟩ := List.getElem_of_mem hm
  have := Lib.indexByte_none (l := s) (c := 0) (by omega) k
  rw [List.getElem?_eq_getElem hk, he] at this
  exact this rfl
 ·intro h
  by_cases hn : Lib.indexByte s 0 < 0
  ·exact hn
  ·obtain ⟨o, ho⟩ := Int.eq_ofNat_of_zero_le (by omega : 0 ≤ Lib.indexByte s 0)
   exact absurd (List.mem_of_getElem? (Lib.indexByte_some (l := s) (c := 0) (o := o) ho).1) h
theorem wname_any {w : World} (hE : Env w) (s : List UInt8) (hs : s.length ≤ 140737488355328) : Calls Tryz.prog 144 #[.string (strB s)] w fun e w' => e = .returned (.bool (okNm s)) ∧ Below w.heap.size w w' := by
 have hsz : (strB s).size = s.length := rfl
 have htl : (strB s).toList = s := Kb9 s
 have HV := yh (valid_any hE s hs)
 have hz := no_zero s
 by_cases h0 : s = []
 ·subst h0
  have e0 : strB [] = (⟨#[]⟩ : ByteArray) := rfl
  have HOK := yh (show okNm [] = false from rfl)
  rw [e0]
  clear hz htl hE HV
  go_enter Tryz.func144, Tryz.ntmps144
  go_wp2
  go_ret
  exact ⟨by rw [HOK.out]; rfl, Below.refl _ _⟩
 ·have he : s.isEmpty = false := by cases s with
   | nil => exact absurd rfl h0
   | cons => rfl
  by_cases h1 : s.length ≤ 64
  ·have z1 : (s.length : Int) ≤ 64 := by omega
   have hok : okNm s = (Lib.validD s && !s.contains 0) := by unfold okNm; rw [he]; simp [h1]
   have HOK := yh hok
   cases hv : Lib.validD s with
   | false =>
     rw [hv] at HV hok
     have HK := yh hok
     clear hok hz hE
     go_enter Tryz.func144, Tryz.ntmps144
     go_wp2_with (go_at_call 151; refine HV.out.mono ?_; rintro e W1 ⟨rfl, hb⟩; have HB := yh hb; clear hb)
     go_ret
     exact ⟨by rw [HK.out]; rfl, HB.out⟩
   | true =>
     rw [hv, Bool.true_and] at hok
     rw [hv] at HV
     rw [← hz] at hok
     have HK := yh hok
     clear hok hz hE
     have HI := yh (fun W => Tryz.strings_IndexByte (strB s) 0 W)
     go_enter Tryz.func144, Tryz.ntmps144
     go_wp2_with (first
      | (go_at_call 151; refine HV.out.mono ?_; rintro e W1 ⟨rfl, hb⟩; have HB := yh hb; clear hb)
      | (go_at_call 168; refine (HI.out _).mono ?_; rintro e W2 ⟨rfl, rfl⟩))
     go_ret
     exact ⟨by rw [HK.out]; rfl, HB.out⟩
  ·have z1 : ¬ (s.length : Int) ≤ 64 := by omega
   have hok : okNm s = false := by unfold okNm; simp [h1]
   have HOK := yh hok
   clear hok hz hE
   go_enter Tryz.func144, Tryz.ntmps144
   go_wp2
   go_ret
   exact ⟨by rw [HOK.out]; rfl, Below.refl _ _⟩
theorem rd_rest {W : World} {a : Option Addr} {n c : Nat} {l : List UInt8} (h : RdB W (.slice a n c) l) {k : Nat} (hk : k ≤ n) :
 ∃ a', (∀ W', (Instr.slice 26 (.slice a n c) (some (.int .i64 (k : Int))) none none).run Tryz.prog W' = .ok (.slice a' (n - k) (c - k)) W') ∧ RdB W (.slice a' (n - k) (c - k)) (l.drop k) := by
 obtain ⟨a1, cap, heq, ⟨hn, hm, hz⟩, hcell⟩ := h
 cases heq
 refine ⟨_, fun W' => Kd7 (P := Tryz.prog) Tryz.underlying26 Tryz.sizeOf5 a _ c (some (k : Int)) none k l.length (fun i hi => by cases hi; rfl) (fun h => by cases h) (fun i hi => by cases hi) (fun _ => rfl) hk hn W', ?_⟩
 refine ⟨_, _, by rw [List.length_drop], ⟨by rw [List.length_drop]; omega, by omega, fun e => ?_⟩, fun ad had => ?_⟩
 ·split at e
  ·omega
  ·cases a with
   | none => have := hz rfl; omega
   | some ad => cases e
 ·split at had
  ·rename_i hc
   subst had
   obtain ⟨hs, hcl⟩ := hcell ad rfl
   have hd : l.drop k = [] := List.drop_eq_nil_of_le (by omega)
   rw [hd]
   exact ⟨fun h => absurd rfl h, fun i b hi => by simp at hi⟩
  ·cases a with
   | none => cases had
   | some ad0 =>
     obtain ⟨hs, hcl⟩ := hcell ad0 rfl
     by_cases hl0 : l = []
     ·subst hl0
      exact ⟨fun h => absurd (by simp) h, fun i b hi => (by simp at hi)⟩
     replace hs := hs hl0
     obtain ⟨b0, o0, sp0⟩ := ad0
     simp only at hs; subst hs
     simp only [Option.map_some, Ka9, Option.some.injEq] at had
     subst had
     refine ⟨fun _ => rfl, fun i b hi => ?_⟩
     rw [List.getElem?_drop] at hi
     have := hcl (k + i) b hi
     simp only [Nat.mul_one] at this ⊢
     rw [Nat.add_assoc]; exact this
structure RSt (T : TypeId) (w W : World) (q : Nat) (l : List UInt8) : Prop where
 b : Below w.heap.size w W
 base : w.heap.size ≤ q
 box : ∃ p c, W.heap[q]? = some (.cells #[.slice p l.length c] T (0, 0)) ∧ RdB w (.slice p l.length c) l
structure RTo (q : Nat) (W W' : World) : Prop where
 size : W.heap.size ≤ W'.heap.size
 keep : ∀ b, b < W.heap.size → b ≠ q → W'.heap[b]? = W.heap[b]?
section
variable {T : TypeId} {w W W1 W' W'' : World} {q : Nat} {l m : List UInt8}
theorem RTo.refl (q : Nat) (W : World) : RTo q W W := ⟨Nat.le_refl _, fun _ _ _ => rfl⟩
theorem RTo.trans (h : RTo q W W') (g : RTo q W' W'') : RTo q W W'' := ⟨Nat.le_trans h.size g.size, fun b hb hq => (g.keep b (Nat.lt_of_lt_of_le hb h.size) hq).trans (h.keep b hb hq)⟩
theorem RTo.of_below (g : Below W.heap.size W W') : RTo q W W' := ⟨g.size, fun b hb _ => g.block b hb⟩
theorem RTo.set (q : Nat) (W : World) (u : Value) : RTo q W (W.setCell ⟨q, 0, none⟩ u) := ⟨by simp [World.setCell], fun b _ hq => Below.heap_setCell W ⟨q, 0, none⟩ u b hq⟩
theorem RSt.lt (h : RSt T w W q l) : q < W.heap.size := by obtain ⟨p, c, h1, _⟩ := h.box; exact (Array.getElem?_eq_some_iff.1 h1).1
theorem RSt.below (h : RSt T w W q l) (g : Below W.heap.size W W') : RSt T w W' q l := by
 obtain ⟨p, c, h1, h2⟩ := h.box
 exact ⟨Kaa h.b g, h.base, p, c, Kak g h.lt h1, h2⟩
theorem RSt.rest (h : RSt T w W q l) {k : Nat} (hk : k ≤ l.length) : ∃ p c p' c', W.heap[q]? = some (.cells #[.slice p l.length c] T (0, 0)) ∧ RdB W (.slice p l.length c) l ∧
 (∀ W', (Instr.slice 26 (.slice p l.length c) (some (.int .i64 (k : Int))) none none).run Tryz.prog W' = .ok (.slice p' (l.length - k) c') W') ∧
 RSt T w (W.setCell ⟨q, 0, none⟩ (.slice p' (l.length - k) c')) q (l.drop k) ∧ RTo q W (W.setCell ⟨q, 0, none⟩ (.slice p' (l.length - k) c')) := by
 obtain ⟨p, c, h1, h2⟩ := h.box
 obtain ⟨p', h3, h4⟩ := rd_rest h2 hk
 refine ⟨p, c, p', c - k, h1, h2.below h.b, h3, ⟨Kbf h.b h.base _, h.base, p', c - k, ?_, ?_⟩, RTo.set q W _⟩
 ·rw [List.length_drop]
  exact heap_setCell_same W q 0 #[.slice p l.length c] T (.slice p' (l.length - k) (c - k)) h1
 ·rw [List.length_drop]; exact h4
end
structure DSt (T : TypeId) (w W : World) (q : Nat) (l : List UInt8) (bad : Bool) : Prop where
 b : Below w.heap.size w W
 base : w.heap.size ≤ q
 box : ∃ p c, W.heap[q]? = some (.cells #[.slice p l.length c, .bool bad] T (0, 0)) ∧ RdB w (.slice p l.length c) l
section
variable {T : TypeId} {w W W1 W' W'' : World} {q : Nat} {l m : List UInt8} {bad : Bool}
theorem DSt.lt (h : DSt T w W q l bad) : q < W.heap.size := by obtain ⟨p, c, h1, _⟩ := h.box; exact (Array.getElem?_eq_some_iff.1 h1).1
theorem DSt.below (h : DSt T w W q l bad) (g : Below W.heap.size W W') : DSt T w W' q l bad := by
 obtain ⟨p, c, h1, h2⟩ := h.box
 exact ⟨Kaa h.b g, h.base, p, c, Kak g h.lt h1, h2⟩
theorem RTo.set1 (q i : Nat) (W : World) (u : Value) : RTo q W (W.setCell ⟨q, i, none⟩ u) := ⟨by simp [World.setCell], fun b _ hq => Below.heap_setCell W ⟨q, i, none⟩ u b hq⟩
theorem DSt.set (h : DSt T w W q l bad) (x : Bool) : DSt T w (W.setCell ⟨q, 1, none⟩ (.bool x)) q l x ∧ RTo q W (W.setCell ⟨q, 1, none⟩ (.bool x)) := by
 obtain ⟨p, c, h1, h2⟩ := h.box
 refine ⟨⟨Kbf h.b h.base _, h.base, p, c, ?_, h2⟩, RTo.set1 q 1 W _⟩
 exact heap_setCell_same W q 1 #[.slice p l.length c, .bool bad] T (.bool x) h1
theorem DSt.rest (h : DSt T w W q l bad) {k : Nat} (hk : k ≤ l.length) : ∃ p c p' c', W.heap[q]? = some (.cells #[.slice p l.length c, .bool bad] T (0, 0)) ∧ RdB W (.slice p l.length c) l ∧
 (∀ W', (Instr.slice 26 (.slice p l.length c) (some (.int .i64 (k : Int))) none none).run Tryz.prog W' = .ok (.slice p' (l.length - k) c') W') ∧
 DSt T w (W.setCell ⟨q, 0, none⟩ (.slice p' (l.length - k) c')) q (l.drop k) bad ∧ RTo q W (W.setCell ⟨q, 0, none⟩ (.slice p' (l.length - k) c')) := by
 obtain ⟨p, c, h1, h2⟩ := h.box
 obtain ⟨p', h3, h4⟩ := rd_rest h2 hk
 refine ⟨p, c, p', c - k, h1, h2.below h.b, h3, ⟨Kbf h.b h.base _, h.base, p', c - k, ?_, ?_⟩, RTo.set q W _⟩
 ·rw [List.length_drop]
  exact heap_setCell_same W q 0 #[.slice p l.length c, .bool bad] T (.slice p' (l.length - k) (c - k)) h1
 ·rw [List.length_drop]; exact h4
end
abbrev badV : Value := .iface 154 (.agg #[])
abbrev given : Ending := .panicked [{ v := badV, recovered := false }]
theorem Kap (w : World) : Calls Tryz.prog 105 #[.bool true] w fun e w' => e = .returned (.tuple #[]) ∧ w = w' := by
 go_enter Tryz.func105, Tryz.ntmps105
 go_wp2
 go_end0
 exact ⟨rfl, rfl⟩
theorem Ka1 (w : World) : Calls Tryz.prog 105 #[.bool false] w fun e w' => e = given ∧ w = w' := by
 go_enter Tryz.func105, Tryz.ntmps105
 go_wp2
 exact ⟨rfl, rfl, rfl⟩
def Reads {α : Type} (w W : World) (q : Nat) (r : Option (α × List UInt8)) (ok : α → Value → World → Prop) (e : Ending) (W' : World) : Prop :=
 RTo q W W' ∧ Below w.heap.size w W' ∧ match r with
  | some (x, s) => ∃ v, e = .returned v ∧ ok x v W' ∧ RSt 141 w W' q s
  | none => e = given
theorem Reads.some {α : Type} {w W W' : World} {q : Nat} {x : α} {s : List UInt8} {ok : α → Value → World → Prop} {e : Ending} (h : Reads w W q (some (x, s)) ok e W') : RTo q W W' ∧ Below w.heap.size w W' ∧ ∃ v, e = .returned v ∧ ok x v W' ∧ RSt 141 w W' q s := h
theorem Reads.none {α : Type} {w W W' : World} {q : Nat} {ok : α → Value → World → Prop} {e : Ending} (h : Reads w W q (none : Option (α × List UInt8)) ok e W') : RTo q W W' ∧ Below w.heap.size w W' ∧ e = given := h
section
variable {T : TypeId} {w W W1 W' : World} {q : Nat} {l m : List UInt8}
theorem RSt.other (h : RSt T w W q l) (hb : Below w.heap.size w W') (hx : W'.heap[q]? = W.heap[q]?) : RSt T w W' q l := by
 obtain ⟨p, c, h1, h2⟩ := h.box
 exact ⟨hb, h.base, p, c, hx.trans h1, h2⟩
end
theorem put_bytesR {w : World} {ad : Addr} {p : Option Addr} {n c : Nat} {u : Value} (hc : w.cell? ad = some u) (hf : w.frozen? ad = false) : (storeVar 26 ad (.slice p n c)).run Tryz.prog w = .ok () (w.setCell ad (.slice p n c)) := by
 simp [storeVar, go_sem, hc, hf]
theorem rd_first {W : World} {p : Option Addr} {c : Nat} {l : List UInt8} (h : RdB W (.slice p l.length c) l) (hl : 0 < l.length) : ∃ b o, p = some ⟨b, o, none⟩ ∧ W.cell? ⟨b, o, none⟩ = some (.int .u8 ((l[0]).toNat : Int)) := by
 obtain ⟨a1, cap, heq, ⟨hn, hm, hz⟩, hcell⟩ := h
 cases heq
 cases p with
 | none => have := hz rfl; omega
 | some ad =>
   obtain ⟨hs, hc⟩ := hcell ad rfl
   obtain ⟨b, o, sp⟩ := ad
   have hs := hs (fun e => by rw [e] at hl; simp at hl)
   simp only at hs; subst hs
   have := hc 0 l[0] (List.getElem?_eq_getElem hl)
   exact ⟨b, o, rfl, by simpa using this⟩
theorem Kcb {w W : World} {q : Nat} {l : List UInt8} (h : RSt 141 w W q l) (hl : 0 < l.length) :
 Calls Tryz.prog 110 #[.pointer (some ⟨q, 0, none⟩)] W fun e W' => e = .returned (.int .u8 ((l[0]).toNat : Int)) ∧ RSt 141 w W' q (l.drop 1) ∧ RTo q W W' := by
 obtain ⟨p, c, p', c', h1, h2, h3, h4, h5⟩ := h.rest (k := 1) (by omega)
 have z1 : (l.length : Int) ≤ 9223372036854775807 := by
  obtain ⟨a1, cap, heq, ⟨hn, hm, hz⟩, _⟩ := h2
  cases heq; unfold maxLen at hm; omega
 have hpos : (0 : Int) < (l.length : Int) := by omega
 obtain ⟨b, o, rfl, hc⟩ := rd_first h2 hl
 have hq := Kab (o := 0) h1 rfl
 have hcW := hc
 have hst := put_bytesR (p := p') (n := l.length - 1) (c := c') hq (Kav (o := 0) h1)
 generalize l[0] = x0 at *
 have HSL := yh (fun W' => (Kbn Tryz.underlying26 _ _ _ _ W').trans (h3 W'))
 have HST := yh hst
 have HM := yh (Kap W)
 have HF := yh (And.intro h4 h5)
 clear h h1 h2 h3 h4 h5 hc hst
 go_enter Tryz.func110, Tryz.ntmps110
 go_wp2_with (first
  | (go_at_call 105; refine HM.out.mono ?_; rintro e W1 ⟨rfl, rfl⟩)
  | ((with_reducible apply op_slice); exact HSL.out _; exact rfl; exact rfl; exact rfl; exact rfl)
  | ((with_reducible apply Kad); exact HST.out; exact rfl; exact rfl))
 go_ret
 exact ⟨rfl, HF.out⟩
theorem byte_bad {w W : World} {q : Nat} (h : RSt 141 w W q []) :
 Calls Tryz.prog 110 #[.pointer (some ⟨q, 0, none⟩)] W fun e W' => e = given ∧ W = W' := by
 obtain ⟨p, c, h1, h2⟩ := h.box
 have hq : W.cell? ⟨q, 0, none⟩ = some (.slice p 0 c) := Kab (o := 0) h1 rfl
 have HM := yh (Ka1 W)
 clear h h1 h2
 go_enter Tryz.func110, Tryz.ntmps110
 go_wp2_with (go_at_call 105; refine HM.out.mono ?_; rintro e W1 ⟨rfl, rfl⟩)
 exact ⟨rfl, rfl, rfl⟩
theorem rdN_cons {i a : Nat} {l : List UInt8} (h : 0 < l.length) : rdN i a l = if 9 ≤ i ∧ 2 ≤ (l[0]).toNat then none else if (l[0]).toNat < 128 then (if 0 < (l[0]).toNat ∨ i = 0 then some (a + (l[0]).toNat * 128 ^ i, l.drop 1) else none) else rdN (i + 1) (a + ((l[0]).toNat - 128) * 128 ^ i) (l.drop 1) := by
 cases l with
 | nil => simp at h
 | cons c r => rw [rdN]; rfl
theorem bits_and127 {c : Nat} (h : c < 256) : bits .and .u8 (c : Int) 127 = ((c % 128 : Nat) : Int) := by
 have h1 : bits .and .u8 (c : Int) ((127 : Nat) : Int) = ((c &&& 127 : Nat) : Int) := u8_and_nat c 127 h (by decide)
 have h2 : c &&& 127 = c % 128 := Nat.and_two_pow_sub_one_eq_mod c 7
 rw [h2] at h1
 exact h1
theorem bits_step {i a c : Nat} (hi : i ≤ 9) (ha : a < 128 ^ i) (hc : c < 256) (h9 : i = 9 → c < 2) :
 bits .or .u64 (a : Int) (IntKind.u64.wrap (IntKind.u64.wrap (bits .and .u8 (c : Int) 127) * 2 ^ (7 * i))) = ((a + c % 128 * 128 ^ i : Nat) : Int) := by
 rw [bits_and127 hc]
 have hp := pow_le hi
 have hpw : (2 : Nat) ^ (7 * i) = 128 ^ i := by rw [Nat.pow_mul]
 have hx : c % 128 * 128 ^ i < 18446744073709551616 := by
  by_cases e : i = 9
  ·have := h9 e
   subst e
   rw [pow9]; omega
  ·have h8 : (128 : Nat) ^ i ≤ 128 ^ 8 := Nat.pow_le_pow_right (by omega) (by omega)
   have h8' : (128 : Nat) ^ 8 = 72057594037927936 := by decide
   rw [h8'] at h8
   have : c % 128 * 128 ^ i ≤ 127 * 72057594037927936 := Nat.mul_le_mul (by omega) h8
   omega
 have e1 : IntKind.u64.wrap ((c % 128 : Nat) : Int) = ((c % 128 : Nat) : Int) := by rw [IntKind.wrap_u64]; omega
 have e2 : (((c % 128 : Nat) : Int) * 2 ^ (7 * i)) = ((c % 128 * 128 ^ i : Nat) : Int) := by rw [← hpw]; push_cast; rfl
 have e3 : IntKind.u64.wrap ((c % 128 * 128 ^ i : Nat) : Int) = ((c % 128 * 128 ^ i : Nat) : Int) := by rw [IntKind.wrap_u64]; omega
 rw [e1, e2, e3, u64_or_nat a _ (by omega) hx]
 congr 1
 have := nat_join (7 * i) (c % 128 * 128 ^ i) a (by rw [hpw]; exact Nat.mul_mod_left _ _) (by rw [hpw]; exact ha)
 rw [Nat.or_comm, this, Nat.add_comm]
theorem Kat {w W : World} {q : Nat} {l : List UInt8} (h : RSt 141 w W q l) :
 Calls Tryz.prog 55 #[.pointer (some ⟨q, 0, none⟩)] W (Reads w W q (rdN 0 0 l) fun n v _ => v = .int .u64 (n : Int)) := by
 have H := yh h
 clear h
 go_enter Tryz.func55, Tryz.ntmps55
 go_wp2
 go_loopw [3, 4] (fun n s wr => ∃ i a : Nat, i ≤ 9 ∧ Hid (a < 128 ^ i) ∧ n = .int .u64 (a : Int) ∧ s = .int .i64 (7 * (i : Int)) ∧ Hid (∃ m, RSt 141 w wr q m ∧ RTo q W wr ∧ rdN i a m = rdN 0 0 l)) (fun _ s _ => 70 - (intOf s).toNat)
 case atStart => exact ⟨0, 0, by omega, yh (by simp), rfl, rfl, yh ⟨l, H.out, RTo.refl _ _, rfl⟩⟩
 case round =>
  obtain ⟨i, a, hi, Ha, rfl, rfl, HI⟩ := hrel
  obtain ⟨m, hm, tm, em⟩ := HI.out
  by_cases hl : 0 < m.length
  ·rw [rdN_cons hl] at em
   have HB := yh (Kcb hm hl)
   have hc := (m[0]).toNat_lt
   generalize hx : (m[0]).toNat = c at *
   by_cases hg : 9 ≤ i ∧ 2 ≤ c
   ·have g1 : decide (7 * (i : Int) < 63) = false := by rw [decide_eq_false_iff_not]; omega
    have g2 : decide ((c : Int) < 2) = false := by rw [decide_eq_false_iff_not]; omega
    rw [if_pos hg] at em
    have HT := yh (And.intro tm em)
    clear HI hm tm em
    go_wp2_with (first
     | (go_at_call 110; refine HB.out.mono ?_; rintro e W1 ⟨rfl, h1, t1⟩; have H1 := yh (And.intro h1 t1); clear h1 t1)
     | (go_at_call 105; refine (Ka1 _).mono ?_; rintro e W2 ⟨rfl, rfl⟩))
    refine ⟨rfl, ?_⟩
    refine ⟨HT.out.1.trans H1.out.2, H1.out.1.b, ?_⟩
    rw [← HT.out.2]
   ·rw [if_neg hg] at em
    have hbs := bits_step hi Ha.out (by omega : c < 256) (fun e => by omega)
    have h9 : ¬ ((i : Int) < 9) → (c : Int) < 2 := by omega
    by_cases hlow : c < 128
    ·rw [if_pos hlow] at em
     have hcl : c % 128 = c := by omega
     rw [hcl] at hbs
     have l1 : (c : Int) < 128 := by omega
     by_cases hz : 0 < c ∨ i = 0
     ·rw [if_pos hz] at em
      have HT := yh (And.intro tm em)
      clear HI hm tm em
      by_cases hcz : 0 < c
      ·have l2 : (0 : Int) < (c : Int) := by omega
       by_cases hi9 : i < 9
       ·have l3 : 7 * (i : Int) < 63 := by omega
        go_wp2_with (first
         | (go_at_call 110; refine HB.out.mono ?_; rintro e W1 ⟨rfl, h1, t1⟩; have H1 := yh (And.intro h1 t1); clear h1 t1)
         | (go_at_call 105; refine (Kap _).mono ?_; rintro e W2 ⟨rfl, rfl⟩))
        go_ret
        refine ⟨HT.out.1.trans H1.out.2, H1.out.1.b, ?_⟩
        rw [← HT.out.2]
        exact ⟨_, rfl, rfl, H1.out.1⟩
       ·have l3 : ¬ (7 * (i : Int) < 63) := by omega
        have l4 : (c : Int) < 2 := by omega
        go_wp2_with (first
         | (go_at_call 110; refine HB.out.mono ?_; rintro e W1 ⟨rfl, h1, t1⟩; have H1 := yh (And.intro h1 t1); clear h1 t1)
         | (go_at_call 105; refine (Kap _).mono ?_; rintro e W2 ⟨rfl, rfl⟩))
        go_ret
        refine ⟨HT.out.1.trans H1.out.2, H1.out.1.b, ?_⟩
        rw [← HT.out.2]
        exact ⟨_, rfl, rfl, H1.out.1⟩
      ·obtain rfl : c = 0 := by omega
       obtain rfl : i = 0 := by omega
       have ha0 := Ha.out
       obtain rfl : a = 0 := by simpa using ha0
       have hb0 : bits .or .u64 0 (IntKind.u64.wrap (IntKind.u64.wrap (bits .and .u8 0 127))) = 0 := by decide
       clear hbs ha0
       go_wp2_with (first
        | (go_at_call 110; refine HB.out.mono ?_; rintro e W1 ⟨rfl, h1, t1⟩; have H1 := yh (And.intro h1 t1); clear h1 t1)
        | (go_at_call 105; refine (Kap _).mono ?_; rintro e W2 ⟨rfl, rfl⟩))
       go_ret
       refine ⟨HT.out.1.trans H1.out.2, H1.out.1.b, ?_⟩
       rw [← HT.out.2]
       exact ⟨_, rfl, rfl, H1.out.1⟩
     ·rw [if_neg hz] at em
      have HT := yh (And.intro tm em)
      obtain rfl : c = 0 := by omega
      have l2 : (7 * (i : Int) == 0) = false := by rw [beq_eq_false_iff_ne]; omega
      clear HI hm tm em
      by_cases hi9 : i < 9
      ·have l3 : 7 * (i : Int) < 63 := by omega
       go_wp2_with (first
        | (go_at_call 110; refine HB.out.mono ?_; rintro e W1 ⟨rfl, h1, t1⟩; have H1 := yh (And.intro h1 t1); clear h1 t1)
        | (go_at_call 105; first | (refine (Kap _).mono ?_; rintro e W2 ⟨rfl, rfl⟩) | (refine (Ka1 _).mono ?_; rintro e W2 ⟨rfl, rfl⟩)))
       refine ⟨rfl, ?_⟩
       refine ⟨HT.out.1.trans H1.out.2, H1.out.1.b, ?_⟩
       rw [← HT.out.2]
      ·have l3 : ¬ (7 * (i : Int) < 63) := by omega
       go_wp2_with (first
        | (go_at_call 110; refine HB.out.mono ?_; rintro e W1 ⟨rfl, h1, t1⟩; have H1 := yh (And.intro h1 t1); clear h1 t1)
        | (go_at_call 105; first | (refine (Kap _).mono ?_; rintro e W2 ⟨rfl, rfl⟩) | (refine (Ka1 _).mono ?_; rintro e W2 ⟨rfl, rfl⟩)))
       refine ⟨rfl, ?_⟩
       refine ⟨HT.out.1.trans H1.out.2, H1.out.1.b, ?_⟩
       rw [← HT.out.2]
    ·rw [if_neg hlow] at em
     have hcl : c % 128 = c - 128 := by omega
     rw [hcl] at hbs
     have l1 : ¬ ((c : Int) < 128) := by omega
     have hi9 : i < 9 := by omega
     have hi10 : i + 1 ≤ 9 := hi9
     have l3 : 7 * (i : Int) < 63 := by omega
     have ha2 : a + (c - 128) * 128 ^ i < 128 ^ (i + 1) := by
      have := Ha.out
      have : (c - 128) * 128 ^ i ≤ 127 * 128 ^ i := Nat.mul_le_mul_right _ (by omega)
      rw [Nat.pow_succ]; omega
     have HA2 := yh ha2
     have HT := yh (And.intro tm em)
     clear HI hm tm em ha2
     go_wp2_with (first
      | (go_at_call 110; refine HB.out.mono ?_; rintro e W1 ⟨rfl, h1, t1⟩; have H1 := yh (And.intro h1 t1); clear h1 t1)
      | (go_at_call 105; refine (Kap _).mono ?_; rintro e W2 ⟨rfl, rfl⟩))
     go_roundw
     case rel => exact ⟨i + 1, _, hi10, HA2, rfl, by go_num, yh ⟨_, H1.out.1, HT.out.1.trans H1.out.2, HT.out.2⟩⟩
     case measure => simp [intOf]; omega
  ·obtain rfl : m = [] := List.eq_nil_of_length_eq_zero (by omega)
   have HB := yh (byte_bad hm)
   have HT := yh (And.intro tm (And.intro hm.b em))
   clear HI hm tm em
   go_wp2_with (go_at_call 110; refine HB.out.mono ?_; rintro e W1 ⟨rfl, rfl⟩)
   refine ⟨rfl, ?_⟩
   refine ⟨HT.out.1, HT.out.2.1, ?_⟩
   rw [← HT.out.2.2, rdN]
theorem Kde {l r : List UInt8} {n : Nat} (h : rdN 0 0 l = some (n, r)) : n < 18446744073709551616 := (Kb8.sound _ _ _ h).2
theorem ofInt_nat {a : Nat} (h : a < 18446744073709551616) : (BitVec.ofInt 64 (a : Int)).toNat = a := ofInt_u64 a h
theorem xor_m1 {a : Nat} (h1 : a < 9223372036854775808) : bits .xor .i64 (a : Int) (-1) = -(a : Int) - 1 := by
 show IntKind.i64.wrap ((BitVec.ofInt 64 (a : Int) ^^^ BitVec.ofInt 64 (-1)).toNat : Int) = _
 have e : BitVec.ofInt 64 (-1) = BitVec.allOnes 64 := by decide
 rw [e, BitVec.xor_allOnes, BitVec.toNat_not, ofInt_nat (by omega)]
 simp only [IntKind.wrap, IntKind.signed, IntKind.bits]
 simp
 omega
theorem xor_0 {a : Nat} (h1 : a < 9223372036854775808) : bits .xor .i64 (a : Int) 0 = (a : Int) := by
 show IntKind.i64.wrap ((BitVec.ofInt 64 (a : Int) ^^^ BitVec.ofInt 64 0).toNat : Int) = _
 have e : BitVec.ofInt 64 0 = 0#64 := by decide
 rw [e, BitVec.xor_zero, ofInt_nat (by omega)]
 simp only [IntKind.wrap, IntKind.signed, IntKind.bits]
 simp
 omega
theorem un_bits {n : Nat} (hn : n < 18446744073709551616) : bits .xor .i64 ((n : Int) / 2) (wrap64 (-wrap64 (bits .and .u64 (n : Int) 1))) = unzz n := by
 have h1 : bits .and .u64 (n : Int) 1 = ((n % 2 : Nat) : Int) := by
  have h := u64_and_nat n 1 hn (by decide)
  rw [nat_mask1] at h
  exact h
 rw [h1]
 unfold unzz
 have hev : n % 2 = 0 ∨ n % 2 = 1 := by omega
 rcases hev with e | e
 ·rw [e, if_neg (by omega)]
  have e2 : wrap64 (-wrap64 ((0 : Nat) : Int)) = 0 := by simp [wrap64]
  rw [e2]
  exact xor_0 (a := n / 2) (by omega)
 ·rw [e, if_pos rfl]
  have e2 : wrap64 (-wrap64 ((1 : Nat) : Int)) = -1 := by simp [wrap64]
  rw [e2]
  exact xor_m1 (a := n / 2) (by omega)
theorem Kbm {w W : World} {q : Nat} {l : List UInt8} (h : RSt 141 w W q l) :
 Calls Tryz.prog 123 #[.pointer (some ⟨q, 0, none⟩)] W (Reads w W q (Kbi l) fun n v _ => v = .int .i64 n) := by
 have HN := yh (Kat h)
 clear h
 unfold Kbi Dec.map
 cases hr : rdN 0 0 l with
 | none =>
   rw [hr] at HN
   go_enter Tryz.func123, Tryz.ntmps123
   go_wp2_with (go_at_call 55; refine HN.out.mono ?_; rintro e W1 h1; obtain ⟨t1, hb1, rfl⟩ := h1.none; have H1 := yh (And.intro t1 hb1); clear h1 t1 hb1)
   exact ⟨rfl, H1.out.1, H1.out.2, rfl⟩
 | some p =>
   obtain ⟨n, r⟩ := p
   rw [hr] at HN
   have hn := Kde hr
   have hev : n % 2 = 0 ∨ n % 2 = 1 := by omega
   have hun := un_bits hn
   go_enter Tryz.func123, Tryz.ntmps123
   go_wp2_with (go_at_call 55; refine HN.out.mono ?_; rintro e W1 h1; obtain ⟨t1, hb1, v1, rfl, rfl, s1⟩ := h1.some; have H1 := yh (And.intro t1 (And.intro hb1 s1)); clear h1 s1 t1 hb1)
   go_ret
   refine ⟨H1.out.1, H1.out.2.1, _, rfl, ?_, H1.out.2.2⟩
   show Value.int .i64 _ = Value.int .i64 (unzz n)
   rw [← hun]
def SOwn (w : World) (P : Nat → Prop) (s : List UInt8) (x : Array Value) : Prop := x = #[.string (strB s)]
theorem el_str : EL SOwn 1 := by
 refine ⟨fun _ h => h, fun _ h => h, fun h => by rw [h]; rfl, fun h u hu => ?_⟩
 rw [h] at hu
 simp only [List.mem_cons, List.not_mem_nil, or_false] at hu
 subst hu; rfl
theorem info_prop : ∃ i, Tryz.prog.info? 136 = some i ∧ i.zero = some (.agg #[.string ⟨#[]⟩, .int .i64 0, .bool false, .int .i64 0, .string ⟨#[]⟩, .slice none 0 0, .slice none 0 0]) ∧ i.size = 7 ∧ i.bytes = 104 := info_parts (by kernel_rfl)
theorem info_node : ∃ i, Tryz.prog.info? 70 = some i ∧ i.zero = some (.agg #[.int .i64 0, .slice none 0 0, .slice none 0 0]) ∧ i.size = 3 ∧ i.bytes = 56 := info_parts (by kernel_rfl)
theorem info_rel : ∃ i, Tryz.prog.info? 72 = some i ∧ i.zero = some (.agg #[.int .i64 0, .int .i64 0, .int .i64 0, .string ⟨#[]⟩, .slice none 0 0]) ∧ i.size = 5 ∧ i.bytes = 64 := info_parts (by kernel_rfl)
theorem info_change : ∃ i, Tryz.prog.info? 74 = some i ∧ i.zero = some (.agg #[.int .i64 0, .int .i64 0, .int .i64 0, .int .i64 0, .slice none 0 0, .slice none 0 0, .int .i64 0, .int .i64 0, .int .i64 0, .string ⟨#[]⟩, .slice none 0 0]) ∧ i.size = 11 ∧ i.bytes = 144 := info_parts (by kernel_rfl)
theorem gt_val : GT Tryz.prog 48 46 6 := .of (bytes := 88) Tryz.underlying46 info_val rfl (by decide)
theorem gt_prop : GT Tryz.prog 136 68 7 := .of (bytes := 104) Tryz.underlying68 info_prop rfl (by decide)
theorem gt_node : GT Tryz.prog 70 22 3 := .of (bytes := 56) Tryz.underlying22 info_node rfl (by decide)
theorem gt_rel : GT Tryz.prog 72 23 5 := .of (bytes := 64) Tryz.underlying23 info_rel rfl (by decide)
theorem gt_change : GT Tryz.prog 74 58 11 := .of (bytes := 144) Tryz.underlying58 info_change rfl (by decide)
theorem gt_str : GT Tryz.prog 9 45 1 := .of (bytes := 16) Tryz.underlying45 info_str rfl (by decide)
section
variable {α : Type} {E : World → (Nat → Prop) → α → Array Value → Prop} {K : Nat} {t T R : TypeId} {w W W1 W2 : World} {q : Nat} {J : List α → World → Value → Prop} {m : List α} {kv kv' ov : Value} {l' s : List UInt8}
structure KeepJ (w W : World) (q : Nat) (J : List α → World → Value → Prop) : Prop where
 keep : ∀ {m W1 W2 kv}, J m W1 kv → W1.heap.size ≤ W2.heap.size → Below w.heap.size w W2 → (∀ b, b < W1.heap.size → b ≠ q → (b < W.heap.size ∨ kv.ownBlock = some b) → W2.heap[b]? = W1.heap[b]?) → J m W2 kv
 lt : ∀ {m W1 kv}, J m W1 kv → ∀ b, kv.ownBlock = some b → b < W1.heap.size
structure RInv (R : TypeId) (E : World → (Nat → Prop) → α → Array Value → Prop) (t : TypeId) (K : Nat) (w W : World) (q : Nat) (J : List α → World → Value → Prop) (m : List α) (W1 : World) (kv ov : Value) (l' : List UInt8) : Prop where
 st : RSt R w W1 q l'
 j : J m W1 kv
 row : GIn E t K (fun b => W.heap.size ≤ b ∧ kv.ownBlock ≠ some b) W1 ov m
 size : W.heap.size ≤ W1.heap.size
 q : q < W.heap.size
structure ROne (R : TypeId) (E : World → (Nat → Prop) → α → Array Value → Prop) (w W : World) (q : Nat) (J : List α → World → Value → Prop) (m : List α) (W1 : World) (kv : Value) (x : α) (s : List UInt8) (cs : Array Value) (kv' : Value) (W2 : World) : Prop where
 size : W1.heap.size ≤ W2.heap.size
 keep : ∀ b, b < W1.heap.size → b ≠ q → W.heap.size ≤ b → kv.ownBlock ≠ some b → W2.heap[b]? = W1.heap[b]?
 it : E W2 (fun b => W1.heap.size ≤ b ∧ kv'.ownBlock ≠ some b) x cs
 st : RSt R w W2 q s
 j : J (m ++ [x]) W2 kv'
 own : kv'.ownBlock = kv.ownBlock ∨ ∀ b, kv'.ownBlock = some b → W1.heap.size ≤ b
theorem RInv.step {Pg : Program} (hE : EL E K) (hG : GT Pg t T K) (hJ : KeepJ w W q J) (h : RInv R E t K w W q J m W1 kv ov l') {x : α} {cs : Array Value} (g : ROne R E w W q J m W1 kv x s cs kv' W2) (hm : m.length ≤ 1000000) (ty : TypeId) {W3 : World} (hb : Below W2.heap.size W2 W3) :
 ∃ v' W4, (Builtin.append_ #[T, T] ty #[ov, .slice (some ⟨W3.heap.size, 0, none⟩) 1 1]).run Pg (W3.alloc (.cells cs t)) = .ok v' W4 ∧ RInv R E t K w W q J (m ++ [x]) W4 kv' v' s := by
 have hlt := hJ.lt g.j
 have hkl := hJ.lt h.j
 have hs3 := hb.size
 have hsz := g.size
 have hbs := h.size
 have hown : ∀ b, b < W1.heap.size → kv.ownBlock ≠ some b → kv'.ownBlock ≠ some b := fun b h1 h2 => by
  rcases g.own with e | e
  ·rw [e]; exact h2
  ·intro e2; have := e b e2; omega
 obtain ⟨v', W4, a1, a2, a3⟩ := h.row.step hE hG (P' := fun b => W.heap.size ≤ b ∧ kv'.ownBlock ≠ some b) (W1 := W3) (v := x) (x := cs)
  (fun b hp hl => (hb.block b (by omega)).trans (g.keep b hl (by have := h.q; omega) hp.1 hp.2)) (by omega) (fun b hl hp => ⟨hp.1, hown b hl hp.2⟩) (fun b hl => ⟨by omega, fun e => by have := hlt b e; omega⟩)
  (hE.imp (fun b _ hp => ⟨hp.1, by have := hp.1; omega, hp.2⟩) (hE.keep (fun b _ hl => hb.block b hl) g.it)) hm ty
 have hb4 : Below W2.heap.size W2 (W3.alloc (.cells cs t)) := Kaa hb (Kac _)
 have hrow := h.row.lt
 have hk4 : ∀ b, b < W2.heap.size → ov.ownBlock ≠ some b → W4.heap[b]? = W2.heap[b]? := fun b hl ho => (a3.block b (by have := hb4.size; omega) ho).trans (hb4.block b hl)
 have hB4 : Below w.heap.size w W4 := by
  refine a3.below (Kaa g.st.b hb4) (fun b hl e => ?_) (by have := g.st.b.size; have := hb4.size; omega)
  have := (hrow b e).2.1
  have := g.st.base
  have := h.q
  omega
 have hs4 : W2.heap.size ≤ W4.heap.size := by have := a3.size; have := hb4.size; omega
 have hqo : ov.ownBlock ≠ some q := fun e => by have := (hrow q e).2.1; have := h.q; omega
 refine ⟨v', W4, a1, ⟨?_, ?_, a2, by omega, h.q⟩⟩
 ·exact g.st.other hB4 (hk4 q g.st.lt hqo)
 ·refine hJ.keep g.j hs4 hB4 fun b hl hq hor => hk4 b hl fun e => ?_
  obtain ⟨h1, h2, h3⟩ := hrow b e
  rcases hor with h4 | h4
  ·omega
  ·exact hown b h1 h3 h4
def RPost (R : TypeId) (E : World → (Nat → Prop) → α → Array Value → Prop) (t : TypeId) (K : Nat) (w W : World) (q : Nat) (J : List α → World → Value → Prop) (Jx : World → Prop) (n0 : Nat) (r : Option (List α × List UInt8)) (e : Ending) (W' : World) : Prop := match r with
 | some (xs, s) => ∃ v kv', e = .returned v ∧ RInv R E t K w W q J xs W' kv' v s ∧ s.length ≤ n0
 | none => e = .panicked [{ v := .iface 154 (.agg #[]), recovered := false }] ∧ Jx W' ∧ Below w.heap.size w W'
theorem RPost.of_some {Jx : World → Prop} {n0 : Nat} {r : Option (List α × List UInt8)} {xs : List α} {v : Value} {W' : World} (h : r = some (xs, s)) (g : RInv R E t K w W q J xs W' kv' v s) (hs : s.length ≤ n0) : RPost R E t K w W q J Jx n0 r (.returned v) W' := by
 subst h; exact ⟨v, kv', rfl, g, hs⟩
theorem RPost.of_none {Jx : World → Prop} {n0 : Nat} {r : Option (List α × List UInt8)} {W' : World} (h : r = none) (g : Jx W' ∧ Below w.heap.size w W') : RPost R E t K w W q J Jx n0 r given W' := by
 subst h; exact ⟨rfl, g⟩
theorem RPost.cases {Jx : World → Prop} {n0 : Nat} {r : Option (List α × List UInt8)} {e : Ending} {W' : World} (h : RPost R E t K w W q J Jx n0 r e W') : (r = none ∧ e = given ∧ Jx W' ∧ Below w.heap.size w W') ∨ ∃ xs s v kv', r = some (xs, s) ∧ e = .returned v ∧ RInv R E t K w W q J xs W' kv' v s ∧ s.length ≤ n0 := by
 cases r with
 | none => exact .inl ⟨rfl, h⟩
 | some p =>
   obtain ⟨xs, s⟩ := p
   obtain ⟨v, kv', h1, h2, h3⟩ := h
   exact .inr ⟨xs, s, v, kv', rfl, h1, h2, h3⟩
end
theorem sub_one {j : Nat} (hj : j ≤ 140737488355328) (W : World) : (binOp .sub 3 (.int .i64 ((j : Int) + 1)) (.int .i64 1)).run Tryz.prog W = .ok (.int .i64 (j : Int)) W := by
 have e : IntKind.i64.wrap (j : Int) = (j : Int) := by rw [IntKind.wrap_i64]; omega
 simp [go_sem, e]
theorem ia_text {b o n len c : Nat} (h : n < len) (W : World) : (Instr.indexAt 45 (.slice (some ⟨b, o, none⟩) len c) (.int .i64 (n : Int))).run Tryz.prog W = .ok (.pointer (some ⟨b, o + n, none⟩)) W := by simp [go_sem, h]
theorem geq_texts (s1 s2 : List UInt8) (W : World) : (binOp .geq 9 (.string (strB s1)) (.string (strB s2))).run Tryz.prog W = .ok (.bool (!(ltB s1 s2))) W := by
 simp [go_sem, Kb9, less_eq]
theorem risesS_any {w : World} {p : Option Addr} {c : Nat} {l : List (List UInt8)} (h : RdS w p c l) : Calls Tryz.prog 140 #[.slice p l.length c] w fun e w' => e = .returned (.bool (Ka7 l)) ∧ Below w.heap.size w w' := by
 have z1 : (l.length : Int) ≤ 140737488355328 := by have := h.2.1.1; omega
 have H := yh h
 clear h
 go_enter Tryz.func140, Tryz.ntmps140
 go_wp2
 go_loopw [3] (fun i W => ∃ j : Nat, j ≤ l.length ∧ i = .int .i64 ((j : Int) + 1) ∧ Hid (Ka7 (l.take (j + 1)) = true ∧ Below w.heap.size w W)) (fun i _ => l.length + 1 - (intOf i).toNat)
 case atStart => exact ⟨0, Nat.zero_le _, rfl, yh ⟨by cases l <;> simp [Ka7], Below.refl _ _⟩⟩
 case round =>
  obtain ⟨j, hj, rfl, HI⟩ := hrel
  by_cases hlt : j + 1 < l.length
  ·have hlt0 : j < l.length := by omega
   have g1 : (j : Int) + 1 < (l.length : Int) := by omega
   obtain ⟨bk, ok, rfl, q1, _⟩ := (H.out.below HI.out.2).get hlt0
   obtain ⟨bk', ok', e', q2, _⟩ := (H.out.below HI.out.2).get hlt
   cases e'
   have hst := Kd4 hlt
   have htk := fun h : Ka7 l = true => risesB_take h (j + 2) (by omega)
   generalize l[j] = s1 at *
   generalize l[j + 1] = s2 at *
   have HC := yh (And.intro hst htk)
   have hS0 : wr.drew.cell? ⟨bk, ok + j, none⟩ = some (.string (strB s1)) ∧ wr.drew.cell? ⟨bk, ok + (j + 1), none⟩ = some (.string (strB s2)) := ⟨q1, q2⟩
   have HB := yh (show Below w.heap.size w wr.drew from HI.out.2.drew)
   have hi1 : ∀ W' : World, (Instr.indexAt 45 (.slice (some ⟨bk, ok, none⟩) l.length c) (.int .i64 (j : Int))).run Tryz.prog W' = .ok (.pointer (some ⟨bk, ok + j, none⟩)) W' := by intro W'; simp [go_sem, hlt0]
   have hi2 : ∀ W' : World, (Instr.indexAt 45 (.slice (some ⟨bk, ok, none⟩) l.length c) (.int .i64 ((j : Int) + 1))).run Tryz.prog W' = .ok (.pointer (some ⟨bk, ok + (j + 1), none⟩)) W' := by
    intro W'
    have e : ((j : Int) + 1) = ((j + 1 : Nat) : Int) := by omega
    rw [e]
    exact ia_text hlt W'
   have hsub : ∀ W' : World, (binOp .sub 3 (.int .i64 ((j : Int) + 1)) (.int .i64 1)).run Tryz.prog W' = .ok (.int .i64 (j : Int)) W' := fun W' => sub_one (by omega) W'
   have HX := yh (And.intro hi1 (And.intro hi2 hsub))
   have HR := yh HI.out.1
   clear hst htk q1 q2 hi1 hi2 hsub HI
   cases hb : ltB s1 s2 with
   | true =>
     go_wp2
     obtain ⟨hi1, hi2, hsub⟩ := HX.out
     refine Kan (fun W => W.cell? ⟨bk, ok + j, none⟩ = some (.string (strB s1)) ∧ W.cell? ⟨bk, ok + (j + 1), none⟩ = some (.string (strB s2))) (by kernel_rfl) hS0 (fun hS => ?_)
     refine tk 0 10 (v := .slice (some ⟨bk, ok, none⟩) l.length c) rfl rfl (fun W hW => Kai rfl rfl) ?_
     simp only [Act.put, sA, sZ, sS]
     refine tk 1 11 (v := .int .i64 ((j : Int) + 1)) rfl rfl (fun W hW => Kai rfl rfl) ?_
     simp only [Act.put, sA, sZ, sS]
     refine tk 2 12 (v := .int .i64 (j : Int)) rfl rfl (fun W hW => Kaw rfl rfl rfl (hsub W)) ?_
     simp only [Act.put, sA, sZ, sS]
     refine tk 3 13 (v := .pointer (some ⟨bk, ok + j, none⟩)) rfl rfl (fun W hW => Kar rfl rfl rfl (hi1 W)) ?_
     simp only [Act.put, sA, sZ, sS]
     refine tk 4 14 (v := .string (strB s1)) rfl rfl (fun W hW => Kag rfl rfl (Kah (w := W) Tryz.underlying9 rfl hW.1)) ?_
     simp only [Act.put, sA, sZ, sS]
     refine tk 5 15 (v := .slice (some ⟨bk, ok, none⟩) l.length c) rfl rfl (fun W hW => Kai rfl rfl) ?_
     simp only [Act.put, sA, sZ, sS]
     refine tk 6 16 (v := .int .i64 ((j : Int) + 1)) rfl rfl (fun W hW => Kai rfl rfl) ?_
     simp only [Act.put, sA, sZ, sS]
     refine tk 7 17 (v := .pointer (some ⟨bk, ok + (j + 1), none⟩)) rfl rfl (fun W hW => Kar rfl rfl rfl (hi2 W)) ?_
     simp only [Act.put, sA, sZ, sS]
     refine tk 8 18 (v := .string (strB s2)) rfl rfl (fun W hW => Kag rfl rfl (Kah (w := W) Tryz.underlying9 rfl hW.2)) ?_
     simp only [Act.put, sA, sZ, sS]
     refine tk 9 19 (v := .bool (!(ltB s1 s2))) rfl rfl (fun W hW => exec_bins rfl rfl rfl (geq_texts s1 s2 W)) ?_
     simp only [Act.put, sA, sZ, sS]
     refine done (by kernel_rfl) ?_ _
     clear hS hS0 hi1 hi2 hsub
     simp only [hb, Bool.not_true]
     go_wp2
     go_roundw
     case rel => exact ⟨j + 1, by omega, by go_num, yh ⟨by rw [HC.out.1, HR.out, hb]; rfl, HB.out⟩⟩
     case measure => simp [intOf]; omega
   | false =>
     go_wp2
     obtain ⟨hi1, hi2, hsub⟩ := HX.out
     refine Kan (fun W => W.cell? ⟨bk, ok + j, none⟩ = some (.string (strB s1)) ∧ W.cell? ⟨bk, ok + (j + 1), none⟩ = some (.string (strB s2))) (by kernel_rfl) hS0 (fun hS => ?_)
     refine tk 0 10 (v := .slice (some ⟨bk, ok, none⟩) l.length c) rfl rfl (fun W hW => Kai rfl rfl) ?_
     simp only [Act.put, sA, sZ, sS]
     refine tk 1 11 (v := .int .i64 ((j : Int) + 1)) rfl rfl (fun W hW => Kai rfl rfl) ?_
     simp only [Act.put, sA, sZ, sS]
     refine tk 2 12 (v := .int .i64 (j : Int)) rfl rfl (fun W hW => Kaw rfl rfl rfl (hsub W)) ?_
     simp only [Act.put, sA, sZ, sS]
     refine tk 3 13 (v := .pointer (some ⟨bk, ok + j, none⟩)) rfl rfl (fun W hW => Kar rfl rfl rfl (hi1 W)) ?_
     simp only [Act.put, sA, sZ, sS]
     refine tk 4 14 (v := .string (strB s1)) rfl rfl (fun W hW => Kag rfl rfl (Kah (w := W) Tryz.underlying9 rfl hW.1)) ?_
     simp only [Act.put, sA, sZ, sS]
     refine tk 5 15 (v := .slice (some ⟨bk, ok, none⟩) l.length c) rfl rfl (fun W hW => Kai rfl rfl) ?_
     simp only [Act.put, sA, sZ, sS]
     refine tk 6 16 (v := .int .i64 ((j : Int) + 1)) rfl rfl (fun W hW => Kai rfl rfl) ?_
     simp only [Act.put, sA, sZ, sS]
     refine tk 7 17 (v := .pointer (some ⟨bk, ok + (j + 1), none⟩)) rfl rfl (fun W hW => Kar rfl rfl rfl (hi2 W)) ?_
     simp only [Act.put, sA, sZ, sS]
     refine tk 8 18 (v := .string (strB s2)) rfl rfl (fun W hW => Kag rfl rfl (Kah (w := W) Tryz.underlying9 rfl hW.2)) ?_
     simp only [Act.put, sA, sZ, sS]
     refine tk 9 19 (v := .bool (!(ltB s1 s2))) rfl rfl (fun W hW => exec_bins rfl rfl rfl (geq_texts s1 s2 W)) ?_
     simp only [Act.put, sA, sZ, sS]
     refine done (by kernel_rfl) ?_ _
     clear hS hS0 hi1 hi2 hsub
     simp only [hb, Bool.not_false]
     go_wp2
     go_ret
     refine ⟨?_, HB.out⟩
     have hf : Ka7 l = false := by
      cases hr : Ka7 l with
      | false => rfl
      | true =>
        have := HC.out.2 hr
        rw [HC.out.1, hb, Bool.and_false] at this
        cases this
     rw [hf]; rfl
  ·have g1 : ¬ ((j : Int) + 1 < (l.length : Int)) := by omega
   have hf : Ka7 l = true := by
    have := HI.out.1
    rw [List.take_of_length_le (by omega)] at this
    exact this
   have HF := yh (And.intro hf HI.out.2)
   clear hf HI
   go_wp2
   go_ret
   exact ⟨by rw [HF.out.1]; rfl, HF.out.2⟩
theorem keysG_any {w : World} {p : Option Addr} {c : Nat} {l : List PropD} (h : GRd PRd 7 w p c l) (hl : l.length ≤ 1000000) : Calls Tryz.prog 166 #[.slice p l.length c] w fun e w' => ∃ v, e = .returned v ∧ OwnsP w' (fun b => w.heap.size ≤ b) 9 1 v l.length (l.map fun p => strV p.key) ∧ Below w.heap.size w w' := by
 have z1 : (l.length : Int) ≤ 1000000 := by omega
 have H := yh h
 clear h
 go_enter Tryz.func166, Tryz.ntmps166
 go_wp2
 go_loopw [3, 8] (fun ov i W => ∃ (j : Nat) (a : Option Addr) (n1 c1 : Nat), j ≤ l.length ∧ i = .int .i64 (j : Int) ∧ ov = .slice a n1 c1 ∧ Hid (OwnsP W (fun b => w.heap.size ≤ b) 9 1 (.slice a n1 c1) j ((l.take j).map fun p => strV p.key) ∧ Below w.heap.size w W)) (fun _ i _ => l.length - (intOf i).toNat)
 case atStart => exact ⟨0, none, 0, 0, Nat.zero_le _, rfl, rfl, yh ⟨⟨⟨by simp, .inl ⟨rfl, rfl⟩⟩, fun g hg => by simp [Value.ownBlock] at hg⟩, Below.refl _ _⟩⟩
 case round =>
  obtain ⟨j, a, n1, c1, hj, rfl, rfl, HI⟩ := hrel
  by_cases hlt : j < l.length
  ·have hlt1 : j + 1 ≤ l.length := hlt
   obtain ⟨b, of, cs, rfl, hs, hc, hv⟩ := H.out.get hlt
   have hones := ef_prop.ones hv
   have hk0 : cs[0]? = some (.string (strB l[j].key)) := by obtain ⟨y, e, _⟩ := hv; rw [e, Array.getElem?_append_left (by simp)]; rfl
   have HL1 := yh (StT.load Kdk hs (fun i u hu => Kam HI.out.2 (ltOf (hc i u hu)) (hc i u hu)) (W := wr))
   have HS := yh (StT.fresh Kdk hs hones (W := wr))
   have hb := Kac (w := wr) (.cells cs 136)
   have HK := yh (Kah (P := Tryz.prog) (w := wr.alloc (.cells cs 136)) Tryz.underlying9 rfl (Kab (o := 0) (heap_alloc_new wr (.cells cs 136)) hk0))
   have HBS := yh (Kao (P := Tryz.prog) (w := wr.alloc (.cells cs 136)) (v := .string (strB l[j].key)) Tryz.underlying45 Tryz.sizeOf9 Tryz.zeroValue9 rfl (by omega) (by omega))
   have hb2 : Below wr.heap.size wr ((wr.alloc (.cells cs 136)).alloc (.cells #[.string (strB l[j].key)] 9)) := hb.alloc (by simp) _
   have ho := HI.out.1.keep (w' := (wr.alloc (.cells cs 136)).alloc (.cells #[.string (strB l[j].key)] 9)) fun b _ hl => hb2.block b hl
   obtain ⟨v', W4, a1, a2, a3, a4, a5⟩ := gt_str.app ho.1 (g := (wr.alloc (.cells cs 136)).heap.size) (x := #[.string (strB l[j].key)]) rfl (fun u hu => by simp only [List.mem_cons, List.not_mem_nil, or_false] at hu; subst hu; rfl) (heap_alloc_new _ _) (by omega) 45
   have hw := HI.out.2.size
   have hsz : ((wr.alloc (.cells cs 136)).alloc (.cells #[.string (strB l[j].key)] 9)).heap.size = wr.heap.size + 2 := by simp
   have hB4 : Below w.heap.size w W4 := a3.below (Kaa HI.out.2 hb2) (fun b hl e => by have := HI.out.1.2 b e; omega) (by omega)
   have hstep : (l.take (j + 1)).map (fun p => strV p.key) = (l.take j).map (fun p => strV p.key) ++ [strV l[j].key] := by rw [List.take_succ_eq_append_getElem hlt, List.map_append]; rfl
   have how : OwnsP W4 (fun b => w.heap.size ≤ b) 9 1 v' (j + 1) ((l.take (j + 1)).map fun p => strV p.key) := ⟨by rw [hstep]; simpa [strV] using a2, fun g hg => by
    rcases a4 with e | e
    ·exact HI.out.1.2 g (e.symm.trans hg)
    ·rw [e] at hg; cases hg; omega⟩
   obtain ⟨pk, nk, ck, rfl⟩ : ∃ pk n ck, v' = .slice pk n ck := by
    rcases how.1.2 with ⟨h, _⟩ | ⟨g, cap, cur, h, _⟩ <;> exact ⟨_, _, _, h⟩
   have HA := yh a1
   have HF := yh (And.intro how hB4)
   clear hones hk0 hb hb2 ho a1 a2 a3 a4 a5 hw hsz hB4 hstep how hc hv
   go_wp2_with (first
    | ((with_reducible apply Kal); exact HL1.out; exact rfl; clear HL1)
    | ((with_reducible apply Kad); exact HS.out _ rfl; exact rfl; exact rfl; clear HS)
    | ((with_reducible apply Kal); exact HK.out; exact rfl; clear HK)
    | ((with_reducible apply op_bs1); exact HBS.out; exact rfl; clear HBS)
    | ((with_reducible apply Kbc); exact HA.out; exact rfl; exact rfl))
   go_roundw
   case rel => exact ⟨j + 1, pk, nk, ck, hlt1, by go_num, rfl, HF⟩
   case measure => simp [intOf]; omega
  ·obtain rfl : j = l.length := by omega
   have hlast := HI.out.1
   rw [List.take_length] at hlast
   have HF := yh (And.intro hlast HI.out.2)
   clear hlast HI
   go_wp2
   go_ret
   exact ⟨_, rfl, HF.out⟩
theorem wpList_runG {P : Program} {ops : Array Oper} {rest : List Oper} {o : Oper} {a : Act} {w w' : World} {v : Value} {Q : Exit → Act → World → Prop} (hw : Region.wanted o (yielded ops a.tmps) = true) (hr : (execOp a.eval o).run P w = .ok (.value v) w') (h : wpList P ops Q rest (a.put o.dst v) w') : wpList P ops Q (o :: rest) a w := by
 unfold wpList
 rw [if_pos hw]
 exact .inl (by unfold Oper.wp; rw [hr]; exact h)
def VRs (w : World) (l : List V) (xs : List (Array Value)) : Prop := xs.length = l.length ∧ ∀ (j : Nat) (v : V), l[j]? = some v → ∃ x, xs[j]? = some x ∧ VRd w v x
theorem VRs.nil (w : World) : VRs w [] [] := ⟨rfl, fun j v h => by simp at h⟩
theorem VRd.size6 {w : World} {v : V} {x : Array Value} (h : VRd w v x) : x.size = 6 := by
 obtain ⟨_, _, _, _, rfl, _⟩ := h.open; rfl
theorem VRd.ones {w : World} {v : V} {x : Array Value} (h : VRd w v x) : ∀ u ∈ x.toList, u.oneCell' = true := by
 obtain ⟨_, _, _, _, rfl, _⟩ := h.open; simp [Value.oneCell']
theorem VRs.append {w : World} {l m : List V} {xs ys : List (Array Value)} (h : VRs w l xs) (g : VRs w m ys) : VRs w (l ++ m) (xs ++ ys) := by
 refine ⟨by simp [h.1, g.1], fun j v hv => ?_⟩
 by_cases hj : j < l.length
 ·rw [List.getElem?_append_left hj] at hv
  obtain ⟨x, h1, h2⟩ := h.2 j v hv
  exact ⟨x, by rw [List.getElem?_append_left (by rw [h.1]; exact hj)]; exact h1, h2⟩
 ·rw [List.getElem?_append_right (by omega)] at hv
  obtain ⟨x, h1, h2⟩ := g.2 _ v hv
  exact ⟨x, by rw [List.getElem?_append_right (by rw [h.1]; omega), h.1]; exact h1, h2⟩
theorem VRs.six {w : World} {l : List V} {xs : List (Array Value)} (h : VRs w l xs) : ∀ x ∈ xs, ∃ v, VRd w v x := by
 intro x hx
 obtain ⟨j, hj, rfl⟩ := List.getElem_of_mem hx
 have hj2 : j < l.length := by rw [← h.1]; exact hj
 obtain ⟨y, h1, h2⟩ := h.2 j _ (List.getElem?_eq_getElem hj2)
 rw [List.getElem?_eq_getElem hj] at h1
 cases h1
 exact ⟨_, h2⟩
theorem VRs.below {w w' : World} {l : List V} {xs : List (Array Value)} (h : VRs w l xs) (g : Below w.heap.size w w') : VRs w' l xs :=
 ⟨h.1, fun j v hv => by obtain ⟨x, h1, h2⟩ := h.2 j v hv; exact ⟨x, h1, h2.below g⟩⟩
theorem flatA_len {xs : List (Array Value)} (h6 : ∀ x ∈ xs, x.size = 6) : (xs.flatMap Array.toList).length = xs.length * 6 := by
 induction xs with
 | nil => rfl
 | cons a r ih =>
   rw [List.flatMap_cons, List.length_append, ih fun x hx => h6 x (by simp [hx])]
   have := h6 a (by simp)
   simp [this]; omega
theorem LRd.cells {w : World} {p : Option Addr} {c : Nat} {l : List V} (h : LRd w p c l) : ∃ xs, VRs w l xs ∧ ∀ ad, p = some ad → ∀ (j : Nat) (u : Value), (xs.flatMap Array.toList)[j]? = some u → w.cell? (ad.add j) = some u := by
 have hx : ∀ i : Nat, ∃ x : Array Value, ∀ (hi : i < l.length), VRd w l[i] x ∧ ∀ ad, p = some ad → ad.spot = none ∧ Six w ad.block (ad.off + i * 6) x := by
  intro i
  by_cases hi : i < l.length
  ·obtain ⟨b, o, cs, rfl, h6, hv⟩ := h.get hi
   exact ⟨cs, fun _ => ⟨hv, fun ad e => by cases e; exact ⟨rfl, h6⟩⟩⟩
  ·exact ⟨#[], fun h => absurd h hi⟩
 obtain ⟨f, hf⟩ := Classical.axiomOfChoice hx
 have hxs : VRs w l ((List.range l.length).map f) := by
  refine ⟨by simp, fun j v hv => ?_⟩
  obtain ⟨hj, rfl⟩ := List.getElem?_eq_some_iff.1 hv
  exact ⟨f j, by simp [hj], (hf j hj).1⟩
 refine ⟨_, hxs, fun ad had j u hu => ?_⟩
 have h6 : ∀ x ∈ (List.range l.length).map f, x.size = 6 := fun x hx => by obtain ⟨v, hv⟩ := hxs.six x hx; exact hv.size6
 have hlen := flatA_len h6
 have hj : j < l.length * 6 := by
  have := (List.getElem?_eq_some_iff.1 hu).1
  simpa [hlen] using this
 have hq : j / 6 < l.length := by omega
 have e : j = j / 6 * 6 + j % 6 := by omega
 have hfs := flat_six h6 (j / 6) (f (j / 6)) (by simp [hq]) (j % 6) (by omega)
 rw [← e, hu] at hfs
 obtain ⟨hsp, c0, c1, c2, c3, c4, c5, ex, q0, q1, q2, q3, q4, q5⟩ := (hf _ hq).2 ad had
 obtain ⟨b, o, sp⟩ := ad
 simp only at hsp q0 q1 q2 q3 q4 q5; subst hsp
 rw [Ka9]
 rw [ex] at hfs
 have hm : j % 6 = 0 ∨ j % 6 = 1 ∨ j % 6 = 2 ∨ j % 6 = 3 ∨ j % 6 = 4 ∨ j % 6 = 5 := by omega
 rcases hm with hm | hm | hm | hm | hm | hm
 all_goals
  rw [hm] at hfs e
  simp at hfs
  subst hfs
  rw [e]
  assumption
def AInv (w W : World) (v : Value) (l : List V) : Prop := ∃ xs, OwnsP W (fun b => w.heap.size ≤ b) 48 6 v l.length (xs.flatMap Array.toList) ∧ VRs w l xs ∧ Below w.heap.size w W
theorem AInv.b {w W : World} {v : Value} {l : List V} (h : AInv w W v l) : Below w.heap.size w W := by obtain ⟨_, _, _, h⟩ := h; exact h
theorem AInv.slice {w W : World} {v : Value} {l : List V} (h : AInv w W v l) : ∃ p c, v = .slice p l.length c := by obtain ⟨_, h, _, _⟩ := h; exact Kbx h
theorem AInv.start {w W : World} (h : Below w.heap.size w W) : AInv w (W.alloc (.cells #[] 48)) (.slice (some ⟨W.heap.size, 0, none⟩) 0 0) [] :=
 ⟨[], ⟨ownsRow_of_heap (heap_alloc_new W _) (Nat.le_refl _) (by unfold maxLen; omega) rfl rfl rfl, fun g hg => by cases hg; exact h.size⟩, VRs.nil w, Kaa h (Kac _)⟩
theorem AInv.step {w W : World} {v : Value} {l m : List V} {p : Option Addr} {c : Nat} (h : AInv w W v l) (hm : LRd w p c m) (hn : l.length + m.length ≤ 1000000) (ty : TypeId) :
 ∃ v' W', (Builtin.append_ #[46, 46] ty #[v, .slice p m.length c]).run Tryz.prog W = .ok v' W' ∧ AInv w W' v' (l ++ m) := by
 obtain ⟨xs, h1, h2, h3⟩ := h
 obtain ⟨i, i1, i2, i3, i4⟩ := info_val
 obtain ⟨ys, hy, hcell⟩ := hm.cells
 have hy6 : ∀ x ∈ ys, x.size = 6 := fun x hx => by obtain ⟨v, hv⟩ := hy.six x hx; exact hv.size6
 cases p with
 | none =>
   have hc := hm.1.2.2 rfl
   have hl : m = [] := List.eq_nil_of_length_eq_zero (by have := hm.1.1; omega)
   subst hc hl
   refine ⟨v, W, append_law_nil (P := Tryz.prog) (w := W) 46 ty 48 i 6 Tryz.underlying46 i1 i3 v l.length _ h1.1, ?_⟩
   rw [List.append_nil]
   exact ⟨xs, h1, h2, h3⟩
 | some ad =>
   obtain ⟨v', W2, a1, a2, a3, a4, a5⟩ := Kcv (P := Tryz.prog) (w := W) 46 ty 48 i _ 6 88 Tryz.underlying46 i1 i2 i3 i4 rfl v l.length _ h1.1 ad m.length c (ys.flatMap Array.toList)
    (by rw [flatA_len hy6, hy.1]) (fun j u hu => by
      have hq := hcell ad rfl j u hu
      have hne : m ≠ [] := by
       rintro rfl
       have e : ys = [] := List.eq_nil_of_length_eq_zero hy.1
       subst e
       simp at hu
      have hs := (hm.2 ad rfl).1 hne
      obtain ⟨b, o, sp⟩ := ad
      simp only at hs
      subst hs
      rw [Ka9] at hq ⊢
      exact Kam h3 (ltOf hq) hq) (fun u hu => by
      obtain ⟨x, hx, hu⟩ := List.mem_flatMap.1 hu
      obtain ⟨v, hv⟩ := hy.six x hx
      exact hv.ones u hu) (by unfold maxLen; omega) (by omega)
   refine ⟨v', W2, a1, xs ++ ys, ⟨?_, fun g hg => ?_⟩, h2.append hy, ?_⟩
   ·rw [List.flatMap_append, List.length_append]; exact a2
   ·rcases a4 with e | e
    ·exact h1.2 g (e.symm.trans hg)
    ·rw [e] at hg; cases hg; exact h3.size
   ·exact a3.below h3 (fun b hb e => by have := h1.2 b e; omega) h3.size
theorem AInv.rd {w W : World} {v : Value} {l : List V} (h : AInv w W v l) (hn : l.length ≤ 1000000) : ∃ p c, v = .slice p l.length c ∧ LRd W p c l := by
 obtain ⟨xs, h1, h2, h3⟩ := h
 have hc := fun g => h1.1.cells (g := g)
 have h6 : ∀ x ∈ xs, x.size = 6 := fun x hx => by obtain ⟨v, hv⟩ := h2.six x hx; exact hv.size6
 rcases h1.1.2 with ⟨rfl, h0⟩ | ⟨g, cap, cur, rfl, _, hg, hnc, hcm, _⟩
 ·have : l = [] := List.eq_nil_of_length_eq_zero h0
  subst this
  exact ⟨none, 0, rfl, ⟨Nat.le_refl _, ⟨by simp, by omega⟩, fun _ => rfl⟩, fun ad h => by cases h⟩
 ·refine ⟨some ⟨g, 0, none⟩, cap, rfl, ⟨hnc, ⟨by omega, by unfold maxLen at hcm; omega⟩, fun h => by cases h⟩, fun ad had => ?_⟩
  cases had
  refine ⟨fun _ => rfl, fun j v hv => ?_⟩
  obtain ⟨x, hx, hvx⟩ := h2.2 j v hv
  have hv2 := hvx.below h3
  obtain ⟨_, _, _, _, rfl, _⟩ := hvx.open
  have q := fun (i : Nat) (hi : i < 6) => flat_six h6 j _ hx i hi
  refine ⟨_, ⟨_, _, _, _, _, _, rfl, ?_, ?_, ?_, ?_, ?_, ?_⟩, hv2⟩
  ·have := hc g rfl _ _ (q 0 (by omega)); rw [Ka9] at this; simpa using this
  ·have := hc g rfl _ _ (q 1 (by omega)); rw [Ka9] at this; simpa [Nat.add_assoc] using this
  ·have := hc g rfl _ _ (q 2 (by omega)); rw [Ka9] at this; simpa [Nat.add_assoc] using this
  ·have := hc g rfl _ _ (q 3 (by omega)); rw [Ka9] at this; simpa [Nat.add_assoc] using this
  ·have := hc g rfl _ _ (q 4 (by omega)); rw [Ka9] at this; simpa [Nat.add_assoc] using this
  ·have := hc g rfl _ _ (q 5 (by omega)); rw [Ka9] at this; simpa [Nat.add_assoc] using this
section
variable {P : Program} {ops : Array Oper} {rest : List Oper} {Q : Exit → Act → World → Prop} {a : Act} {w w' : World} {dst : Option Tmp} {ty : TypeId} {pos : String} {af : Array Edge} {t : TypeId} {x y : Operand} {v : Value}
theorem op_loadH {b : Addr} {g : Nat × Bool} (hr : (loadVar t b).run P w = .ok v w) (hx : a.eval x = .pointer (some b)) (hw : Region.wanted (⟨dst, .load t x, ty, pos, af, some g⟩ : Oper) (yielded ops a.tmps) = true) (h : wpList P ops Q rest (a.put dst v) w) : wpList P ops Q (⟨dst, .load t x, ty, pos, af, some g⟩ :: rest) a w := wpList_runG hw (Kag rfl hx hr) h
end
theorem badName_any {w : World} (hE : Env w) (s : List UInt8) (hs : s.length ≤ 140737488355328) : Calls Tryz.prog 143 #[.string (strB s)] w fun e w' => e = .returned (.bool (!okNm s)) ∧ Below w.heap.size w w' := by
 have HV := yh (wname_any hE s hs)
 clear hE
 generalize okNm s = r at *
 go_enter Tryz.func143, Tryz.ntmps143
 go_wp2_with (go_at_call 144; refine HV.out.mono ?_; rintro e W1 ⟨rfl, hb⟩; have HB := yh hb; clear hb)
 go_ret
 exact ⟨rfl, HB.out⟩
def badAt (l : List (List UInt8)) : Int := match l.findIdx? (fun s => !okNm s) with
 | some i => (i : Int)
 | none => -1
theorem badAt_ge (l : List (List UInt8)) : decide (0 ≤ badAt l) = !(l.all okNm) := by
 unfold badAt
 rw [Bool.eq_iff_iff]
 cases h : l.findIdx? (fun s => !okNm s) with
 | none =>
   rw [List.findIdx?_eq_none_iff] at h
   simp only [decide_eq_true_eq, Bool.not_eq_true', List.all_eq_false]
   constructor
   ·intro h; omega
   ·rintro ⟨x, hx, hn⟩
    have := h x hx
    simp_all
 | some i =>
   rw [List.findIdx?_eq_some_iff_getElem] at h
   obtain ⟨hi, h1, _⟩ := h
   simp only [decide_eq_true_eq, Bool.not_eq_true', List.all_eq_false]
   exact ⟨fun _ => ⟨l[i], List.getElem_mem hi, by simpa using h1⟩, fun _ => by omega⟩
theorem badAt_hit {l : List (List UInt8)} {j : Nat} (hj : j < l.length) (h1 : (l.take j).all okNm = true) (h2 : okNm l[j] = false) : badAt l = (j : Int) := by
 unfold badAt
 have : l.findIdx? (fun s => !okNm s) = some j := by
  rw [List.findIdx?_eq_some_iff_getElem]
  refine ⟨hj, by simp [h2], fun i hi => ?_⟩
  rw [List.all_eq_true] at h1
  have := h1 l[i] (by rw [List.mem_take_iff_getElem]; exact ⟨i, by omega, rfl⟩)
  simp [this]
 rw [this]
theorem badAt_none {l : List (List UInt8)} (h1 : l.all okNm = true) : badAt l = -1 := by
 unfold badAt
 have : l.findIdx? (fun s => !okNm s) = none := by
  rw [List.findIdx?_eq_none_iff]
  intro s hs
  rw [List.all_eq_true] at h1
  simp [h1 s hs]
 rw [this]
theorem badIdx_any {w : World} (hE : Env w) {p : Option Addr} {c : Nat} {l : List (List UInt8)} (h : RdS w p c l) : Calls Tryz.prog 167 #[.slice p l.length c, .func (.func 143) #[] #[]] w fun e w' => e = .returned (.int .i64 (badAt l)) ∧ Below w.heap.size w w' := by
 have z1 : (l.length : Int) ≤ 140737488355328 := by have := h.2.1.1; omega
 have H := yh h
 have HE := yh hE
 clear h hE
 go_enter Tryz.func167, Tryz.ntmps167
 go_wp2
 go_loopw [8] (fun i W => ∃ j : Nat, j ≤ l.length ∧ i = .int .i64 (j : Int) ∧ Hid ((l.take j).all okNm = true ∧ Below w.heap.size w W)) (fun i _ => l.length - (intOf i).toNat)
 case atStart => exact ⟨0, Nat.zero_le _, rfl, yh ⟨by simp, Below.refl _ _⟩⟩
 case round =>
  obtain ⟨j, hj, rfl, HI⟩ := hrel
  by_cases hlt : j < l.length
  ·have hlt1 : j + 1 ≤ l.length := hlt
   obtain ⟨b, of, rfl, hc, hcl⟩ := (H.out.below HI.out.2).get hlt
   have hone := badName_any (HE.out.b HI.out.2) l[j] hcl
   have hst : ∀ r, okNm l[j] = r → (l.take (j + 1)).all okNm = r := fun r hr => by
    rw [List.take_succ_eq_append_getElem hlt, List.all_append, HI.out.1]; simp [hr]
   have hbd := badAt_hit hlt HI.out.1
   generalize l[j] = s at *
   have HC := yh hone
   have HB := yh HI.out.2
   cases hok : okNm s with
   | true =>
     have HN := yh (hst true hok)
     rw [hok] at HC
     clear hone hst hbd hok HI
     go_wp2_with (go_at_call 143; refine HC.out.mono ?_; rintro e W2 ⟨rfl, hb⟩; have HB2 := yh (Kaa HB.out hb); clear hb)
     go_roundw
     case rel => exact ⟨j + 1, hlt1, by go_num, yh ⟨HN.out, HB2.out⟩⟩
     case measure => simp [intOf]; omega
   | false =>
     have HN := yh (hbd hok)
     rw [hok] at HC
     clear hone hst hbd hok HI
     go_wp2_with (go_at_call 143; refine HC.out.mono ?_; rintro e W2 ⟨rfl, hb⟩; have HB2 := yh (Kaa HB.out hb); clear hb)
     go_ret
     exact ⟨by rw [HN.out]; rfl, HB2.out⟩
  ·obtain rfl : j = l.length := by omega
   have hall := HI.out.1
   rw [List.take_length] at hall
   have HF := yh (And.intro (badAt_none hall) HI.out.2)
   clear HI hall
   go_wp2
   go_ret
   exact ⟨by rw [HF.out.1]; rfl, HF.out.2⟩
theorem hasBad_any {w : World} (hE : Env w) {p : Option Addr} {c : Nat} {l : List (List UInt8)} (h : RdS w p c l) : Calls Tryz.prog 142 #[.slice p l.length c, .func (.func 143) #[] #[]] w fun e w' => e = .returned (.bool (!(l.all okNm))) ∧ Below w.heap.size w w' := by
 have HV := yh (badIdx_any hE h)
 have HG := yh (badAt_ge l)
 generalize l.all okNm = r at *
 clear hE h
 go_enter Tryz.func142, Tryz.ntmps142
 go_wp2_with (go_at_call 167; refine HV.out.mono ?_; rintro e W1 ⟨rfl, hb⟩; have HB := yh hb; clear hb)
 go_ret
 refine ⟨?_, HB.out⟩
 rw [← HG.out]; rfl
def okP (p : PropD) : Bool := okNm p.key && okSt p.val
theorem okPs_eq (l : List PropD) : okPs l = (l.all okP && Ka7 (l.map PropD.key)) := rfl
theorem okPs_no {l : List PropD} {j : Nat} (hj : j < l.length) (h : okP l[j] = false) : okPs l = false := by
 rw [okPs_eq]
 have : l.all okP = false := by
  rw [List.all_eq_false]
  exact ⟨l[j], List.getElem_mem hj, by simp [h]⟩
 rw [this, Bool.false_and]
theorem all_snoc {α : Type} {f : α → Bool} {l : List α} {j : Nat} (hj : j < l.length) (h1 : (l.take j).all f = true) (h2 : f l[j] = true) : (l.take (j + 1)).all f = true := by
 rw [List.take_succ_eq_append_getElem hj, List.all_append, h1]; simp [h2]
theorem keys_rise {w : World} {p : Option Addr} {c : Nat} {l : List PropD} (h : GRd PRd 7 w p c l) (hl : l.length ≤ 1000000) (hk : ∀ s ∈ l.map PropD.key, s.length ≤ 140737488355328) :
 Calls Tryz.prog 166 #[.slice p l.length c] w fun e w' => ∃ pk ck, e = .returned (.slice pk l.length ck) ∧ Below w.heap.size w w' ∧
  Calls Tryz.prog 140 #[.slice pk l.length ck] w' fun e w'' => e = .returned (.bool (Ka7 (l.map PropD.key))) ∧ Below w'.heap.size w' w'' := by
 refine (keysG_any h hl).mono ?_
 rintro e w' ⟨v, rfl, ho, hb⟩
 have ho' : OwnsP w' (fun b => w.heap.size ≤ b) 9 1 v (l.map PropD.key).length ((l.map PropD.key).map strV) := by
  rw [List.length_map, List.map_map]; exact ho
 obtain ⟨pk, ck, rfl, hr⟩ := owned_rdS ho' (by rw [List.length_map]; omega) hk
 have hc := risesS_any hr
 rw [List.length_map] at hc
 exact ⟨pk, ck, by rw [List.length_map], hb, hc⟩
theorem gprops_any {w : World} (hE : Env w) {p : Option Addr} {c : Nat} {l : List PropD} (h : GRd PRd 7 w p c l) (ht : totPs l ≤ 1000000) : Calls Tryz.prog 141 #[.slice p l.length c] w fun e w' => e = .returned (.bool (okPs l)) ∧ Below w.heap.size w w' := by
 have hlen : l.length ≤ 1000000 := Nat.le_trans (Kcx totP fun p _ => by unfold totP; omega) ht
 have z1 : (l.length : Int) ≤ 1000000 := by omega
 have hkey : ∀ s ∈ l.map PropD.key, s.length ≤ 140737488355328 := fun s hs => by
  obtain ⟨x, hx, rfl⟩ := List.mem_map.1 hs
  have h1 : totP x ≤ totPs l := Kb6 totP hx
  unfold totP at h1; omega
 have H := yh h
 have HE := yh hE
 have HT := yh ht
 have HK := yh hkey
 have HLN := yh hlen
 clear h hE ht hkey hlen
 go_enter Tryz.func141, Tryz.ntmps141
 go_wp2
 go_loopw [7] (fun i W => ∃ j : Nat, j ≤ l.length ∧ i = .int .i64 (j : Int) ∧ Hid ((l.take j).all okP = true ∧ Below w.heap.size w W)) (fun i _ => l.length - (intOf i).toNat)
 case atStart => exact ⟨0, Nat.zero_le _, rfl, yh ⟨by simp, Below.refl _ _⟩⟩
 case round =>
  obtain ⟨j, hj, rfl, HI⟩ := hrel
  by_cases hlt : j < l.length
  ·have hlt1 : j + 1 ≤ l.length := hlt
   obtain ⟨b, of, cs, rfl, hs, hc, hv⟩ := H.out.get hlt
   have hones := ef_prop.ones hv
   have hb := Kac (w := wr) (.cells cs 136)
   have hb2 : Below w.heap.size w (wr.alloc (.cells cs 136)) := Kaa HI.out.2 hb
   have HL1 := yh (StT.load Kdk hs (fun i u hu => Kam HI.out.2 (ltOf (hc i u hu)) (hc i u hu)) (W := wr))
   have HS := yh (StT.fresh Kdk hs hones (W := wr))
   have hv1 : PRd (wr.alloc (.cells cs 136)) l[j] cs := hv.below hb2
   obtain ⟨y, ey, hkl, hvv⟩ := hv1
   have hys : y.size = 6 := ef_val.size hvv
   have htot : totV l[j].val ≤ 1000000 := by
    have h1 : totP l[j] ≤ totPs l := Kb6 totP (List.getElem_mem hlt)
    have := HT.out
    unfold totP at h1; omega
   have hno := okPs_no hlt
   have hsn := all_snoc (f := okP) hlt HI.out.1
   have hokp : okP l[j] = (okNm l[j].key && (okV l[j].val && storB l[j].val)) := rfl
   rw [hokp] at hno hsn
   clear hokp
   generalize l[j].key = key at *
   generalize l[j].val = val at *
   have hk0 : cs[0]? = some (.string (strB key)) := by rw [ey, Array.getElem?_append_left (by simp)]; rfl
   have hky : ∀ (i : Nat) (u : Value), y[i]? = some u → cs[1 + i]? = some u := fun i u hu => by
    rw [ey, Array.getElem?_append_right (by simp)]
    simpa using hu
   have HKL := yh (Kah (P := Tryz.prog) (w := wr.alloc (.cells cs 136)) Tryz.underlying9 rfl (Kab (o := 0) (heap_alloc_new wr (.cells cs 136)) hk0))
   have hlv : ∀ W2, Below (wr.alloc (.cells cs 136)).heap.size (wr.alloc (.cells cs 136)) W2 → (loadVar 48 ⟨wr.heap.size, 1, none⟩).run Tryz.prog W2 = .ok (.agg y) W2 := fun W2 g =>
    StT.load Kbo hys fun i u hu => Kam g (by simp) (Kab (o := 1 + i) (heap_alloc_new wr (.cells cs 136)) (hky i u hu))
   have hone := wname_any (HE.out.b hb2) key hkl
   have hstq : ∀ W2, Below (wr.alloc (.cells cs 136)).heap.size (wr.alloc (.cells cs 136)) W2 → Calls Tryz.prog 165 #[.agg y] W2 fun e w' => e = .returned (.bool (okV val && storB val)) ∧ Below W2.heap.size W2 w' := fun W2 g => storable_any (HE.out.b (Kaa hb2 g)) (hvv.below g) (by omega)
   have HC := yh hone
   have HST := yh hstq
   have HLV := yh hlv
   have HB := yh hb2
   clear hone hstq hlv hb hb2 hv hvv hk0 hky hones hc ey
   cases hok : okNm key with
   | false =>
     have HN := yh (hno (by rw [hok]; rfl))
     rw [hok] at HC
     clear hno hsn hok HI HK
     go_wp2_with (first
      | ((with_reducible apply Kal); exact HL1.out; exact rfl; clear HL1)
      | ((with_reducible apply Kad); exact HS.out _ rfl; exact rfl; exact rfl; clear HS)
      | ((with_reducible apply Kal); exact HKL.out; exact rfl; clear HKL)
      | (go_at_call 144; refine HC.out.mono ?_; rintro e W2 ⟨rfl, hb⟩; have HB2 := yh (Kaa HB.out hb); clear hb))
     go_ret
     exact ⟨by rw [HN.out]; rfl, HB2.out⟩
   | true =>
     rw [hok] at HC
     cases hst : (okV val && storB val) with
     | false =>
       have HN := yh (hno (by rw [hok, hst]; rfl))
       rw [hst] at HST
       clear hno hsn hok hst HI HK
       go_wp2_with (first
        | ((with_reducible apply Kal); exact HL1.out; exact rfl; clear HL1)
        | ((with_reducible apply Kad); exact HS.out _ rfl; exact rfl; exact rfl; clear HS)
        | ((with_reducible apply Kal); exact HKL.out; exact rfl; clear HKL)
        | ((with_reducible apply op_loadH); (exact HLV.out _ HB3.out; exact rfl; exact rfl; clear HLV))
        | (go_at_call 144; refine HC.out.mono ?_; rintro e W2 ⟨rfl, hb⟩; have HB2 := yh (Kaa HB.out hb); have HB3 := yh hb; clear hb)
        | (go_at_call 165; refine (HST.out _ HB3.out).mono ?_; rintro e W3 ⟨rfl, hb⟩; have HB4 := yh (Kaa HB2.out hb); clear hb))
       go_ret
       exact ⟨by rw [HN.out]; rfl, HB4.out⟩
     | true =>
       have HN := yh (hsn (by rw [hok, hst]; rfl))
       rw [hst] at HST
       clear hno hsn hok hst HI HK
       go_wp2_with (first
        | ((with_reducible apply Kal); exact HL1.out; exact rfl; clear HL1)
        | ((with_reducible apply Kad); exact HS.out _ rfl; exact rfl; exact rfl; clear HS)
        | ((with_reducible apply Kal); exact HKL.out; exact rfl; clear HKL)
        | ((with_reducible apply op_loadH); (exact HLV.out _ HB3.out; exact rfl; exact rfl; clear HLV))
        | (go_at_call 144; refine HC.out.mono ?_; rintro e W2 ⟨rfl, hb⟩; have HB2 := yh (Kaa HB.out hb); have HB3 := yh hb; clear hb)
        | (go_at_call 165; refine (HST.out _ HB3.out).mono ?_; rintro e W3 ⟨rfl, hb⟩; have HB4 := yh (Kaa HB2.out hb); clear hb))
       go_roundw
       case rel => exact ⟨j + 1, hlt1, by go_num, yh ⟨HN.out, HB4.out⟩⟩
       case measure => simp [intOf]; omega
  ·obtain rfl : j = l.length := by omega
   have hall := HI.out.1
   rw [List.take_length] at hall
   have hkeys := keys_rise (H.out.below (fun h => h.below HI.out.2) HI.out.2) HLN.out HK.out
   have hfin : okPs l = Ka7 (l.map PropD.key) := by rw [okPs_eq, hall, Bool.true_and]
   have HF := yh hfin
   have HC := yh hkeys
   have HB := yh HI.out.2
   generalize Ka7 (l.map PropD.key) = r at *
   clear HI hall hkeys hfin
   go_wp2_with (first
    | (go_at_call 166; refine HC.out.mono ?_; rintro e W2 ⟨pk, ck, rfl, hb, hr⟩; have HB2 := yh (Kaa HB.out hb); have HR := yh hr; clear hb hr)
    | (go_at_call 140; refine HR.out.mono ?_; rintro e W3 ⟨rfl, hb⟩; have HB3 := yh (Kaa HB2.out hb); clear hb))
   go_ret
   exact ⟨by rw [HF.out]; rfl, HB3.out⟩
theorem box_load {w w' : World} {B o : Nat} {cs : Array Value} {T t : TypeId} {d : TypeDesc} {v : Value} (hu : Tryz.prog.underlying t = some d) (hd : isAggD d = false) (h : w'.heap[B]? = some (.cells cs T (0, 0))) (hv : cs[o]? = some v) : (loadVar t ⟨B, o, none⟩).run Tryz.prog w' = .ok v w' :=
 Kah hu (by revert hd; cases d <;> simp [isAggD]) (Kab (o := o) h hv)
theorem gnode_any {w : World} (hE : Env w) {n : NodeD} {x : Array Value} (h : NRd w n x) (ht : totN n ≤ 1000000) : Calls Tryz.prog 100 #[.agg x] w fun e w' => e = .returned (.bool (okN n)) ∧ Below w.heap.size w w' := by
 obtain ⟨pl, cl, pp, cp, rfl, hl, hp⟩ := h
 have hW : ∀ W, Below (w.alloc (.cells #[.int .i64 n.id, .slice pl n.labels.length cl, .slice pp n.props.length cp] 70)).heap.size (w.alloc (.cells #[.int .i64 n.id, .slice pl n.labels.length cl, .slice pp n.props.length cp] 70)) W → W.heap[w.heap.size]? = some (.cells #[.int .i64 n.id, .slice pl n.labels.length cl, .slice pp n.props.length cp] 70 (0, 0)) := fun W g => Kak g (by simp) (heap_alloc_new w _)
 have hok : okN n = ((decide (0 ≤ n.id) && Ka7 n.labels) && okPs n.props && n.labels.all okNm) := rfl
 have hb := Kac (w := w) (.cells #[.int .i64 n.id, .slice pl n.labels.length cl, .slice pp n.props.length cp] 70)
 have hrs := fun W (g : Below w.heap.size w W) => risesS_any (hl.below g)
 have hps := fun W (g : Below w.heap.size w W) => gprops_any (hE.b g) (hp.below (fun h => h.below g) g) (by unfold totN at ht; omega)
 have hbd := fun W (g : Below w.heap.size w W) => hasBad_any (hE.b g) (hl.below g)
 rw [hok]
 clear hok hE hl hp ht
 generalize okPs n.props = r2 at *
 generalize n.labels.all okNm = r3 at *
 generalize Ka7 n.labels = r1 at *
 have HR := yh hrs
 have HP := yh hps
 have HD := yh hbd
 have HB := yh hb
 have HW := yh hW
 clear hrs hps hbd hW hb
 cases hc0 : decide (0 ≤ n.id) <;> cases r1 <;> cases r2
 all_goals
  go_enter Tryz.func100, Tryz.ntmps100
  go_wp2_with (first
   | (go_at_call 140; refine (HR.out _ HB.out).mono ?_; rintro e W2 ⟨rfl, hb⟩; have HB1 := yh (And.intro hb (Kaa HB.out hb)); have HL2 := Kab (o := 2) (HW.out _ hb) rfl; clear hb)
   | (go_at_call 141; refine (HP.out _ HB1.out.2).mono ?_; rintro e W3 ⟨rfl, hb⟩; have HB2 := yh (And.intro (Kaa HB1.out.1 hb) (Kaa HB1.out.2 hb)); have HL1 := Kab (o := 1) (HW.out _ HB2.out.1) rfl; clear hb HL2)
   | (go_at_call 142; refine (HD.out _ HB2.out.2).mono ?_; rintro e W4 ⟨rfl, hb⟩; have HB3 := yh (Kaa HB2.out.2 hb); clear hb HL1))
  go_ret
  first
   | exact ⟨by simp, HB3.out⟩
   | exact ⟨by simp, HB2.out.2⟩
   | exact ⟨by simp, HB1.out.2⟩
   | exact ⟨by simp, HB.out⟩
theorem grel_any {w : World} (hE : Env w) {n : RelD} {x : Array Value} (h : RRd w n x) (ht : totR n ≤ 1000000) : Calls Tryz.prog 101 #[.agg x] w fun e w' => e = .returned (.bool (okR n)) ∧ Below w.heap.size w w' := by
 obtain ⟨pp, cp, rfl, hl, hp⟩ := h
 have hW : ∀ W, Below (w.alloc (.cells #[.int .i64 n.id, .int .i64 n.src, .int .i64 n.dst, .string (strB n.type), .slice pp n.props.length cp] 72)).heap.size (w.alloc (.cells #[.int .i64 n.id, .int .i64 n.src, .int .i64 n.dst, .string (strB n.type), .slice pp n.props.length cp] 72)) W → W.heap[w.heap.size]? = some (.cells #[.int .i64 n.id, .int .i64 n.src, .int .i64 n.dst, .string (strB n.type), .slice pp n.props.length cp] 72 (0, 0)) := fun W g => Kak g (by simp) (heap_alloc_new w _)
 have hok : okR n = ((decide (0 ≤ n.id) && okNm n.type) && okPs n.props) := rfl
 have hb := Kac (w := w) (.cells #[.int .i64 n.id, .int .i64 n.src, .int .i64 n.dst, .string (strB n.type), .slice pp n.props.length cp] 72)
 have hrs := fun W (g : Below w.heap.size w W) => wname_any (hE.b g) n.type hl
 have hps := fun W (g : Below w.heap.size w W) => gprops_any (hE.b g) (hp.below (fun h => h.below g) g) (by unfold totR at ht; omega)
 rw [hok]
 clear hok hE hl hp ht
 generalize okPs n.props = r2 at *
 generalize okNm n.type = r1 at *
 have HR := yh hrs
 have HP := yh hps
 have HB := yh hb
 have HW := yh hW
 clear hrs hps hW hb
 cases hc0 : decide (0 ≤ n.id) <;> cases r1
 all_goals
  go_enter Tryz.func101, Tryz.ntmps101
  go_wp2_with (first
   | (go_at_call 144; refine (HR.out _ HB.out).mono ?_; rintro e W2 ⟨rfl, hb⟩; have HB1 := yh (And.intro hb (Kaa HB.out hb)); have HL2 := Kab (o := 4) (HW.out _ hb) rfl; clear hb)
   | (go_at_call 141; refine (HP.out _ HB1.out.2).mono ?_; rintro e W3 ⟨rfl, hb⟩; have HB2 := yh (And.intro (Kaa HB1.out.1 hb) (Kaa HB1.out.2 hb)); clear hb HL2))
  go_ret
  first
   | exact ⟨by simp, HB2.out.2⟩
   | exact ⟨by simp, HB1.out.2⟩
   | exact ⟨by simp, HB.out⟩
def cmpZ (a b : Int) : Int := if a < b then -1 else if b < a then 1 else 0
theorem cmpZ_zero (a b : Int) : decide (cmpZ a b = 0) = decide (a = b) := by
 unfold cmpZ
 split
 ·rw [Bool.eq_iff_iff]; simp; omega
 ·split
  ·rw [Bool.eq_iff_iff]; simp; omega
  ·rw [Bool.eq_iff_iff]; simp; omega
theorem cmpZ_neg (a b : Int) : decide (cmpZ a b < 0) = decide (a < b) := by
 unfold cmpZ
 split
 ·rw [Bool.eq_iff_iff]; simp; omega
 ·split
  ·rw [Bool.eq_iff_iff]; simp; omega
  ·rw [Bool.eq_iff_iff]; simp; omega
theorem noNaN (n : Int) (w : World) : Calls Tryz.prog 169 #[.int .i64 n] w fun e w' => e = .returned (.bool false) ∧ w = w' := by
 go_enter Tryz.func169, Tryz.ntmps169
 go_wp2
 go_ret
 exact ⟨rfl, rfl⟩
theorem cmpZ_any (a b : Int) (w : World) : Calls Tryz.prog 147 #[.int .i64 a, .int .i64 b] w fun e w' => e = .returned (.int .i64 (cmpZ a b)) ∧ w = w' := by
 have HN := yh (fun n => noNaN n w)
 have HU := yh (show cmpZ a b = if a < b then -1 else if b < a then 1 else 0 from rfl)
 generalize cmpZ a b = r at *
 by_cases h1 : a < b
 ·have hr : r = -1 := by rw [HU.out, if_pos h1]
  clear HU
  subst hr
  go_enter Tryz.func147, Tryz.ntmps147
  go_wp2_with (go_at_call 169; refine (HN.out _).mono ?_; rintro e w1 ⟨rfl, rfl⟩)
  go_ret
  exact ⟨rfl, rfl⟩
 ·by_cases h2 : b < a
  ·have hr : r = 1 := by rw [HU.out, if_neg h1, if_pos h2]
   clear HU
   subst hr
   go_enter Tryz.func147, Tryz.ntmps147
   go_wp2_with (go_at_call 169; refine (HN.out _).mono ?_; rintro e w1 ⟨rfl, rfl⟩)
   go_ret
   exact ⟨rfl, rfl⟩
  ·have hr : r = 0 := by rw [HU.out, if_neg h1, if_neg h2]
   clear HU
   subst hr
   go_enter Tryz.func147, Tryz.ntmps147
   go_wp2_with (go_at_call 169; refine (HN.out _).mono ?_; rintro e w1 ⟨rfl, rfl⟩)
   go_ret
   exact ⟨rfl, rfl⟩
theorem hasCmp_any {w : World} {n : NodeD} {cs : Array Value} (h : NRd w n cs) (x : Int) : Calls Tryz.prog 146 #[.agg cs, .int .i64 x] w fun e w' => e = .returned (.int .i64 (cmpZ n.id x)) ∧ Below w.heap.size w w' := by
 obtain ⟨pl, cl, pp, cp, rfl, hl, hp⟩ := h
 have HC := yh (cmpZ_any n.id x (w.alloc (.cells #[.int .i64 n.id, .slice pl n.labels.length cl, .slice pp n.props.length cp] 70)))
 have HB := yh (Kac (w := w) (.cells #[.int .i64 n.id, .slice pl n.labels.length cl, .slice pp n.props.length cp] 70))
 clear hl hp
 go_enter Tryz.func146, Tryz.ntmps146
 go_wp2_with (go_at_call 147; refine HC.out.mono ?_; rintro e w1 ⟨rfl, rfl⟩)
 go_ret
 exact ⟨rfl, HB.out⟩
section
variable {P : Program} {ops : Array Oper} {rest : List Oper} {Q : Exit → Act → World → Prop} {a : Act} {w w' : World} {dst : Option Tmp} {ty : TypeId} {pos : String} {af : Array Edge} {t t' : TypeId} {x y : Operand} {v : Value}
theorem op_binu {op : BinOp} {k k' : IntKind} {n m : Int} (hr : (binOp op t (.int k n) (.int k' m)).run P w = .ok v w) (hx : a.eval x = .int k n) (hy : a.eval y = .int k' m) (h : wpList P ops Q rest (a.put dst v) w) : wpList P ops Q (⟨dst, .binOp op t x y t', ty, pos, af, none⟩ :: rest) a w := Kba rfl (exec_binu rfl hx hy hr) h
end
theorem add_int {i j : Nat} (h : i + j ≤ 281474976710656) (W : World) : (binOp .add 3 (.int .i64 (i : Int)) (.int .i64 (j : Int))).run Tryz.prog W = .ok (.int .i64 ((i + j : Nat) : Int)) W := by
 have e : IntKind.i64.wrap ((i : Int) + (j : Int)) = ((i + j : Nat) : Int) := by rw [IntKind.wrap_i64]; omega
 simp [go_sem, e]
theorem conv_iu {i : Nat} (h : i ≤ 281474976710656) (W : World) : (convert 3 182 (.int .i64 (i : Int))).run Tryz.prog W = .ok (.int .u64 (i : Int)) W := by
 have e : IntKind.u64.wrap (i : Int) = (i : Int) := by rw [IntKind.wrap_u64]; omega
 simp [convert, go_sem, e]
theorem conv_ui {i : Nat} (h : i ≤ 281474976710656) (W : World) : (convert 182 3 (.int .u64 (i : Int))).run Tryz.prog W = .ok (.int .i64 (i : Int)) W := by
 have e : IntKind.i64.wrap (i : Int) = (i : Int) := by rw [IntKind.wrap_i64]; omega
 simp [convert, go_sem, e]
theorem half_uint {i : Nat} (W : World) : (binOp .shr 182 (.int .u64 (i : Int)) (.int .u64 1)).run Tryz.prog W = .ok (.int .u64 ((i / 2 : Nat) : Int)) W := by
 simp [go_sem]
theorem bsearch_any {w : World} {p : Option Addr} {c : Nat} {l : List NodeD} (h : GRd NRd 3 w p c l) (hr : Kb4 (l.map NodeD.id) = true) (x : Int) :
 Calls Tryz.prog 145 #[.slice p l.length c, .int .i64 x, .func (.func 146) #[] #[]] w fun e w' => ∃ k, e = .returned (.tuple #[.int .i64 k, .bool ((l.map NodeD.id).any (· == x))]) ∧ Below w.heap.size w w' := by
 have z1 : (l.length : Int) ≤ 140737488355328 := by have := h.1.2.1; omega
 have H := yh h
 have HR := yh hr
 clear h hr
 go_enter Tryz.func145, Tryz.ntmps145
 go_wp2
 go_loopw [9, 10] (fun a b W => ∃ i j : Nat, i ≤ j ∧ j ≤ l.length ∧ a = .int .i64 (i : Int) ∧ b = .int .i64 (j : Int) ∧ Hid ((∀ t (ht : t < (l.map NodeD.id).length), t < i → (l.map NodeD.id)[t] < x) ∧ (∀ t (ht : t < (l.map NodeD.id).length), j ≤ t → x ≤ (l.map NodeD.id)[t]) ∧ Below w.heap.size w W)) (fun a b _ => (intOf b).toNat - (intOf a).toNat)
 case atStart => exact ⟨0, l.length, Nat.zero_le _, Nat.le_refl _, rfl, rfl, yh ⟨fun t _ h => by omega, fun t ht h => by rw [List.length_map] at ht; omega, Below.refl _ _⟩⟩
 case round =>
  obtain ⟨i, j, hij, hj, rfl, rfl, HI⟩ := hrel
  by_cases hlt : i < j
  ·obtain ⟨h, hh⟩ : ∃ h, h = (i + j) / 2 := ⟨_, rfl⟩
   have h1 : i ≤ h := by omega
   have h2 : h < j := by omega
   have hl : h < l.length := by omega
   have glt : (i : Int) < (j : Int) := by omega
   obtain ⟨bk, ok, cs, rfl, hs, hc, hv⟩ := (H.out.below (fun h => h.below HI.out.2.2) HI.out.2.2).get hl
   have HL := yh (StT.load Kct hs hc)
   have HC := yh (hasCmp_any hv x)
   have HA := yh (add_int (i := i) (j := j) (by omega) wr)
   have HU := yh (conv_iu (i := i + j) (by omega) wr)
   have HS := yh (half_uint (i := i + j) wr)
   have HV := yh (conv_ui (i := (i + j) / 2) (by omega) wr)
   rw [← hh] at HS HV
   have hia : ∀ W' : World, (Instr.indexAt 22 (.slice (some ⟨bk, ok, none⟩) l.length c) (.int .i64 (h : Int))).run Tryz.prog W' = .ok (.pointer (some ⟨bk, ok + h * 3, none⟩)) W' := by intro W'; simp [go_sem, hl]
   have hlo : (l.map NodeD.id)[h]'(by simpa using hl) < x → ∀ t (ht : t < (l.map NodeD.id).length), t < h + 1 → (l.map NodeD.id)[t] < x := fun hx t ht hth => by
    by_cases e : t = h
    ·subst e; exact hx
    ·have := Kdz HR.out (a := t) (b := h) (by simpa using hl) (by omega)
     omega
   have hhi : ¬ (l.map NodeD.id)[h]'(by simpa using hl) < x → ∀ t (ht : t < (l.map NodeD.id).length), h ≤ t → x ≤ (l.map NodeD.id)[t] := fun hx t ht hth => by
    by_cases e : t = h
    ·subst e; omega
    ·have := Kdz HR.out (a := h) (b := t) ht (by omega)
     omega
   rw [List.getElem_map] at hlo hhi
   generalize l[h].id = id at *
   have hcn := cmpZ_neg id x
   have HX := yh (And.intro hlo hhi)
   have HJ := yh HI.out
   clear hlo hhi hs hc hv HI
   generalize cmpZ id x = r at *
   cases hcx : decide (id < x) with
   | true =>
     rw [hcx] at hcn
     have hlt0 : id < x := by simpa using hcx
     have HX1 := yh (HX.out.1 hlt0)
     clear HX hcx hlt0 hh
     go_wp2_with (first
      | ((with_reducible apply op_binu); exact HA.out; exact rfl; exact rfl)
      | ((with_reducible apply Kby); exact HU.out; exact rfl)
      | ((with_reducible apply op_binu); exact HS.out; exact rfl; exact rfl)
      | ((with_reducible apply Kby); exact HV.out; exact rfl)
      | ((with_reducible apply Kal); exact HL.out; exact rfl)
      | (go_at_call 146; refine HC.out.mono ?_; rintro e W2 ⟨rfl, hb⟩; have HB2 := yh (Kaa HJ.out.2.2 hb); clear hb))
     go_roundw
     case rel => exact ⟨h + 1, j, h2, hj, by go_num, rfl, yh ⟨HX1.out, HJ.out.2.1, HB2.out⟩⟩
     case measure => simp [intOf]; omega
   | false =>
     rw [hcx] at hcn
     have hlt0 : ¬ id < x := by simpa using hcx
     have HX1 := yh (HX.out.2 hlt0)
     clear HX hcx hlt0 hh
     go_wp2_with (first
      | ((with_reducible apply op_binu); exact HA.out; exact rfl; exact rfl)
      | ((with_reducible apply Kby); exact HU.out; exact rfl)
      | ((with_reducible apply op_binu); exact HS.out; exact rfl; exact rfl)
      | ((with_reducible apply Kby); exact HV.out; exact rfl)
      | ((with_reducible apply Kal); exact HL.out; exact rfl)
      | (go_at_call 146; refine HC.out.mono ?_; rintro e W2 ⟨rfl, hb⟩; have HB2 := yh (Kaa HJ.out.2.2 hb); clear hb))
     go_roundw
     case rel => exact ⟨i, h, h1, by omega, rfl, rfl, yh ⟨HJ.out.1, HX1.out, HB2.out⟩⟩
     case measure => simp [intOf]; omega
  ·obtain rfl : i = j := by omega
   by_cases hl : i < l.length
   ·obtain ⟨bk, ok, cs, rfl, hs, hc, hv⟩ := H.out.get hl
    have hia : ∀ W' : World, (Instr.indexAt 22 (.slice (some ⟨bk, ok, none⟩) l.length c) (.int .i64 (i : Int))).run Tryz.prog W' = .ok (.pointer (some ⟨bk, ok + i * 3, none⟩)) W' := by intro W'; simp [go_sem, hl]
    have hld : (loadVar 70 ⟨bk, ok + i * 3, none⟩).run Tryz.prog wr = .ok (.agg cs) wr := StT.load Kct hs fun k u hu => Kam HI.out.2.2 (ltOf (hc k u hu)) (hc k u hu)
    have HC := yh (hasCmp_any (hv.below HI.out.2.2) x)
    have hfo := found_of HI.out.1 HI.out.2.1 HR.out (by simpa using hl)
    rw [List.getElem_map] at hfo
    generalize l[i].id = id at *
    have hcz := cmpZ_zero id x
    have HL := yh hld
    have HB := yh HI.out.2.2
    have gl : (i : Int) < (l.length : Int) := by omega
    rw [hfo] at hcz
    clear hld hfo hs hc hv HI HR H
    generalize cmpZ id x = z at *
    go_wp2_with (first
     | ((with_reducible apply Kal); exact HL.out; exact rfl)
     | ((with_reducible apply op_loadH); exact HL.out; exact rfl; exact rfl)
     | (go_at_call 146; refine HC.out.mono ?_; rintro e W2 ⟨rfl, hb⟩; have HB2 := yh (Kaa HB.out hb); clear hb))
    go_ret2
    have e : (z == 0) = (l.map NodeD.id).any (· == x) := by rw [← hcz]; rfl
    refine ⟨(i : Int), ?_, HB2.out⟩
    show Ending.returned (.tuple #[.int .i64 (i : Int), .bool (z == 0)]) = _
    rw [e]
   ·obtain rfl : i = l.length := by omega
    have hfo := found_none (l := l.map NodeD.id) (x := x) fun t ht => HI.out.1 t ht (by simpa using ht)
    have HF := yh (And.intro hfo HI.out.2.2)
    clear hfo HI HR H
    go_wp2
    go_ret2
    exact ⟨_, by rw [HF.out.1]; rfl, HF.out.2⟩
theorem has_any {w : World} {g : GraphD} {x : Array Value} (h : GrRd w g x) (hr : Kb4 (g.nodes.map NodeD.id) = true) (i : Int) : Calls Tryz.prog 102 #[.agg x, .int .i64 i] w fun e w' => e = .returned (.bool (hasN g i)) ∧ Below w.heap.size w w' := by
 obtain ⟨pn, cn, pr, cr, rfl, hn, hrl⟩ := h
 have hb := Kac (w := w) (.cells #[.slice pn g.nodes.length cn, .slice pr g.rels.length cr, .int .i64 g.nextNode, .int .i64 g.nextRel] 25)
 have HC := yh (bsearch_any (hn.below (fun h => h.below hb) hb) hr i)
 have HB := yh hb
 rw [hasN_ids]
 clear hn hrl hb hr
 generalize (g.nodes.map NodeD.id).any (· == i) = r at *
 go_enter Tryz.func102, Tryz.ntmps102
 go_wp2_with (go_at_call 145; refine HC.out.mono ?_; rintro e w1 ⟨k, rfl, hb⟩; have HB2 := yh (Kaa HB.out hb); clear hb)
 go_ret
 exact ⟨rfl, HB2.out⟩
section
variable {P : Program} {ops : Array Oper}
def leftN (ops : Array Oper) (listed : Array Bool) : Nat := ((List.range ops.size).filter fun i => !listed.getD i true).length
theorem filter_lt {α : Type} (p q : α → Bool) : ∀ (l : List α), (∀ x ∈ l, q x = true → p x = true) → (∃ x ∈ l, p x = true ∧ q x = false) → (l.filter q).length < (l.filter p).length
 | [], _, h => by obtain ⟨x, hx, _⟩ := h; cases hx
 | a :: l, hm, h => by
   have hle : ∀ (m : List α), (∀ x ∈ m, q x = true → p x = true) → (m.filter q).length ≤ (m.filter p).length := by
    intro m
    induction m with
    | nil => intro _; simp
    | cons b m ih =>
      intro hb
      have i1 := ih fun x hx => hb x (by simp [hx])
      have b1 := hb b (by simp)
      cases hq : q b <;> cases hp : p b <;> simp [List.filter_cons, hq, hp] <;> first | omega | simp_all
   have ha := hm a (by simp)
   have hm' := fun x hx => hm x (List.mem_cons_of_mem _ hx)
   obtain ⟨x, hx, h1, h2⟩ := h
   rcases List.mem_cons.1 hx with rfl | hx
   ·have := hle l hm'
    simp [List.filter_cons, h1, h2]; omega
   ·have := filter_lt p q l hm' ⟨x, hx, h1, h2⟩
    cases hq : q a <;> cases hp : p a <;> simp [List.filter_cons, hq, hp] <;> first | omega | simp_all
theorem leftN_set {listed : Array Bool} {i : Nat} (hi : i ∈ Region.ready .any ops listed) : leftN ops (listed.setIfInBounds i true) < leftN ops listed := by
 obtain ⟨h0, o, ho, _⟩ := mem_ready.1 hi
 have hlt : i < ops.size := (Array.getElem?_eq_some_iff.1 ho).1
 have hsz : i < listed.size := by
  rcases Nat.lt_or_ge i listed.size with h | h
  ·exact h
  ·simp [Array.getElem?_eq_none h] at h0
 refine filter_lt _ _ _ (fun j _ hj => ?_) ⟨i, List.mem_range.2 hlt, by simp [h0], by simp [hsz]⟩
 rcases Nat.decEq j i with h | h
 ·rw [getD_set_ne true (Ne.symm h)] at hj; exact hj
 ·subst h; simp [hsz] at hj
def deps (ops : Array Oper) (i : Nat) : List Nat := marks ops ops.size (afters ops i)
def dstOf (ops : Array Oper) (i : Nat) : Tmp := ((ops[i]?).bind (·.dst)).getD 0
def dstsOk (ops : Array Oper) (M : List Nat) (n : Nat) : Bool := decide ((M.map (dstOf ops)).Nodup) && M.all fun i => decide (((ops[i]?).bind (·.dst)).getD n < n)
theorem dstsOk_lt {M : List Nat} {n i : Nat} (h : dstsOk ops M n = true) (hi : i ∈ M) : ∃ o, ops[i]? = some o ∧ o.dst = some (dstOf ops i) ∧ dstOf ops i < n := by
 have h2 := List.all_eq_true.1 (Bool.and_eq_true_iff.1 h).2 i hi
 simp only [decide_eq_true_eq] at h2
 unfold dstOf
 cases ho : ops[i]? with
 | none => rw [ho] at h2; simp at h2
 | some o =>
   rw [ho] at h2
   simp only [Option.bind_some] at h2 ⊢
   cases hd : o.dst with
   | none => rw [hd] at h2; simp at h2
   | some d => rw [hd] at h2; exact ⟨o, rfl, by rw [hd]; rfl, by simpa using h2⟩
theorem nodup_inj {α β : Type} {f : α → β} : ∀ {l : List α}, (l.map f).Nodup → ∀ {a b : α}, a ∈ l → b ∈ l → f a = f b → a = b
 | [], _, _, _, h, _, _ => by cases h
 | c :: l, hn, a, b, ha, hb, e => by
   rw [List.map_cons, List.nodup_cons] at hn
   rcases List.mem_cons.1 ha with h1 | h1 <;> rcases List.mem_cons.1 hb with h2 | h2
   ·rw [h1, h2]
   ·exact absurd (List.mem_map.2 ⟨b, h2, by rw [← e, h1]⟩) hn.1
   ·exact absurd (List.mem_map.2 ⟨a, h1, by rw [e, h2]⟩) hn.1
   ·exact nodup_inj hn.2 h1 h2 e
theorem dstsOk_inj {M : List Nat} {n i j : Nat} (h : dstsOk ops M n = true) (hi : i ∈ M) (hj : j ∈ M) (e : dstOf ops i = dstOf ops j) : i = j :=
 nodup_inj (of_decide_eq_true (Bool.and_eq_true_iff.1 h).1) hi hj e
def forward (ops : Array Oper) : Bool := (List.range ops.size).all fun i => (afters ops i).all fun j => decide (j < i)
theorem all_done (hf : forward ops = true) {listed : Array Bool} (hsz : listed.size = ops.size) (hr : Region.ready .any ops listed = []) : ∀ i, i < ops.size → listed.getD i false = true := by
 intro i
 induction i using Nat.strongRecOn with
 | ind i ih =>
   intro hi
   cases hl : listed.getD i false with
   | true => rfl
   | false =>
     exfalso
     have ho : ops[i]? = some ops[i] := Array.getElem?_eq_getElem hi
     have hmem : i ∈ Region.ready .any ops listed := by
      refine mem_ready.2 ⟨?_, _, ho, fun e he hb => ?_⟩
      ·have : i < listed.size := by omega
       simp [this] at hl ⊢; exact hl
      ·have h1 : e.on ∈ afters ops i := by
        unfold afters; rw [ho]
        exact List.mem_map.2 ⟨e, List.mem_filter.2 ⟨Array.mem_toList_iff.2 he, hb⟩, rfl⟩
       have h2 := List.all_eq_true.1 (List.all_eq_true.1 hf i (List.mem_range.2 hi)) e.on h1
       have h3 := of_decide_eq_true h2
       exact ih _ h3 (by omega)
     rw [hr] at hmem; cases hmem
abbrev OpF := Nat → World → Value → Nat → Nat → Prop
structure AnyS (ops : Array Oper) (M : List Nat) (F : OpF) (a0 : Act) (w0 : World) (i : Nat) (a : Act) (w : World) (v : Nat → Value) (lo hi : Nat → Nat) : Prop where
 below : Below w0.heap.size w0 w
 cell : ∀ d u, (M.all fun j => dstOf ops j != d) = true → a0.tmps[d]? = some u → a.tmps[d]? = some u
 new : ∀ j, j ∈ M → (deps ops i).contains j = true → a.eval (.tmp (dstOf ops j)) = v j ∧ F j w (v j) (lo j) (hi j) ∧ w0.heap.size ≤ lo j ∧ lo j ≤ hi j ∧ hi j ≤ w.heap.size
 slot : ∀ j, j ∈ M → (deps ops i).contains j = true → a.tmps[dstOf ops j]? = some (v j)
theorem eval_slot {a : Act} {d : Tmp} {u : Value} (h : a.tmps[d]? = some u) : a.eval (.tmp d) = u := by
 show a.tmps.getD d undef = u
 simp [h]
theorem AnyS.old {M : List Nat} {F : OpF} {a0 : Act} {w0 : World} {i : Nat} {a : Act} {w : World} {v : Nat → Value} {lo hi : Nat → Nat} (h : AnyS ops M F a0 w0 i a w v lo hi) (d : Tmp) (u : Value) (h1 : (M.all fun j => dstOf ops j != d) = true) (h2 : a0.tmps[d]? = some u) : a.eval (.tmp d) = u := eval_slot (h.cell d u h1 h2)
theorem two_evals {a : Act} {x y : Operand} {u v : Value} (h1 : a.eval x = u) (h2 : a.eval y = v) : [x, y].map a.eval = [u, v] := by simp [h1, h2]
end
end Go.Proofs.YthdfedfholmbmaaGreatDoor
