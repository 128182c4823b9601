/- Texts that the proof shares (each declaration is a lemma of this layer). -/
import Derived.Test.YthdfedfholmbmaaGreatDoorZCbdb
import Derived.Shelf.SlicesE.Compact
import Derived.Ground.SlgnProg
import Derived.Test.YthdfedfholmbmaaGreatDoorProg
import Derived.Lib.SlicesCompact
set_option linter.unusedSimpArgs false
set_option linter.unusedVariables false
set_option maxRecDepth 100000
set_option maxHeartbeats 64000000
namespace Go.Proofs.YthdfedfholmbmaaGreatDoor
open Go.RowKit
theorem node_id {w : World} {n : NodeD} {cs : Array Value} (h : NRd w n cs) : cs[0]? = some (.int .i64 n.id) := by
 obtain ⟨pl, cl, pp, cp, rfl, _⟩ := h; rfl
def okAt (g : GraphD) (n : NodeD) : Bool := okN n && decide (n.id < g.nextNode)
theorem ld_cell {w w' : World} {B o : Nat} {cs : Array Value} {T t : TypeId} {d : TypeDesc} {v : Value} (hu : Tryz.prog.underlying t = some d) (hd : isAggD d = false) (g : Below w.heap.size w w') (h : w.heap[B]? = some (.cells cs T (0, 0))) (hv : cs[o]? = some v) : (loadVar t ⟨B, o, none⟩).run Tryz.prog w' = .ok v w' :=
 box_load (w := w) hu hd (Kak g (Array.getElem?_eq_some_iff.1 h).1 h) hv
theorem dec_lt (a b : Int) : decide (a < b) = !decide (b ≤ a) := by rw [Bool.eq_iff_iff]; simp
theorem okNs_eq (g : GraphD) : okNs g = (g.nodes.all (okAt g) && Kb4 (g.nodes.map NodeD.id)) := rfl
theorem okNs_no {g : GraphD} {j : Nat} (hj : j < g.nodes.length) (h : okAt g g.nodes[j] = false) : okNs g = false := by
 rw [okNs_eq]
 have : g.nodes.all (okAt g) = false := by
  rw [List.all_eq_false]
  exact ⟨g.nodes[j], List.getElem_mem hj, by simp [h]⟩
 rw [this, Bool.false_and]
theorem okNs_fall {g : GraphD} {k j : Nat} (hk : k + 1 = j) (hj : j < g.nodes.length) (h : g.nodes[j].id ≤ g.nodes[k].id) : okNs g = false := by
 rw [okNs_eq]
 cases hr : Kb4 (g.nodes.map NodeD.id) with
 | false => rw [Bool.and_false]
 | true =>
   have := Kdz hr (a := k) (b := j) (by simpa using hj) (by omega)
   rw [List.getElem_map, List.getElem_map] at this
   omega
def NsInv (g : GraphD) (j : Nat) : Prop := (g.nodes.take j).all (okAt g) = true ∧ Kb4 ((g.nodes.map NodeD.id).take j) = true
theorem NsInv.zero (g : GraphD) : NsInv g 0 := ⟨by simp, by simp [Kb4]⟩
theorem NsInv.one {g : GraphD} {j : Nat} (h0 : j = 0) (hj : j < g.nodes.length) (h : okAt g g.nodes[j] = true) : NsInv g (j + 1) := by
 subst h0
 exact ⟨all_snoc hj (by simp) h, risesI_one _⟩
theorem NsInv.snoc {g : GraphD} {k j : Nat} (hk : k + 1 = j) (hj : j < g.nodes.length) (hi : NsInv g j) (h : okAt g g.nodes[j] = true) (hlt : ¬ g.nodes[j].id ≤ g.nodes[k].id) : NsInv g (j + 1) := by
 subst hk
 refine ⟨all_snoc hj hi.1 h, ?_⟩
 rw [risesI_step (by simpa using hj), hi.2, Bool.true_and]
 simp only [List.getElem_map, decide_eq_true_eq]; omega
theorem NsInv.last {g : GraphD} (h : NsInv g g.nodes.length) : okNs g = true := by
 rw [okNs_eq]
 have h1 := h.1
 have h2 := h.2
 rw [List.take_length] at h1
 rw [List.take_of_length_le (by simp)] at h2
 rw [h1, h2]; rfl
theorem gnodes_any {w : World} (hE : Env w) {g : GraphD} {x : Array Value} (h : GrRd w g x) (ht : totG g ≤ 1000000) : Calls Tryz.prog 44 #[.agg x] w fun e w' => e = .returned (.bool (okNs g)) ∧ Below w.heap.size w w' := by
 have hgr := h
 obtain ⟨pn, cn, pr, cr, rfl, hn, hrl⟩ := h
 have z1 : (g.nodes.length : Int) ≤ 140737488355328 := by have := hn.1.2.1; omega
 have htn : ∀ n ∈ g.nodes, totN n ≤ 1000000 := fun n hm => by
  have h1 := Kb6 totN hm
  unfold totG at ht; omega
 have hb := Kac (w := w) (.cells #[.slice pn g.nodes.length cn, .slice pr g.rels.length cr, .int .i64 g.nextNode, .int .i64 g.nextRel] 25)
 have hg := heap_alloc_new w (.cells #[.slice pn g.nodes.length cn, .slice pr g.rels.length cr, .int .i64 g.nextNode, .int .i64 g.nextRel] 25)
 have hn1 := hn.below (fun h => h.below hb) hb
 have hE1 := hE.b hb
 have hgr1 := hgr.below hb
 have hlt0 := Array.getElem?_eq_some_iff.1 hg |>.1
 have H := yh (And.intro hn1 (And.intro hE1 (And.intro hg (And.intro hgr1 hlt0))))
 have HB0 := yh hb
 have HT := yh htn
 clear hn hrl hb hg hn1 hE1 hE ht htn hgr hgr1 hlt0
 go_enter Tryz.func44, Tryz.ntmps44
 go_wp2
 generalize w.alloc (.cells #[.slice pn g.nodes.length cn, .slice pr g.rels.length cr, .int .i64 g.nextNode, .int .i64 g.nextRel] 25) = w1 at *
 go_loopw [8] (fun i W => ∃ j : Nat, j ≤ g.nodes.length ∧ i = .int .i64 (j : Int) ∧ Hid (NsInv g j ∧ Below w1.heap.size w1 W)) (fun i _ => g.nodes.length - (intOf i).toNat)
 case atStart => exact ⟨0, Nat.zero_le _, rfl, yh ⟨NsInv.zero g, Below.refl _ _⟩⟩
 case round =>
  obtain ⟨j, hj, rfl, HI⟩ := hrel
  by_cases hlt : j < g.nodes.length
  ·have hlt1 : j + 1 ≤ g.nodes.length := hlt
   obtain ⟨hn1, hE1, hg, hgr1, hlt0⟩ := H.out
   have hnr := hn1.below (fun h => h.below HI.out.2) HI.out.2
   obtain ⟨b, of, cs, rfl, hs, hc, hv⟩ := hnr.get hlt
   have hones := ef_node.ones hv
   have hnof : okAt g g.nodes[j] = false → okNs g = false := okNs_no hlt
   have hfaf : ∀ k, k + 1 = j → ∀ hk : k < g.nodes.length, g.nodes[j].id ≤ g.nodes[k].id → okNs g = false := fun k hk _ h => okNs_fall hk hlt h
   have honf : j = 0 → okAt g g.nodes[j] = true → NsInv g (j + 1) := fun h0 h => NsInv.one h0 hlt h
   have hsnf : ∀ k, k + 1 = j → ∀ hk : k < g.nodes.length, okAt g g.nodes[j] = true → ¬ g.nodes[j].id ≤ g.nodes[k].id → NsInv g (j + 1) := fun k hk _ h h' => NsInv.snoc hk hlt HI.out.1 h h'
   have hoaf : okAt g g.nodes[j] = (okN g.nodes[j] && !decide (g.nextNode ≤ g.nodes[j].id)) := by rw [← dec_lt]; rfl
   have htot : totN g.nodes[j] ≤ 1000000 := HT.out _ (List.getElem_mem hlt)
   generalize g.nodes[j] = nj at *
   have hbn := Kac (w := wr) (.cells cs 70)
   have hb2 := Kaa HI.out.2 hbn
   have hB := heap_alloc_new wr (.cells cs 70)
   have HL1 := yh (Kct.load hs hc)
   have HS := yh (Kct.fresh hs hones (W := wr))
   have hl4 : ∀ W, Below (wr.alloc (.cells cs 70)).heap.size (wr.alloc (.cells cs 70)) W → (loadVar 70 ⟨wr.heap.size, 0, none⟩).run Tryz.prog W = .ok (.agg cs) W := fun W q => Kct.get hs (Kak q (Array.getElem?_eq_some_iff.1 hB).1 hB)
   have hidl : ∀ W, Below (wr.alloc (.cells cs 70)).heap.size (wr.alloc (.cells cs 70)) W → (loadVar 2 ⟨wr.heap.size, 0, none⟩).run Tryz.prog W = .ok (.int .i64 nj.id) W := fun W q => ld_cell Tryz.underlying2 rfl q hB (node_id hv)
   have hnx : ∀ W, Below (wr.alloc (.cells cs 70)).heap.size (wr.alloc (.cells cs 70)) W → (loadVar 2 ⟨w.heap.size, 2, none⟩).run Tryz.prog W = .ok (.int .i64 g.nextNode) W := fun W q => ld_cell Tryz.underlying2 rfl (Kaa hb2 q) hg rfl
   have hls : ∀ W, Below (wr.alloc (.cells cs 70)).heap.size (wr.alloc (.cells cs 70)) W → (loadVar 22 ⟨w.heap.size, 0, none⟩).run Tryz.prog W = .ok (.slice (some ⟨b, of, none⟩) g.nodes.length cn) W := fun W q => ld_cell Tryz.underlying22 rfl (Kaa hb2 q) hg rfl
   have hia : ∀ W' : World, (Instr.indexAt 22 (.slice (some ⟨b, of, none⟩) g.nodes.length cn) (.int .i64 (j : Int))).run Tryz.prog W' = .ok (.pointer (some ⟨b, of + j * 3, none⟩)) W' := by intro W'; simp [go_sem, hlt]
   have hf0 : ∀ W' : World, (Instr.fieldAt 70 (.pointer (some ⟨wr.heap.size, 0, none⟩)) 0).run Tryz.prog W' = .ok (.pointer (some ⟨wr.heap.size, 0, none⟩)) W' := by intro W'; simp [go_sem]
   have hfn : ∀ W' : World, (Instr.fieldAt 25 (.pointer (some ⟨w.heap.size, 0, none⟩)) 2).run Tryz.prog W' = .ok (.pointer (some ⟨w.heap.size, 2, none⟩)) W' := by intro W'; simp [go_sem]
   have hfl : ∀ W' : World, (Instr.fieldAt 25 (.pointer (some ⟨w.heap.size, 0, none⟩)) 0).run Tryz.prog W' = .ok (.pointer (some ⟨w.heap.size, 0, none⟩)) W' := by intro W'; simp [go_sem]
   have hge : ∀ bb, decide (g.nextNode ≤ nj.id) = bb → ∀ W' : World, (binOp .geq 2 (.int .i64 nj.id) (.int .i64 g.nextNode)).run Tryz.prog W' = .ok (.bool bb) W' := by intro bb hbb W'; subst hbb; simp [go_sem]
   have hgt : ∀ bb, decide (0 < j) = bb → ∀ W' : World, (binOp .gtr 3 (.int .i64 (j : Int)) (.int .i64 0)).run Tryz.prog W' = .ok (.bool bb) W' := by intro bb hbb W'; subst hbb; simp [go_sem]
   have hokc : ∀ bb, okN nj = bb → ∀ W', Below (wr.alloc (.cells cs 70)).heap.size (wr.alloc (.cells cs 70)) W' → Calls Tryz.prog 100 #[.agg cs] W' fun e w' => e = .returned (.bool bb) ∧ Below W'.heap.size W' w' := fun bb hbb W' q => hbb ▸ gnode_any (hE1.b (Kaa hb2 q)) (hv.below (Kaa hbn q)) htot
   have hkp : ∀ k, k + 1 = j → ∀ hk : k < g.nodes.length, (∀ W' : World, (binOp .sub 3 (.int .i64 (j : Int)) (.int .i64 1)).run Tryz.prog W' = .ok (.int .i64 (k : Int)) W') ∧ (∀ W' : World, (Instr.indexAt 22 (.slice (some ⟨b, of, none⟩) g.nodes.length cn) (.int .i64 (k : Int))).run Tryz.prog W' = .ok (.pointer (some ⟨b, of + k * 3, none⟩)) W') ∧
    (∀ W' : World, (Instr.fieldAt 70 (.pointer (some ⟨b, of + k * 3, none⟩)) 0).run Tryz.prog W' = .ok (.pointer (some ⟨b, of + k * 3, none⟩)) W') ∧ (∀ W, Below (wr.alloc (.cells cs 70)).heap.size (wr.alloc (.cells cs 70)) W → (loadVar 2 ⟨b, of + k * 3, none⟩).run Tryz.prog W = .ok (.int .i64 g.nodes[k].id) W) ∧
    (∀ bb, decide (nj.id ≤ g.nodes[k].id) = bb → ∀ W' : World, (binOp .geq 2 (.int .i64 g.nodes[k].id) (.int .i64 nj.id)).run Tryz.prog W' = .ok (.bool bb) W') := by
    intro k hk hkl
    obtain ⟨b', of', cs', e', hs', hc', hv'⟩ := hnr.get hkl
    cases e'
    refine ⟨fun W' => ?_, fun W' => by simp [go_sem, hkl], fun W' => by simp [go_sem], fun W q => ?_, fun bb hbb W' => by subst hbb; simp [go_sem]⟩
    ·rw [← hk]
     exact_mod_cast sub_one (j := k) (by omega) W'
    ·have hc0 := hc' 0 _ (node_id hv')
     exact Kah Tryz.underlying2 rfl (Kam (Kaa hbn q) (ltOf hc0) hc0)
   have HX := yh (And.intro hl4 (And.intro hidl (And.intro hnx (And.intro hls (And.intro hf0 (And.intro hfn hfl))))))
   have HKP := yh hkp
   have HBN := yh (Kaa HB0.out hb2)
   have HSB := yh ((Below.refl (wr.alloc (.cells cs 70)).heap.size (wr.alloc (.cells cs 70))).drew)
   have HGE0 := yh hge
   have HGT0 := yh hgt
   have HOK0 := yh hokc
   have HLW := yh (And.intro hnof (And.intro hfaf (And.intro honf (And.intro hsnf hoaf))))
   clear hl4 hidl hnx hls hf0 hfn hfl hge hgt hokc hkp htot hnof hfaf honf hsnf hoaf hb2 hB hones hs hc hv hbn hnr hn1 hE1 hg hgr1 hlt0
   go_wp2_with (first
    | ((with_reducible apply Kal); exact HL1.out; exact rfl)
    | ((with_reducible apply Kad); exact HS.out _ rfl; exact rfl; exact rfl))
   obtain ⟨hl4, hidl, hnx, hls, hf0, hfn, hfl⟩ := HX.out
   have hS0 := HSB.out
   refine Kan (fun W => Below (wr.alloc (.cells cs 70)).heap.size (wr.alloc (.cells cs 70)) W) (by kernel_rfl) hS0 (fun hS => ?_)
   refine tk 0 13 (v := .agg cs) rfl rfl (fun W hW => Kag rfl rfl (hl4 W hW)) ?_
   simp only [Act.put, sA, sZ, sS]
   cases hok : okN nj with
   | false =>
     have HOKC := yh (HOK0.out _ hok)
     refine Kb0 1 14 rfl rfl (by kernel_rfl) rfl (Kbh [.agg cs] rfl rfl Tryz.func100 (by kernel_rfl) (by kernel_rfl)) ?_
     refine (HOKC.out _ hS).mono ?_
     rintro e w1 ⟨rfl, hb1⟩
     have hS1 := Kaa hS hb1
     refine ⟨_, rfl, .inr hS1, ?_⟩
     simp only [Act.put, sA, sZ, sS]
     refine tk 2 15 (v := .bool true) rfl rfl (fun W hW => Kbs (b := false) rfl rfl) ?_
     simp only [Act.put, sA, sZ, sS]
     refine tk 3 16 (v := .bool true) rfl rfl (fun W hW => Kai rfl rfl) ?_
     simp only [Act.put, sA, sZ, sS]
     refine tn 4 17 rfl rfl ?_
     simp only [Act.put, sA, sZ, sS]
     refine tn 5 18 rfl rfl ?_
     simp only [Act.put, sA, sZ, sS]
     refine tn 6 19 rfl rfl ?_
     simp only [Act.put, sA, sZ, sS]
     refine tn 7 20 rfl rfl ?_
     simp only [Act.put, sA, sZ, sS]
     refine tn 8 21 rfl rfl ?_
     simp only [Act.put, sA, sZ, sS]
     refine tk 9 22 (v := .bool true) rfl rfl (fun W hW => rfl) ?_
     simp only [Act.put, sA, sZ, sS]
     refine tk 10 23 (v := .bool true) rfl rfl (fun W hW => Kai rfl rfl) ?_
     simp only [Act.put, sA, sZ, sS]
     refine tn 11 24 rfl rfl ?_
     simp only [Act.put, sA, sZ, sS]
     refine tn 12 25 rfl rfl ?_
     simp only [Act.put, sA, sZ, sS]
     refine tn 13 26 rfl rfl ?_
     simp only [Act.put, sA, sZ, sS]
     refine tn 14 27 rfl rfl ?_
     simp only [Act.put, sA, sZ, sS]
     refine tn 15 28 rfl rfl ?_
     simp only [Act.put, sA, sZ, sS]
     refine tn 16 29 rfl rfl ?_
     simp only [Act.put, sA, sZ, sS]
     refine tn 17 30 rfl rfl ?_
     simp only [Act.put, sA, sZ, sS]
     refine tn 18 31 rfl rfl ?_
     simp only [Act.put, sA, sZ, sS]
     refine tn 19 32 rfl rfl ?_
     simp only [Act.put, sA, sZ, sS]
     refine tn 20 33 rfl rfl ?_
     simp only [Act.put, sA, sZ, sS]
     refine tn 21 34 rfl rfl ?_
     simp only [Act.put, sA, sZ, sS]
     refine tn 22 35 rfl rfl ?_
     simp only [Act.put, sA, sZ, sS]
     refine tn 23 36 rfl rfl ?_
     simp only [Act.put, sA, sZ, sS]
     refine tn 24 37 rfl rfl ?_
     simp only [Act.put, sA, sZ, sS]
     refine tk 25 38 (v := .bool true) rfl rfl (fun W hW => rfl) ?_
     simp only [Act.put, sA, sZ, sS]
     refine done (by kernel_rfl) ?_ _
     obtain ⟨hnof, hfaf, honf, hsnf, hoaf⟩ := HLW.out
     have HFIN := yh (hnof (by rw [hoaf, hok]; rfl))
     have HBF := yh (Kaa HBN.out hS1)
     clear hnof hfaf honf hsnf hoaf hl4 hidl hnx hls hf0 hfn hfl hS0 hS hS1 hb1 hok
     go_wp2
     go_ret
     exact ⟨by rw [HFIN.out]; rfl, HBF.out⟩
   | true =>
     have HOKC := yh (HOK0.out _ hok)
     refine Kb0 1 14 rfl rfl (by kernel_rfl) rfl (Kbh [.agg cs] rfl rfl Tryz.func100 (by kernel_rfl) (by kernel_rfl)) ?_
     refine (HOKC.out _ hS).mono ?_
     rintro e w1 ⟨rfl, hb1⟩
     have hS1 := Kaa hS hb1
     refine ⟨_, rfl, .inr hS1, ?_⟩
     simp only [Act.put, sA, sZ, sS]
     refine tk 2 15 (v := .bool false) rfl rfl (fun W hW => Kbs (b := true) rfl rfl) ?_
     simp only [Act.put, sA, sZ, sS]
     refine tk 3 16 (v := .bool false) rfl rfl (fun W hW => Kai rfl rfl) ?_
     simp only [Act.put, sA, sZ, sS]
     refine tk 4 17 (v := .pointer (some ⟨wr.heap.size, 0, none⟩)) rfl rfl (fun W hW => Kae rfl rfl (hf0 W)) ?_
     simp only [Act.put, sA, sZ, sS]
     refine tk 5 18 (v := .int .i64 nj.id) rfl rfl (fun W hW => Kag rfl rfl (hidl W hW)) ?_
     simp only [Act.put, sA, sZ, sS]
     refine tk 6 19 (v := .pointer (some ⟨w.heap.size, 2, none⟩)) rfl rfl (fun W hW => Kae rfl rfl (hfn W)) ?_
     simp only [Act.put, sA, sZ, sS]
     refine tk 7 20 (v := .int .i64 g.nextNode) rfl rfl (fun W hW => Kag rfl rfl (hnx W hW)) ?_
     simp only [Act.put, sA, sZ, sS]
     cases hnxd : decide (g.nextNode ≤ nj.id) with
     | false =>
       have HGE := yh (HGE0.out _ hnxd)
       refine tk 8 21 (v := .bool false) rfl rfl (fun W hW => Kaw rfl rfl rfl (HGE.out W)) ?_
       simp only [Act.put, sA, sZ, sS]
       refine tk 9 22 (v := .bool false) rfl rfl (fun W hW => rfl) ?_
       simp only [Act.put, sA, sZ, sS]
       refine tk 10 23 (v := .bool false) rfl rfl (fun W hW => Kai rfl rfl) ?_
       simp only [Act.put, sA, sZ, sS]
       refine tk 11 24 (v := .int .i64 (j : Int)) rfl rfl (fun W hW => Kai rfl rfl) ?_
       simp only [Act.put, sA, sZ, sS]
       cases hj0 : decide (0 < j) with
       | false =>
         have HGT := yh (HGT0.out _ hj0)
         refine tk 12 25 (v := .bool false) rfl rfl (fun W hW => Kaw rfl rfl rfl (HGT.out W)) ?_
         simp only [Act.put, sA, sZ, sS]
         refine tk 13 26 (v := .bool false) rfl rfl (fun W hW => Kai rfl rfl) ?_
         simp only [Act.put, sA, sZ, sS]
         refine tn 14 27 rfl rfl ?_
         simp only [Act.put, sA, sZ, sS]
         refine tn 15 28 rfl rfl ?_
         simp only [Act.put, sA, sZ, sS]
         refine tn 16 29 rfl rfl ?_
         simp only [Act.put, sA, sZ, sS]
         refine tn 17 30 rfl rfl ?_
         simp only [Act.put, sA, sZ, sS]
         refine tn 18 31 rfl rfl ?_
         simp only [Act.put, sA, sZ, sS]
         refine tn 19 32 rfl rfl ?_
         simp only [Act.put, sA, sZ, sS]
         refine tn 20 33 rfl rfl ?_
         simp only [Act.put, sA, sZ, sS]
         refine tn 21 34 rfl rfl ?_
         simp only [Act.put, sA, sZ, sS]
         refine tn 22 35 rfl rfl ?_
         simp only [Act.put, sA, sZ, sS]
         refine tn 23 36 rfl rfl ?_
         simp only [Act.put, sA, sZ, sS]
         refine tk 24 37 (v := .bool false) rfl rfl (fun W hW => rfl) ?_
         simp only [Act.put, sA, sZ, sS]
         refine tk 25 38 (v := .bool false) rfl rfl (fun W hW => rfl) ?_
         simp only [Act.put, sA, sZ, sS]
         refine done (by kernel_rfl) ?_ _
         obtain ⟨hnof, hfaf, honf, hsnf, hoaf⟩ := HLW.out
         have HFIN := yh (honf (by simp only [decide_eq_false_iff_not] at hj0; omega) (by rw [hoaf, hok, hnxd]; rfl))
         have HBX := yh (Kaa (Kaa HI.out.2 (Kac (w := wr) (.cells cs 70))) hS1)
         clear hnof hfaf honf hsnf hoaf hl4 hidl hnx hls hf0 hfn hfl hS0 hS hS1 hb1 hok hnxd hj0
         go_wp2
         go_roundw
         case rel => exact ⟨j + 1, hlt1, by go_num, yh ⟨HFIN.out, HBX.out⟩⟩
         case measure => simp [intOf]; omega
       | true =>
         have HGT := yh (HGT0.out _ hj0)
         obtain ⟨k, hke⟩ : ∃ k, k + 1 = j := ⟨j - 1, by simp only [decide_eq_true_eq] at hj0; omega⟩
         have hkl : k < g.nodes.length := by omega
         have HK := yh (HKP.out k hke hkl)
         have hfk := HLW.out.2.1 k hke hkl
         have hsk := HLW.out.2.2.2.1 k hke hkl
         clear hke HKP
         generalize g.nodes[k] = nk at *
         obtain ⟨hsb, hix, hfp, hpv, _⟩ := HK.out
         refine tk 12 25 (v := .bool true) rfl rfl (fun W hW => Kaw rfl rfl rfl (HGT.out W)) ?_
         simp only [Act.put, sA, sZ, sS]
         refine tk 13 26 (v := .bool true) rfl rfl (fun W hW => Kai rfl rfl) ?_
         simp only [Act.put, sA, sZ, sS]
         refine tk 14 27 (v := .pointer (some ⟨w.heap.size, 0, none⟩)) rfl rfl (fun W hW => Kae rfl rfl (hfl W)) ?_
         simp only [Act.put, sA, sZ, sS]
         refine tk 15 28 (v := .slice (some ⟨b, of, none⟩) g.nodes.length cn) rfl rfl (fun W hW => Kag rfl rfl (hls W hW)) ?_
         simp only [Act.put, sA, sZ, sS]
         refine tk 16 29 (v := .int .i64 (j : Int)) rfl rfl (fun W hW => Kai rfl rfl) ?_
         simp only [Act.put, sA, sZ, sS]
         refine tk 17 30 (v := .int .i64 (k : Int)) rfl rfl (fun W hW => Kaw rfl rfl rfl (hsb W)) ?_
         simp only [Act.put, sA, sZ, sS]
         refine tk 18 31 (v := .pointer (some ⟨b, of + k * 3, none⟩)) rfl rfl (fun W hW => Kar rfl rfl rfl (hix W)) ?_
         simp only [Act.put, sA, sZ, sS]
         refine tk 19 32 (v := .pointer (some ⟨b, of + k * 3, none⟩)) rfl rfl (fun W hW => Kae rfl rfl (hfp W)) ?_
         simp only [Act.put, sA, sZ, sS]
         refine tk 20 33 (v := .int .i64 nk.id) rfl rfl (fun W hW => Kag rfl rfl (hpv W hW)) ?_
         simp only [Act.put, sA, sZ, sS]
         refine tk 21 34 (v := .pointer (some ⟨wr.heap.size, 0, none⟩)) rfl rfl (fun W hW => Kae rfl rfl (hf0 W)) ?_
         simp only [Act.put, sA, sZ, sS]
         refine tk 22 35 (v := .int .i64 nj.id) rfl rfl (fun W hW => Kag rfl rfl (hidl W hW)) ?_
         simp only [Act.put, sA, sZ, sS]
         cases hpd : decide (nj.id ≤ nk.id) with
         | false =>
           have HG2 := yh (HK.out.2.2.2.2 _ hpd)
           refine tk 23 36 (v := .bool false) rfl rfl (fun W hW => Kaw rfl rfl rfl (HG2.out W)) ?_
           simp only [Act.put, sA, sZ, sS]
           refine tk 24 37 (v := .bool false) rfl rfl (fun W hW => rfl) ?_
           simp only [Act.put, sA, sZ, sS]
           refine tk 25 38 (v := .bool false) rfl rfl (fun W hW => rfl) ?_
           simp only [Act.put, sA, sZ, sS]
           refine done (by kernel_rfl) ?_ _
           obtain ⟨hnof, hfaf, honf, hsnf, hoaf⟩ := HLW.out
           have HFIN := yh (hsk (by rw [hoaf, hok, hnxd]; rfl) (by simpa using hpd))
           have HBX := yh (Kaa (Kaa HI.out.2 (Kac (w := wr) (.cells cs 70))) hS1)
           clear hnof hfaf honf hsnf hoaf hl4 hidl hnx hls hf0 hfn hfl hS0 hS hS1 hsb hix hfp hpv hfk hsk hb1 hok hnxd hj0 hpd
           go_wp2
           go_roundw
           case rel => exact ⟨j + 1, hlt1, by go_num, yh ⟨HFIN.out, HBX.out⟩⟩
           case measure => simp [intOf]; omega
         | true =>
           have HG2 := yh (HK.out.2.2.2.2 _ hpd)
           refine tk 23 36 (v := .bool true) rfl rfl (fun W hW => Kaw rfl rfl rfl (HG2.out W)) ?_
           simp only [Act.put, sA, sZ, sS]
           refine tk 24 37 (v := .bool true) rfl rfl (fun W hW => rfl) ?_
           simp only [Act.put, sA, sZ, sS]
           refine tk 25 38 (v := .bool true) rfl rfl (fun W hW => rfl) ?_
           simp only [Act.put, sA, sZ, sS]
           refine done (by kernel_rfl) ?_ _
           obtain ⟨hnof, hfaf, honf, hsnf, hoaf⟩ := HLW.out
           have HFIN := yh (hfk (by simpa using hpd))
           have HBF := yh (Kaa HBN.out hS1)
           clear hnof hfaf honf hsnf hoaf hl4 hidl hnx hls hf0 hfn hfl hS0 hS hS1 hsb hix hfp hpv hfk hsk hb1 hok hnxd hj0 hpd
           go_wp2
           go_ret
           exact ⟨by rw [HFIN.out]; rfl, HBF.out⟩
     | true =>
       have HGE := yh (HGE0.out _ hnxd)
       refine tk 8 21 (v := .bool true) rfl rfl (fun W hW => Kaw rfl rfl rfl (HGE.out W)) ?_
       simp only [Act.put, sA, sZ, sS]
       refine tk 9 22 (v := .bool true) rfl rfl (fun W hW => rfl) ?_
       simp only [Act.put, sA, sZ, sS]
       refine tk 10 23 (v := .bool true) rfl rfl (fun W hW => Kai rfl rfl) ?_
       simp only [Act.put, sA, sZ, sS]
       refine tn 11 24 rfl rfl ?_
       simp only [Act.put, sA, sZ, sS]
       refine tn 12 25 rfl rfl ?_
       simp only [Act.put, sA, sZ, sS]
       refine tn 13 26 rfl rfl ?_
       simp only [Act.put, sA, sZ, sS]
       refine tn 14 27 rfl rfl ?_
       simp only [Act.put, sA, sZ, sS]
       refine tn 15 28 rfl rfl ?_
       simp only [Act.put, sA, sZ, sS]
       refine tn 16 29 rfl rfl ?_
       simp only [Act.put, sA, sZ, sS]
       refine tn 17 30 rfl rfl ?_
       simp only [Act.put, sA, sZ, sS]
       refine tn 18 31 rfl rfl ?_
       simp only [Act.put, sA, sZ, sS]
       refine tn 19 32 rfl rfl ?_
       simp only [Act.put, sA, sZ, sS]
       refine tn 20 33 rfl rfl ?_
       simp only [Act.put, sA, sZ, sS]
       refine tn 21 34 rfl rfl ?_
       simp only [Act.put, sA, sZ, sS]
       refine tn 22 35 rfl rfl ?_
       simp only [Act.put, sA, sZ, sS]
       refine tn 23 36 rfl rfl ?_
       simp only [Act.put, sA, sZ, sS]
       refine tn 24 37 rfl rfl ?_
       simp only [Act.put, sA, sZ, sS]
       refine tk 25 38 (v := .bool true) rfl rfl (fun W hW => rfl) ?_
       simp only [Act.put, sA, sZ, sS]
       refine done (by kernel_rfl) ?_ _
       obtain ⟨hnof, hfaf, honf, hsnf, hoaf⟩ := HLW.out
       have HFIN := yh (hnof (by rw [hoaf, hok, hnxd]; rfl))
       have HBF := yh (Kaa HBN.out hS1)
       clear hnof hfaf honf hsnf hoaf hl4 hidl hnx hls hf0 hfn hfl hS0 hS hS1 hb1 hok hnxd
       go_wp2
       go_ret
       exact ⟨by rw [HFIN.out]; rfl, HBF.out⟩
  ·obtain rfl : j = g.nodes.length := by omega
   have HF := yh (And.intro HI.out.1.last (Kaa HB0.out HI.out.2))
   clear HI
   go_wp2
   go_ret
   exact ⟨by rw [HF.out.1]; rfl, HF.out.2⟩
theorem rel_id {w : World} {n : RelD} {cs : Array Value} (h : RRd w n cs) : cs[0]? = some (.int .i64 n.id) ∧ cs[1]? = some (.int .i64 n.src) ∧ cs[2]? = some (.int .i64 n.dst) := by
 obtain ⟨pp, cp, rfl, _⟩ := h; exact ⟨rfl, rfl, rfl⟩
def okAtR (g : GraphD) (r : RelD) : Bool := okR r && decide (r.id < g.nextRel) && hasN g r.src && hasN g r.dst
theorem okRs_eq (g : GraphD) : okRs g = (g.rels.all (okAtR g) && Kb4 (g.rels.map RelD.id)) := rfl
theorem okRs_no {g : GraphD} {j : Nat} (hj : j < g.rels.length) (h : okAtR g g.rels[j] = false) : okRs g = false := by
 rw [okRs_eq]
 have : g.rels.all (okAtR g) = false := by
  rw [List.all_eq_false]
  exact ⟨g.rels[j], List.getElem_mem hj, by simp [h]⟩
 rw [this, Bool.false_and]
theorem okRs_fall {g : GraphD} {k j : Nat} (hk : k + 1 = j) (hj : j < g.rels.length) (h : g.rels[j].id ≤ g.rels[k].id) : okRs g = false := by
 rw [okRs_eq]
 cases hr : Kb4 (g.rels.map RelD.id) with
 | false => rw [Bool.and_false]
 | true =>
   have := Kdz hr (a := k) (b := j) (by simpa using hj) (by omega)
   rw [List.getElem_map, List.getElem_map] at this
   omega
def RsInv (g : GraphD) (j : Nat) : Prop := (g.rels.take j).all (okAtR g) = true ∧ Kb4 ((g.rels.map RelD.id).take j) = true
theorem RsInv.zero (g : GraphD) : RsInv g 0 := ⟨by simp, by simp [Kb4]⟩
theorem RsInv.one {g : GraphD} {j : Nat} (h0 : j = 0) (hj : j < g.rels.length) (h : okAtR g g.rels[j] = true) : RsInv g (j + 1) := by
 subst h0
 exact ⟨all_snoc hj (by simp) h, risesI_one _⟩
theorem RsInv.snoc {g : GraphD} {k j : Nat} (hk : k + 1 = j) (hj : j < g.rels.length) (hi : RsInv g j) (h : okAtR g g.rels[j] = true) (hlt : ¬ g.rels[j].id ≤ g.rels[k].id) : RsInv g (j + 1) := by
 subst hk
 refine ⟨all_snoc hj hi.1 h, ?_⟩
 rw [risesI_step (by simpa using hj), hi.2, Bool.true_and]
 simp only [List.getElem_map, decide_eq_true_eq]; omega
theorem RsInv.last {g : GraphD} (h : RsInv g g.rels.length) : okRs g = true := by
 rw [okRs_eq]
 have h1 := h.1
 have h2 := h.2
 rw [List.take_length] at h1
 rw [List.take_of_length_le (by simp)] at h2
 rw [h1, h2]; rfl
theorem grels_any {w : World} (hE : Env w) {g : GraphD} {x : Array Value} (h : GrRd w g x) (hri : Kb4 (g.nodes.map NodeD.id) = true) (ht : totG g ≤ 1000000) : Calls Tryz.prog 45 #[.agg x] w fun e w' => e = .returned (.bool (okRs g)) ∧ Below w.heap.size w w' := by
 have hgr := h
 obtain ⟨pn, cn, pr, cr, rfl, hn, hrl⟩ := h
 have z1 : (g.rels.length : Int) ≤ 140737488355328 := by have := hrl.1.2.1; omega
 have htn : ∀ n ∈ g.rels, totR n ≤ 1000000 := fun n hm => by
  have h1 := Kb6 totR hm
  unfold totG at ht; omega
 have hb := Kac (w := w) (.cells #[.slice pn g.nodes.length cn, .slice pr g.rels.length cr, .int .i64 g.nextNode, .int .i64 g.nextRel] 25)
 have hg := heap_alloc_new w (.cells #[.slice pn g.nodes.length cn, .slice pr g.rels.length cr, .int .i64 g.nextNode, .int .i64 g.nextRel] 25)
 have hn1 := hrl.below (fun h => h.below hb) hb
 have hE1 := hE.b hb
 have hgr1 := hgr.below hb
 have hlt0 := Array.getElem?_eq_some_iff.1 hg |>.1
 have H := yh (And.intro hn1 (And.intro hE1 (And.intro hg (And.intro hgr1 hlt0))))
 have HB0 := yh hb
 have HRI := yh hri
 clear hri
 have HT := yh htn
 clear hn hrl hb hg hn1 hE1 hE ht htn hgr hgr1 hlt0
 go_enter Tryz.func45, Tryz.ntmps45
 go_wp2
 generalize w.alloc (.cells #[.slice pn g.nodes.length cn, .slice pr g.rels.length cr, .int .i64 g.nextNode, .int .i64 g.nextRel] 25) = w1 at *
 go_loopw [8] (fun i W => ∃ j : Nat, j ≤ g.rels.length ∧ i = .int .i64 (j : Int) ∧ Hid (RsInv g j ∧ Below w1.heap.size w1 W)) (fun i _ => g.rels.length - (intOf i).toNat)
 case atStart => exact ⟨0, Nat.zero_le _, rfl, yh ⟨RsInv.zero g, Below.refl _ _⟩⟩
 case round =>
  obtain ⟨j, hj, rfl, HI⟩ := hrel
  by_cases hlt : j < g.rels.length
  ·have hlt1 : j + 1 ≤ g.rels.length := hlt
   obtain ⟨hn1, hE1, hg, hgr1, hlt0⟩ := H.out
   have hnr := hn1.below (fun h => h.below HI.out.2) HI.out.2
   obtain ⟨b, of, cs, rfl, hs, hc, hv⟩ := hnr.get hlt
   have hones := ef_rel.ones hv
   have hnof : okAtR g g.rels[j] = false → okRs g = false := okRs_no hlt
   have hfaf : ∀ k, k + 1 = j → ∀ hk : k < g.rels.length, g.rels[j].id ≤ g.rels[k].id → okRs g = false := fun k hk _ h => okRs_fall hk hlt h
   have honf : j = 0 → okAtR g g.rels[j] = true → RsInv g (j + 1) := fun h0 h => RsInv.one h0 hlt h
   have hsnf : ∀ k, k + 1 = j → ∀ hk : k < g.rels.length, okAtR g g.rels[j] = true → ¬ g.rels[j].id ≤ g.rels[k].id → RsInv g (j + 1) := fun k hk _ h h' => RsInv.snoc hk hlt HI.out.1 h h'
   have hoaf : okAtR g g.rels[j] = (okR g.rels[j] && !decide (g.nextRel ≤ g.rels[j].id) && hasN g g.rels[j].src && hasN g g.rels[j].dst) := by rw [← dec_lt]; rfl
   have htot : totR g.rels[j] ≤ 1000000 := HT.out _ (List.getElem_mem hlt)
   generalize g.rels[j] = nj at *
   have hbn := Kac (w := wr) (.cells cs 72)
   have hb2 := Kaa HI.out.2 hbn
   have hB := heap_alloc_new wr (.cells cs 72)
   have HL1 := yh (Kd0.load hs hc)
   have HS := yh (Kd0.fresh hs hones (W := wr))
   have hl4 : ∀ W, Below (wr.alloc (.cells cs 72)).heap.size (wr.alloc (.cells cs 72)) W → (loadVar 72 ⟨wr.heap.size, 0, none⟩).run Tryz.prog W = .ok (.agg cs) W := fun W q => Kd0.get hs (Kak q (Array.getElem?_eq_some_iff.1 hB).1 hB)
   have hidl : ∀ W, Below (wr.alloc (.cells cs 72)).heap.size (wr.alloc (.cells cs 72)) W → (loadVar 2 ⟨wr.heap.size, 0, none⟩).run Tryz.prog W = .ok (.int .i64 nj.id) W := fun W q => ld_cell Tryz.underlying2 rfl q hB (rel_id hv).1
   have hnx : ∀ W, Below (wr.alloc (.cells cs 72)).heap.size (wr.alloc (.cells cs 72)) W → (loadVar 2 ⟨w.heap.size, 3, none⟩).run Tryz.prog W = .ok (.int .i64 g.nextRel) W := fun W q => ld_cell Tryz.underlying2 rfl (Kaa hb2 q) hg rfl
   have hls : ∀ W, Below (wr.alloc (.cells cs 72)).heap.size (wr.alloc (.cells cs 72)) W → (loadVar 23 ⟨w.heap.size, 1, none⟩).run Tryz.prog W = .ok (.slice (some ⟨b, of, none⟩) g.rels.length cr) W := fun W q => ld_cell Tryz.underlying23 rfl (Kaa hb2 q) hg rfl
   have hia : ∀ W' : World, (Instr.indexAt 23 (.slice (some ⟨b, of, none⟩) g.rels.length cr) (.int .i64 (j : Int))).run Tryz.prog W' = .ok (.pointer (some ⟨b, of + j * 5, none⟩)) W' := by intro W'; simp [go_sem, hlt]
   have hf0 : ∀ W' : World, (Instr.fieldAt 72 (.pointer (some ⟨wr.heap.size, 0, none⟩)) 0).run Tryz.prog W' = .ok (.pointer (some ⟨wr.heap.size, 0, none⟩)) W' := by intro W'; simp [go_sem]
   have hfn : ∀ W' : World, (Instr.fieldAt 25 (.pointer (some ⟨w.heap.size, 0, none⟩)) 3).run Tryz.prog W' = .ok (.pointer (some ⟨w.heap.size, 3, none⟩)) W' := by intro W'; simp [go_sem]
   have hfl : ∀ W' : World, (Instr.fieldAt 25 (.pointer (some ⟨w.heap.size, 0, none⟩)) 1).run Tryz.prog W' = .ok (.pointer (some ⟨w.heap.size, 1, none⟩)) W' := by intro W'; simp [go_sem]
   have hge : ∀ bb, decide (g.nextRel ≤ nj.id) = bb → ∀ W' : World, (binOp .geq 2 (.int .i64 nj.id) (.int .i64 g.nextRel)).run Tryz.prog W' = .ok (.bool bb) W' := by intro bb hbb W'; subst hbb; simp [go_sem]
   have hgt : ∀ bb, decide (0 < j) = bb → ∀ W' : World, (binOp .gtr 3 (.int .i64 (j : Int)) (.int .i64 0)).run Tryz.prog W' = .ok (.bool bb) W' := by intro bb hbb W'; subst hbb; simp [go_sem]
   have hokc : ∀ bb, okR nj = bb → ∀ W', Below (wr.alloc (.cells cs 72)).heap.size (wr.alloc (.cells cs 72)) W' → Calls Tryz.prog 101 #[.agg cs] W' fun e w' => e = .returned (.bool bb) ∧ Below W'.heap.size W' w' := fun bb hbb W' q => hbb ▸ grel_any (hE1.b (Kaa hb2 q)) (hv.below (Kaa hbn q)) htot
   have hgl : ∀ W, Below (wr.alloc (.cells cs 72)).heap.size (wr.alloc (.cells cs 72)) W → (loadVar 25 ⟨w.heap.size, 0, none⟩).run Tryz.prog W = .ok (.agg #[.slice pn g.nodes.length cn, .slice (some ⟨b, of, none⟩) g.rels.length cr, .int .i64 g.nextNode, .int .i64 g.nextRel]) W := fun W q => Kbt.get rfl (Kak (Kaa hb2 q) hlt0 hg)
   have hf1 : ∀ W' : World, (Instr.fieldAt 72 (.pointer (some ⟨wr.heap.size, 0, none⟩)) 1).run Tryz.prog W' = .ok (.pointer (some ⟨wr.heap.size, 1, none⟩)) W' := by intro W'; simp [go_sem]
   have hf2 : ∀ W' : World, (Instr.fieldAt 72 (.pointer (some ⟨wr.heap.size, 0, none⟩)) 2).run Tryz.prog W' = .ok (.pointer (some ⟨wr.heap.size, 2, none⟩)) W' := by intro W'; simp [go_sem]
   have hsl : ∀ W, Below (wr.alloc (.cells cs 72)).heap.size (wr.alloc (.cells cs 72)) W → (loadVar 2 ⟨wr.heap.size, 1, none⟩).run Tryz.prog W = .ok (.int .i64 nj.src) W := fun W q => ld_cell Tryz.underlying2 rfl q hB (rel_id hv).2.1
   have hdl : ∀ W, Below (wr.alloc (.cells cs 72)).heap.size (wr.alloc (.cells cs 72)) W → (loadVar 2 ⟨wr.heap.size, 2, none⟩).run Tryz.prog W = .ok (.int .i64 nj.dst) W := fun W q => ld_cell Tryz.underlying2 rfl q hB (rel_id hv).2.2
   have hhs : ∀ bb, hasN g nj.src = bb → ∀ W', Below (wr.alloc (.cells cs 72)).heap.size (wr.alloc (.cells cs 72)) W' → Calls Tryz.prog 102 #[.agg #[.slice pn g.nodes.length cn, .slice (some ⟨b, of, none⟩) g.rels.length cr, .int .i64 g.nextNode, .int .i64 g.nextRel], .int .i64 nj.src] W' fun e w' => e = .returned (.bool bb) ∧ Below W'.heap.size W' w' := fun bb hbb W' q => hbb ▸ has_any (hgr1.below (Kaa hb2 q)) HRI.out _
   have hhd : ∀ bb, hasN g nj.dst = bb → ∀ W', Below (wr.alloc (.cells cs 72)).heap.size (wr.alloc (.cells cs 72)) W' → Calls Tryz.prog 102 #[.agg #[.slice pn g.nodes.length cn, .slice (some ⟨b, of, none⟩) g.rels.length cr, .int .i64 g.nextNode, .int .i64 g.nextRel], .int .i64 nj.dst] W' fun e w' => e = .returned (.bool bb) ∧ Below W'.heap.size W' w' := fun bb hbb W' q => hbb ▸ has_any (hgr1.below (Kaa hb2 q)) HRI.out _
   have HY := yh (And.intro hgl (And.intro hf1 (And.intro hf2 (And.intro hsl hdl))))
   have HHS0 := yh hhs
   have HHD0 := yh hhd
   clear hgl hf1 hf2 hsl hdl hhs hhd
   have hkp : ∀ k, k + 1 = j → ∀ hk : k < g.rels.length, (∀ W' : World, (binOp .sub 3 (.int .i64 (j : Int)) (.int .i64 1)).run Tryz.prog W' = .ok (.int .i64 (k : Int)) W') ∧ (∀ W' : World, (Instr.indexAt 23 (.slice (some ⟨b, of, none⟩) g.rels.length cr) (.int .i64 (k : Int))).run Tryz.prog W' = .ok (.pointer (some ⟨b, of + k * 5, none⟩)) W') ∧
    (∀ W' : World, (Instr.fieldAt 72 (.pointer (some ⟨b, of + k * 5, none⟩)) 0).run Tryz.prog W' = .ok (.pointer (some ⟨b, of + k * 5, none⟩)) W') ∧ (∀ W, Below (wr.alloc (.cells cs 72)).heap.size (wr.alloc (.cells cs 72)) W → (loadVar 2 ⟨b, of + k * 5, none⟩).run Tryz.prog W = .ok (.int .i64 g.rels[k].id) W) ∧
    (∀ bb, decide (nj.id ≤ g.rels[k].id) = bb → ∀ W' : World, (binOp .geq 2 (.int .i64 g.rels[k].id) (.int .i64 nj.id)).run Tryz.prog W' = .ok (.bool bb) W') := by
    intro k hk hkl
    obtain ⟨b', of', cs', e', hs', hc', hv'⟩ := hnr.get hkl
    cases e'
    refine ⟨fun W' => ?_, fun W' => by simp [go_sem, hkl], fun W' => by simp [go_sem], fun W q => ?_, fun bb hbb W' => by subst hbb; simp [go_sem]⟩
    ·rw [← hk]
     exact_mod_cast sub_one (j := k) (by omega) W'
    ·have hc0 := hc' 0 _ (rel_id hv').1
     exact Kah Tryz.underlying2 rfl (Kam (Kaa hbn q) (ltOf hc0) hc0)
   have HX := yh (And.intro hl4 (And.intro hidl (And.intro hnx (And.intro hls (And.intro hf0 (And.intro hfn hfl))))))
   have HKP := yh hkp
   have HBN := yh (Kaa HB0.out hb2)
   have HSB := yh ((Below.refl (wr.alloc (.cells cs 72)).heap.size (wr.alloc (.cells cs 72))).drew)
   have HGE0 := yh hge
   have HGT0 := yh hgt
   have HOK0 := yh hokc
   have HLW := yh (And.intro hnof (And.intro hfaf (And.intro honf (And.intro hsnf hoaf))))
   clear hl4 hidl hnx hls hf0 hfn hfl hge hgt hokc hkp htot hnof hfaf honf hsnf hoaf hb2 hB hones hs hc hv hbn hnr hn1 hE1 hg hgr1 hlt0
   go_wp2_with (first
    | ((with_reducible apply Kal); exact HL1.out; exact rfl)
    | ((with_reducible apply Kad); exact HS.out _ rfl; exact rfl; exact rfl))
   obtain ⟨hl4, hidl, hnx, hls, hf0, hfn, hfl⟩ := HX.out
   obtain ⟨hgl, hf1, hf2, hsl, hdl⟩ := HY.out
   have hS0 := HSB.out
   refine Kan (fun W => Below (wr.alloc (.cells cs 72)).heap.size (wr.alloc (.cells cs 72)) W) (by kernel_rfl) hS0 (fun hS => ?_)
   refine tk 0 13 (v := .agg cs) rfl rfl (fun W hW => Kag rfl rfl (hl4 W hW)) ?_
   simp only [Act.put, sA, sZ, sS]
   cases hok : okR nj with
   | false =>
     have HOKC := yh (HOK0.out _ hok)
     refine Kb0 1 14 rfl rfl (by kernel_rfl) rfl (Kbh [.agg cs] rfl rfl Tryz.func101 (by kernel_rfl) (by kernel_rfl)) ?_
     refine (HOKC.out _ hS).mono ?_
     rintro e w1 ⟨rfl, hb1⟩
     have hS1 := Kaa hS hb1
     refine ⟨_, rfl, .inr hS1, ?_⟩
     simp only [Act.put, sA, sZ, sS]
     refine tk 2 15 (v := .bool true) rfl rfl (fun W hW => Kbs (b := false) rfl rfl) ?_
     simp only [Act.put, sA, sZ, sS]
     refine tk 3 16 (v := .bool true) rfl rfl (fun W hW => Kai rfl rfl) ?_
     simp only [Act.put, sA, sZ, sS]
     refine tn 4 17 rfl rfl ?_
     simp only [Act.put, sA, sZ, sS]
     refine tn 5 18 rfl rfl ?_
     simp only [Act.put, sA, sZ, sS]
     refine tn 6 19 rfl rfl ?_
     simp only [Act.put, sA, sZ, sS]
     refine tn 7 20 rfl rfl ?_
     simp only [Act.put, sA, sZ, sS]
     refine tn 8 21 rfl rfl ?_
     simp only [Act.put, sA, sZ, sS]
     refine tk 9 22 (v := .bool true) rfl rfl (fun W hW => rfl) ?_
     simp only [Act.put, sA, sZ, sS]
     refine tk 10 23 (v := .bool true) rfl rfl (fun W hW => Kai rfl rfl) ?_
     simp only [Act.put, sA, sZ, sS]
     refine tn 11 24 rfl rfl ?_
     simp only [Act.put, sA, sZ, sS]
     refine tn 12 25 rfl rfl ?_
     simp only [Act.put, sA, sZ, sS]
     refine tn 13 26 rfl rfl ?_
     simp only [Act.put, sA, sZ, sS]
     refine tn 14 27 rfl rfl ?_
     simp only [Act.put, sA, sZ, sS]
     refine tn 15 28 rfl rfl ?_
     simp only [Act.put, sA, sZ, sS]
     refine tn 16 29 rfl rfl ?_
     simp only [Act.put, sA, sZ, sS]
     refine tn 17 30 rfl rfl ?_
     simp only [Act.put, sA, sZ, sS]
     refine tn 18 31 rfl rfl ?_
     simp only [Act.put, sA, sZ, sS]
     refine tn 19 32 rfl rfl ?_
     simp only [Act.put, sA, sZ, sS]
     refine tn 20 33 rfl rfl ?_
     simp only [Act.put, sA, sZ, sS]
     refine tn 21 34 rfl rfl ?_
     simp only [Act.put, sA, sZ, sS]
     refine tn 22 35 rfl rfl ?_
     simp only [Act.put, sA, sZ, sS]
     refine tn 23 36 rfl rfl ?_
     simp only [Act.put, sA, sZ, sS]
     refine tn 24 37 rfl rfl ?_
     simp only [Act.put, sA, sZ, sS]
     refine tk 25 38 (v := .bool true) rfl rfl (fun W hW => rfl) ?_
     simp only [Act.put, sA, sZ, sS]
     refine tk 26 39 (v := .bool true) rfl rfl (fun W hW => Kai rfl rfl) ?_
     simp only [Act.put, sA, sZ, sS]
     refine tn 27 40 rfl rfl ?_
     simp only [Act.put, sA, sZ, sS]
     refine tn 28 41 rfl rfl ?_
     simp only [Act.put, sA, sZ, sS]
     refine tn 29 42 rfl rfl ?_
     simp only [Act.put, sA, sZ, sS]
     refine onlyNot 30 43 rfl rfl (by kernel_rfl) rfl ?_ (.inr (by assumption))
     simp only [Act.put, sA, sZ, sS]
     refine tn 31 44 rfl rfl ?_
     simp only [Act.put, sA, sZ, sS]
     refine tk 32 45 (v := .bool true) rfl rfl (fun W hW => rfl) ?_
     simp only [Act.put, sA, sZ, sS]
     refine tk 33 46 (v := .bool true) rfl rfl (fun W hW => Kai rfl rfl) ?_
     simp only [Act.put, sA, sZ, sS]
     refine tn 34 47 rfl rfl ?_
     simp only [Act.put, sA, sZ, sS]
     refine tn 35 48 rfl rfl ?_
     simp only [Act.put, sA, sZ, sS]
     refine tn 36 49 rfl rfl ?_
     simp only [Act.put, sA, sZ, sS]
     refine onlyNot 37 50 rfl rfl (by kernel_rfl) rfl ?_ (.inr (by assumption))
     simp only [Act.put, sA, sZ, sS]
     refine tn 38 51 rfl rfl ?_
     simp only [Act.put, sA, sZ, sS]
     refine tk 39 52 (v := .bool true) rfl rfl (fun W hW => rfl) ?_
     simp only [Act.put, sA, sZ, sS]
     refine done (by kernel_rfl) ?_ _
     obtain ⟨hnof, hfaf, honf, hsnf, hoaf⟩ := HLW.out
     have HFIN := yh (hnof (by rw [hoaf, hok]; rfl))
     have HBF := yh (Kaa HBN.out hS1)
     clear hnof hfaf honf hsnf hoaf hl4 hidl hnx hls hf0 hfn hfl hS0 hS hS1 hgl hf1 hf2 hsl hdl hb1 hok
     go_wp2
     go_ret
     exact ⟨by rw [HFIN.out]; rfl, HBF.out⟩
   | true =>
     have HOKC := yh (HOK0.out _ hok)
     refine Kb0 1 14 rfl rfl (by kernel_rfl) rfl (Kbh [.agg cs] rfl rfl Tryz.func101 (by kernel_rfl) (by kernel_rfl)) ?_
     refine (HOKC.out _ hS).mono ?_
     rintro e w1 ⟨rfl, hb1⟩
     have hS1 := Kaa hS hb1
     refine ⟨_, rfl, .inr hS1, ?_⟩
     simp only [Act.put, sA, sZ, sS]
     refine tk 2 15 (v := .bool false) rfl rfl (fun W hW => Kbs (b := true) rfl rfl) ?_
     simp only [Act.put, sA, sZ, sS]
     refine tk 3 16 (v := .bool false) rfl rfl (fun W hW => Kai rfl rfl) ?_
     simp only [Act.put, sA, sZ, sS]
     refine tk 4 17 (v := .pointer (some ⟨wr.heap.size, 0, none⟩)) rfl rfl (fun W hW => Kae rfl rfl (hf0 W)) ?_
     simp only [Act.put, sA, sZ, sS]
     refine tk 5 18 (v := .int .i64 nj.id) rfl rfl (fun W hW => Kag rfl rfl (hidl W hW)) ?_
     simp only [Act.put, sA, sZ, sS]
     refine tk 6 19 (v := .pointer (some ⟨w.heap.size, 3, none⟩)) rfl rfl (fun W hW => Kae rfl rfl (hfn W)) ?_
     simp only [Act.put, sA, sZ, sS]
     refine tk 7 20 (v := .int .i64 g.nextRel) rfl rfl (fun W hW => Kag rfl rfl (hnx W hW)) ?_
     simp only [Act.put, sA, sZ, sS]
     cases hnxd : decide (g.nextRel ≤ nj.id) with
     | false =>
       have HGE := yh (HGE0.out _ hnxd)
       refine tk 8 21 (v := .bool false) rfl rfl (fun W hW => Kaw rfl rfl rfl (HGE.out W)) ?_
       simp only [Act.put, sA, sZ, sS]
       refine tk 9 22 (v := .bool false) rfl rfl (fun W hW => rfl) ?_
       simp only [Act.put, sA, sZ, sS]
       refine tk 10 23 (v := .bool false) rfl rfl (fun W hW => Kai rfl rfl) ?_
       simp only [Act.put, sA, sZ, sS]
       refine tk 11 24 (v := .int .i64 (j : Int)) rfl rfl (fun W hW => Kai rfl rfl) ?_
       simp only [Act.put, sA, sZ, sS]
       cases hj0 : decide (0 < j) with
       | false =>
         have HGT := yh (HGT0.out _ hj0)
         refine tk 12 25 (v := .bool false) rfl rfl (fun W hW => Kaw rfl rfl rfl (HGT.out W)) ?_
         simp only [Act.put, sA, sZ, sS]
         refine tk 13 26 (v := .bool false) rfl rfl (fun W hW => Kai rfl rfl) ?_
         simp only [Act.put, sA, sZ, sS]
         refine tn 14 27 rfl rfl ?_
         simp only [Act.put, sA, sZ, sS]
         refine tn 15 28 rfl rfl ?_
         simp only [Act.put, sA, sZ, sS]
         refine tn 16 29 rfl rfl ?_
         simp only [Act.put, sA, sZ, sS]
         refine tn 17 30 rfl rfl ?_
         simp only [Act.put, sA, sZ, sS]
         refine tn 18 31 rfl rfl ?_
         simp only [Act.put, sA, sZ, sS]
         refine tn 19 32 rfl rfl ?_
         simp only [Act.put, sA, sZ, sS]
         refine tn 20 33 rfl rfl ?_
         simp only [Act.put, sA, sZ, sS]
         refine tn 21 34 rfl rfl ?_
         simp only [Act.put, sA, sZ, sS]
         refine tn 22 35 rfl rfl ?_
         simp only [Act.put, sA, sZ, sS]
         refine tn 23 36 rfl rfl ?_
         simp only [Act.put, sA, sZ, sS]
         refine tk 24 37 (v := .bool false) rfl rfl (fun W hW => rfl) ?_
         simp only [Act.put, sA, sZ, sS]
         refine tk 25 38 (v := .bool false) rfl rfl (fun W hW => rfl) ?_
         simp only [Act.put, sA, sZ, sS]
         refine tk 26 39 (v := .bool false) rfl rfl (fun W hW => Kai rfl rfl) ?_
         simp only [Act.put, sA, sZ, sS]
         refine tk 27 40 (v := .agg #[.slice pn g.nodes.length cn, .slice (some ⟨b, of, none⟩) g.rels.length cr, .int .i64 g.nextNode, .int .i64 g.nextRel]) rfl rfl (fun W hW => Kag rfl rfl (hgl W hW)) ?_
         simp only [Act.put, sA, sZ, sS]
         refine tk 28 41 (v := .pointer (some ⟨wr.heap.size, 1, none⟩)) rfl rfl (fun W hW => Kae rfl rfl (hf1 W)) ?_
         simp only [Act.put, sA, sZ, sS]
         refine tk 29 42 (v := .int .i64 nj.src) rfl rfl (fun W hW => Kag rfl rfl (hsl W hW)) ?_
         simp only [Act.put, sA, sZ, sS]
         cases hsr : hasN g nj.src with
         | false =>
           have HHS := yh (HHS0.out _ hsr)
           refine Kb0 30 43 rfl rfl (by kernel_rfl) rfl (Kbh [.agg #[.slice pn g.nodes.length cn, .slice (some ⟨b, of, none⟩) g.rels.length cr, .int .i64 g.nextNode, .int .i64 g.nextRel], .int .i64 nj.src] rfl rfl Tryz.func102 (by kernel_rfl) (by kernel_rfl)) ?_
           refine (HHS.out _ hS1).mono ?_
           rintro e w30 ⟨rfl, hb30⟩
           have hS30 := Kaa hS1 hb30
           refine ⟨_, rfl, .inr hS30, ?_⟩
           simp only [Act.put, sA, sZ, sS]
           refine tk 31 44 (v := .bool true) rfl rfl (fun W hW => Kbs (b := false) rfl rfl) ?_
           simp only [Act.put, sA, sZ, sS]
           refine tk 32 45 (v := .bool true) rfl rfl (fun W hW => rfl) ?_
           simp only [Act.put, sA, sZ, sS]
           refine tk 33 46 (v := .bool true) rfl rfl (fun W hW => Kai rfl rfl) ?_
           simp only [Act.put, sA, sZ, sS]
           refine tn 34 47 rfl rfl ?_
           simp only [Act.put, sA, sZ, sS]
           refine tn 35 48 rfl rfl ?_
           simp only [Act.put, sA, sZ, sS]
           refine tn 36 49 rfl rfl ?_
           simp only [Act.put, sA, sZ, sS]
           refine onlyNot 37 50 rfl rfl (by kernel_rfl) rfl ?_ (.inr (by assumption))
           simp only [Act.put, sA, sZ, sS]
           refine tn 38 51 rfl rfl ?_
           simp only [Act.put, sA, sZ, sS]
           refine tk 39 52 (v := .bool true) rfl rfl (fun W hW => rfl) ?_
           simp only [Act.put, sA, sZ, sS]
           refine done (by kernel_rfl) ?_ _
           obtain ⟨hnof, hfaf, honf, hsnf, hoaf⟩ := HLW.out
           have HFIN := yh (hnof (by rw [hoaf, hok, hnxd, hsr]; rfl))
           have HBF := yh (Kaa HBN.out hS30)
           clear hnof hfaf honf hsnf hoaf hl4 hidl hnx hls hf0 hfn hfl hS0 hS hS1 hS30 hgl hf1 hf2 hsl hdl hb1 hb30 hok hnxd hsr hj0
           go_wp2
           go_ret
           exact ⟨by rw [HFIN.out]; rfl, HBF.out⟩
         | true =>
           have HHS := yh (HHS0.out _ hsr)
           refine Kb0 30 43 rfl rfl (by kernel_rfl) rfl (Kbh [.agg #[.slice pn g.nodes.length cn, .slice (some ⟨b, of, none⟩) g.rels.length cr, .int .i64 g.nextNode, .int .i64 g.nextRel], .int .i64 nj.src] rfl rfl Tryz.func102 (by kernel_rfl) (by kernel_rfl)) ?_
           refine (HHS.out _ hS1).mono ?_
           rintro e w30 ⟨rfl, hb30⟩
           have hS30 := Kaa hS1 hb30
           refine ⟨_, rfl, .inr hS30, ?_⟩
           simp only [Act.put, sA, sZ, sS]
           refine tk 31 44 (v := .bool false) rfl rfl (fun W hW => Kbs (b := true) rfl rfl) ?_
           simp only [Act.put, sA, sZ, sS]
           refine tk 32 45 (v := .bool false) rfl rfl (fun W hW => rfl) ?_
           simp only [Act.put, sA, sZ, sS]
           refine tk 33 46 (v := .bool false) rfl rfl (fun W hW => Kai rfl rfl) ?_
           simp only [Act.put, sA, sZ, sS]
           refine tk 34 47 (v := .agg #[.slice pn g.nodes.length cn, .slice (some ⟨b, of, none⟩) g.rels.length cr, .int .i64 g.nextNode, .int .i64 g.nextRel]) rfl rfl (fun W hW => Kag rfl rfl (hgl W hW)) ?_
           simp only [Act.put, sA, sZ, sS]
           refine tk 35 48 (v := .pointer (some ⟨wr.heap.size, 2, none⟩)) rfl rfl (fun W hW => Kae rfl rfl (hf2 W)) ?_
           simp only [Act.put, sA, sZ, sS]
           refine tk 36 49 (v := .int .i64 nj.dst) rfl rfl (fun W hW => Kag rfl rfl (hdl W hW)) ?_
           simp only [Act.put, sA, sZ, sS]
           cases hds : hasN g nj.dst with
           | false =>
             have HHD := yh (HHD0.out _ hds)
             refine Kb0 37 50 rfl rfl (by kernel_rfl) rfl (Kbh [.agg #[.slice pn g.nodes.length cn, .slice (some ⟨b, of, none⟩) g.rels.length cr, .int .i64 g.nextNode, .int .i64 g.nextRel], .int .i64 nj.dst] rfl rfl Tryz.func102 (by kernel_rfl) (by kernel_rfl)) ?_
             refine (HHD.out _ hS30).mono ?_
             rintro e w37 ⟨rfl, hb37⟩
             have hS37 := Kaa hS30 hb37
             refine ⟨_, rfl, .inr hS37, ?_⟩
             simp only [Act.put, sA, sZ, sS]
             refine tk 38 51 (v := .bool true) rfl rfl (fun W hW => Kbs (b := false) rfl rfl) ?_
             simp only [Act.put, sA, sZ, sS]
             refine tk 39 52 (v := .bool true) rfl rfl (fun W hW => rfl) ?_
             simp only [Act.put, sA, sZ, sS]
             refine done (by kernel_rfl) ?_ _
             obtain ⟨hnof, hfaf, honf, hsnf, hoaf⟩ := HLW.out
             have HFIN := yh (hnof (by rw [hoaf, hok, hnxd, hsr, hds]; rfl))
             have HBF := yh (Kaa HBN.out hS37)
             clear hnof hfaf honf hsnf hoaf hl4 hidl hnx hls hf0 hfn hfl hS0 hS hS1 hS30 hS37 hgl hf1 hf2 hsl hdl hb1 hb30 hb37 hok hnxd hsr hds hj0
             go_wp2
             go_ret
             exact ⟨by rw [HFIN.out]; rfl, HBF.out⟩
           | true =>
             have HHD := yh (HHD0.out _ hds)
             refine Kb0 37 50 rfl rfl (by kernel_rfl) rfl (Kbh [.agg #[.slice pn g.nodes.length cn, .slice (some ⟨b, of, none⟩) g.rels.length cr, .int .i64 g.nextNode, .int .i64 g.nextRel], .int .i64 nj.dst] rfl rfl Tryz.func102 (by kernel_rfl) (by kernel_rfl)) ?_
             refine (HHD.out _ hS30).mono ?_
             rintro e w37 ⟨rfl, hb37⟩
             have hS37 := Kaa hS30 hb37
             refine ⟨_, rfl, .inr hS37, ?_⟩
             simp only [Act.put, sA, sZ, sS]
             refine tk 38 51 (v := .bool false) rfl rfl (fun W hW => Kbs (b := true) rfl rfl) ?_
             simp only [Act.put, sA, sZ, sS]
             refine tk 39 52 (v := .bool false) rfl rfl (fun W hW => rfl) ?_
             simp only [Act.put, sA, sZ, sS]
             refine done (by kernel_rfl) ?_ _
             obtain ⟨hnof, hfaf, honf, hsnf, hoaf⟩ := HLW.out
             have HFIN := yh (honf (by simp only [decide_eq_false_iff_not] at hj0; omega) (by rw [hoaf, hok, hnxd, hsr, hds]; rfl))
             have HBX := yh (Kaa (Kaa HI.out.2 (Kac (w := wr) (.cells cs 72))) hS37)
             clear hnof hfaf honf hsnf hoaf hl4 hidl hnx hls hf0 hfn hfl hS0 hS hS1 hS30 hS37 hgl hf1 hf2 hsl hdl hb1 hb30 hb37 hok hnxd hsr hds hj0
             go_wp2
             go_roundw
             case rel => exact ⟨j + 1, hlt1, by go_num, yh ⟨HFIN.out, HBX.out⟩⟩
             case measure => simp [intOf]; omega
       | true =>
         have HGT := yh (HGT0.out _ hj0)
         obtain ⟨k, hke⟩ : ∃ k, k + 1 = j := ⟨j - 1, by simp only [decide_eq_true_eq] at hj0; omega⟩
         have hkl : k < g.rels.length := by omega
         have HK := yh (HKP.out k hke hkl)
         have hfk := HLW.out.2.1 k hke hkl
         have hsk := HLW.out.2.2.2.1 k hke hkl
         clear hke HKP
         generalize g.rels[k] = nk at *
         obtain ⟨hsb, hix, hfp, hpv, _⟩ := HK.out
         refine tk 12 25 (v := .bool true) rfl rfl (fun W hW => Kaw rfl rfl rfl (HGT.out W)) ?_
         simp only [Act.put, sA, sZ, sS]
         refine tk 13 26 (v := .bool true) rfl rfl (fun W hW => Kai rfl rfl) ?_
         simp only [Act.put, sA, sZ, sS]
         refine tk 14 27 (v := .pointer (some ⟨w.heap.size, 1, none⟩)) rfl rfl (fun W hW => Kae rfl rfl (hfl W)) ?_
         simp only [Act.put, sA, sZ, sS]
         refine tk 15 28 (v := .slice (some ⟨b, of, none⟩) g.rels.length cr) rfl rfl (fun W hW => Kag rfl rfl (hls W hW)) ?_
         simp only [Act.put, sA, sZ, sS]
         refine tk 16 29 (v := .int .i64 (j : Int)) rfl rfl (fun W hW => Kai rfl rfl) ?_
         simp only [Act.put, sA, sZ, sS]
         refine tk 17 30 (v := .int .i64 (k : Int)) rfl rfl (fun W hW => Kaw rfl rfl rfl (hsb W)) ?_
         simp only [Act.put, sA, sZ, sS]
         refine tk 18 31 (v := .pointer (some ⟨b, of + k * 5, none⟩)) rfl rfl (fun W hW => Kar rfl rfl rfl (hix W)) ?_
         simp only [Act.put, sA, sZ, sS]
         refine tk 19 32 (v := .pointer (some ⟨b, of + k * 5, none⟩)) rfl rfl (fun W hW => Kae rfl rfl (hfp W)) ?_
         simp only [Act.put, sA, sZ, sS]
         refine tk 20 33 (v := .int .i64 nk.id) rfl rfl (fun W hW => Kag rfl rfl (hpv W hW)) ?_
         simp only [Act.put, sA, sZ, sS]
         refine tk 21 34 (v := .pointer (some ⟨wr.heap.size, 0, none⟩)) rfl rfl (fun W hW => Kae rfl rfl (hf0 W)) ?_
         simp only [Act.put, sA, sZ, sS]
         refine tk 22 35 (v := .int .i64 nj.id) rfl rfl (fun W hW => Kag rfl rfl (hidl W hW)) ?_
         simp only [Act.put, sA, sZ, sS]
         cases hpd : decide (nj.id ≤ nk.id) with
         | false =>
           have HG2 := yh (HK.out.2.2.2.2 _ hpd)
           refine tk 23 36 (v := .bool false) rfl rfl (fun W hW => Kaw rfl rfl rfl (HG2.out W)) ?_
           simp only [Act.put, sA, sZ, sS]
           refine tk 24 37 (v := .bool false) rfl rfl (fun W hW => rfl) ?_
           simp only [Act.put, sA, sZ, sS]
           refine tk 25 38 (v := .bool false) rfl rfl (fun W hW => rfl) ?_
           simp only [Act.put, sA, sZ, sS]
           refine tk 26 39 (v := .bool false) rfl rfl (fun W hW => Kai rfl rfl) ?_
           simp only [Act.put, sA, sZ, sS]
           refine tk 27 40 (v := .agg #[.slice pn g.nodes.length cn, .slice (some ⟨b, of, none⟩) g.rels.length cr, .int .i64 g.nextNode, .int .i64 g.nextRel]) rfl rfl (fun W hW => Kag rfl rfl (hgl W hW)) ?_
           simp only [Act.put, sA, sZ, sS]
           refine tk 28 41 (v := .pointer (some ⟨wr.heap.size, 1, none⟩)) rfl rfl (fun W hW => Kae rfl rfl (hf1 W)) ?_
           simp only [Act.put, sA, sZ, sS]
           refine tk 29 42 (v := .int .i64 nj.src) rfl rfl (fun W hW => Kag rfl rfl (hsl W hW)) ?_
           simp only [Act.put, sA, sZ, sS]
           cases hsr : hasN g nj.src with
           | false =>
             have HHS := yh (HHS0.out _ hsr)
             refine Kb0 30 43 rfl rfl (by kernel_rfl) rfl (Kbh [.agg #[.slice pn g.nodes.length cn, .slice (some ⟨b, of, none⟩) g.rels.length cr, .int .i64 g.nextNode, .int .i64 g.nextRel], .int .i64 nj.src] rfl rfl Tryz.func102 (by kernel_rfl) (by kernel_rfl)) ?_
             refine (HHS.out _ hS1).mono ?_
             rintro e w30 ⟨rfl, hb30⟩
             have hS30 := Kaa hS1 hb30
             refine ⟨_, rfl, .inr hS30, ?_⟩
             simp only [Act.put, sA, sZ, sS]
             refine tk 31 44 (v := .bool true) rfl rfl (fun W hW => Kbs (b := false) rfl rfl) ?_
             simp only [Act.put, sA, sZ, sS]
             refine tk 32 45 (v := .bool true) rfl rfl (fun W hW => rfl) ?_
             simp only [Act.put, sA, sZ, sS]
             refine tk 33 46 (v := .bool true) rfl rfl (fun W hW => Kai rfl rfl) ?_
             simp only [Act.put, sA, sZ, sS]
             refine tn 34 47 rfl rfl ?_
             simp only [Act.put, sA, sZ, sS]
             refine tn 35 48 rfl rfl ?_
             simp only [Act.put, sA, sZ, sS]
             refine tn 36 49 rfl rfl ?_
             simp only [Act.put, sA, sZ, sS]
             refine onlyNot 37 50 rfl rfl (by kernel_rfl) rfl ?_ (.inr (by assumption))
             simp only [Act.put, sA, sZ, sS]
             refine tn 38 51 rfl rfl ?_
             simp only [Act.put, sA, sZ, sS]
             refine tk 39 52 (v := .bool true) rfl rfl (fun W hW => rfl) ?_
             simp only [Act.put, sA, sZ, sS]
             refine done (by kernel_rfl) ?_ _
             obtain ⟨hnof, hfaf, honf, hsnf, hoaf⟩ := HLW.out
             have HFIN := yh (hnof (by rw [hoaf, hok, hnxd, hsr]; rfl))
             have HBF := yh (Kaa HBN.out hS30)
             clear hnof hfaf honf hsnf hoaf hl4 hidl hnx hls hf0 hfn hfl hS0 hS hS1 hS30 hgl hf1 hf2 hsl hdl hsb hix hfp hpv hfk hsk hb1 hb30 hok hnxd hsr hj0 hpd
             go_wp2
             go_ret
             exact ⟨by rw [HFIN.out]; rfl, HBF.out⟩
           | true =>
             have HHS := yh (HHS0.out _ hsr)
             refine Kb0 30 43 rfl rfl (by kernel_rfl) rfl (Kbh [.agg #[.slice pn g.nodes.length cn, .slice (some ⟨b, of, none⟩) g.rels.length cr, .int .i64 g.nextNode, .int .i64 g.nextRel], .int .i64 nj.src] rfl rfl Tryz.func102 (by kernel_rfl) (by kernel_rfl)) ?_
             refine (HHS.out _ hS1).mono ?_
             rintro e w30 ⟨rfl, hb30⟩
             have hS30 := Kaa hS1 hb30
             refine ⟨_, rfl, .inr hS30, ?_⟩
             simp only [Act.put, sA, sZ, sS]
             refine tk 31 44 (v := .bool false) rfl rfl (fun W hW => Kbs (b := true) rfl rfl) ?_
             simp only [Act.put, sA, sZ, sS]
             refine tk 32 45 (v := .bool false) rfl rfl (fun W hW => rfl) ?_
             simp only [Act.put, sA, sZ, sS]
             refine tk 33 46 (v := .bool false) rfl rfl (fun W hW => Kai rfl rfl) ?_
             simp only [Act.put, sA, sZ, sS]
             refine tk 34 47 (v := .agg #[.slice pn g.nodes.length cn, .slice (some ⟨b, of, none⟩) g.rels.length cr, .int .i64 g.nextNode, .int .i64 g.nextRel]) rfl rfl (fun W hW => Kag rfl rfl (hgl W hW)) ?_
             simp only [Act.put, sA, sZ, sS]
             refine tk 35 48 (v := .pointer (some ⟨wr.heap.size, 2, none⟩)) rfl rfl (fun W hW => Kae rfl rfl (hf2 W)) ?_
             simp only [Act.put, sA, sZ, sS]
             refine tk 36 49 (v := .int .i64 nj.dst) rfl rfl (fun W hW => Kag rfl rfl (hdl W hW)) ?_
             simp only [Act.put, sA, sZ, sS]
             cases hds : hasN g nj.dst with
             | false =>
               have HHD := yh (HHD0.out _ hds)
               refine Kb0 37 50 rfl rfl (by kernel_rfl) rfl (Kbh [.agg #[.slice pn g.nodes.length cn, .slice (some ⟨b, of, none⟩) g.rels.length cr, .int .i64 g.nextNode, .int .i64 g.nextRel], .int .i64 nj.dst] rfl rfl Tryz.func102 (by kernel_rfl) (by kernel_rfl)) ?_
               refine (HHD.out _ hS30).mono ?_
               rintro e w37 ⟨rfl, hb37⟩
               have hS37 := Kaa hS30 hb37
               refine ⟨_, rfl, .inr hS37, ?_⟩
               simp only [Act.put, sA, sZ, sS]
               refine tk 38 51 (v := .bool true) rfl rfl (fun W hW => Kbs (b := false) rfl rfl) ?_
               simp only [Act.put, sA, sZ, sS]
               refine tk 39 52 (v := .bool true) rfl rfl (fun W hW => rfl) ?_
               simp only [Act.put, sA, sZ, sS]
               refine done (by kernel_rfl) ?_ _
               obtain ⟨hnof, hfaf, honf, hsnf, hoaf⟩ := HLW.out
               have HFIN := yh (hnof (by rw [hoaf, hok, hnxd, hsr, hds]; rfl))
               have HBF := yh (Kaa HBN.out hS37)
               clear hnof hfaf honf hsnf hoaf hl4 hidl hnx hls hf0 hfn hfl hS0 hS hS1 hS30 hS37 hgl hf1 hf2 hsl hdl hsb hix hfp hpv hfk hsk hb1 hb30 hb37 hok hnxd hsr hds hj0 hpd
               go_wp2
               go_ret
               exact ⟨by rw [HFIN.out]; rfl, HBF.out⟩
             | true =>
               have HHD := yh (HHD0.out _ hds)
               refine Kb0 37 50 rfl rfl (by kernel_rfl) rfl (Kbh [.agg #[.slice pn g.nodes.length cn, .slice (some ⟨b, of, none⟩) g.rels.length cr, .int .i64 g.nextNode, .int .i64 g.nextRel], .int .i64 nj.dst] rfl rfl Tryz.func102 (by kernel_rfl) (by kernel_rfl)) ?_
               refine (HHD.out _ hS30).mono ?_
               rintro e w37 ⟨rfl, hb37⟩
               have hS37 := Kaa hS30 hb37
               refine ⟨_, rfl, .inr hS37, ?_⟩
               simp only [Act.put, sA, sZ, sS]
               refine tk 38 51 (v := .bool false) rfl rfl (fun W hW => Kbs (b := true) rfl rfl) ?_
               simp only [Act.put, sA, sZ, sS]
               refine tk 39 52 (v := .bool false) rfl rfl (fun W hW => rfl) ?_
               simp only [Act.put, sA, sZ, sS]
               refine done (by kernel_rfl) ?_ _
               obtain ⟨hnof, hfaf, honf, hsnf, hoaf⟩ := HLW.out
               have HFIN := yh (hsk (by rw [hoaf, hok, hnxd, hsr, hds]; rfl) (by simpa using hpd))
               have HBX := yh (Kaa (Kaa HI.out.2 (Kac (w := wr) (.cells cs 72))) hS37)
               clear hnof hfaf honf hsnf hoaf hl4 hidl hnx hls hf0 hfn hfl hS0 hS hS1 hS30 hS37 hgl hf1 hf2 hsl hdl hsb hix hfp hpv hfk hsk hb1 hb30 hb37 hok hnxd hsr hds hj0 hpd
               go_wp2
               go_roundw
               case rel => exact ⟨j + 1, hlt1, by go_num, yh ⟨HFIN.out, HBX.out⟩⟩
               case measure => simp [intOf]; omega
         | true =>
           have HG2 := yh (HK.out.2.2.2.2 _ hpd)
           refine tk 23 36 (v := .bool true) rfl rfl (fun W hW => Kaw rfl rfl rfl (HG2.out W)) ?_
           simp only [Act.put, sA, sZ, sS]
           refine tk 24 37 (v := .bool true) rfl rfl (fun W hW => rfl) ?_
           simp only [Act.put, sA, sZ, sS]
           refine tk 25 38 (v := .bool true) rfl rfl (fun W hW => rfl) ?_
           simp only [Act.put, sA, sZ, sS]
           refine tk 26 39 (v := .bool true) rfl rfl (fun W hW => Kai rfl rfl) ?_
           simp only [Act.put, sA, sZ, sS]
           refine tn 27 40 rfl rfl ?_
           simp only [Act.put, sA, sZ, sS]
           refine tn 28 41 rfl rfl ?_
           simp only [Act.put, sA, sZ, sS]
           refine tn 29 42 rfl rfl ?_
           simp only [Act.put, sA, sZ, sS]
           refine onlyNot 30 43 rfl rfl (by kernel_rfl) rfl ?_ (.inr (by assumption))
           simp only [Act.put, sA, sZ, sS]
           refine tn 31 44 rfl rfl ?_
           simp only [Act.put, sA, sZ, sS]
           refine tk 32 45 (v := .bool true) rfl rfl (fun W hW => rfl) ?_
           simp only [Act.put, sA, sZ, sS]
           refine tk 33 46 (v := .bool true) rfl rfl (fun W hW => Kai rfl rfl) ?_
           simp only [Act.put, sA, sZ, sS]
           refine tn 34 47 rfl rfl ?_
           simp only [Act.put, sA, sZ, sS]
           refine tn 35 48 rfl rfl ?_
           simp only [Act.put, sA, sZ, sS]
           refine tn 36 49 rfl rfl ?_
           simp only [Act.put, sA, sZ, sS]
           refine onlyNot 37 50 rfl rfl (by kernel_rfl) rfl ?_ (.inr (by assumption))
           simp only [Act.put, sA, sZ, sS]
           refine tn 38 51 rfl rfl ?_
           simp only [Act.put, sA, sZ, sS]
           refine tk 39 52 (v := .bool true) rfl rfl (fun W hW => rfl) ?_
           simp only [Act.put, sA, sZ, sS]
           refine done (by kernel_rfl) ?_ _
           obtain ⟨hnof, hfaf, honf, hsnf, hoaf⟩ := HLW.out
           have HFIN := yh (hfk (by simpa using hpd))
           have HBF := yh (Kaa HBN.out hS1)
           clear hnof hfaf honf hsnf hoaf hl4 hidl hnx hls hf0 hfn hfl hS0 hS hS1 hgl hf1 hf2 hsl hdl hsb hix hfp hpv hfk hsk hb1 hok hnxd hj0 hpd
           go_wp2
           go_ret
           exact ⟨by rw [HFIN.out]; rfl, HBF.out⟩
     | true =>
       have HGE := yh (HGE0.out _ hnxd)
       refine tk 8 21 (v := .bool true) rfl rfl (fun W hW => Kaw rfl rfl rfl (HGE.out W)) ?_
       simp only [Act.put, sA, sZ, sS]
       refine tk 9 22 (v := .bool true) rfl rfl (fun W hW => rfl) ?_
       simp only [Act.put, sA, sZ, sS]
       refine tk 10 23 (v := .bool true) rfl rfl (fun W hW => Kai rfl rfl) ?_
       simp only [Act.put, sA, sZ, sS]
       refine tn 11 24 rfl rfl ?_
       simp only [Act.put, sA, sZ, sS]
       refine tn 12 25 rfl rfl ?_
       simp only [Act.put, sA, sZ, sS]
       refine tn 13 26 rfl rfl ?_
       simp only [Act.put, sA, sZ, sS]
       refine tn 14 27 rfl rfl ?_
       simp only [Act.put, sA, sZ, sS]
       refine tn 15 28 rfl rfl ?_
       simp only [Act.put, sA, sZ, sS]
       refine tn 16 29 rfl rfl ?_
       simp only [Act.put, sA, sZ, sS]
       refine tn 17 30 rfl rfl ?_
       simp only [Act.put, sA, sZ, sS]
       refine tn 18 31 rfl rfl ?_
       simp only [Act.put, sA, sZ, sS]
       refine tn 19 32 rfl rfl ?_
       simp only [Act.put, sA, sZ, sS]
       refine tn 20 33 rfl rfl ?_
       simp only [Act.put, sA, sZ, sS]
       refine tn 21 34 rfl rfl ?_
       simp only [Act.put, sA, sZ, sS]
       refine tn 22 35 rfl rfl ?_
       simp only [Act.put, sA, sZ, sS]
       refine tn 23 36 rfl rfl ?_
       simp only [Act.put, sA, sZ, sS]
       refine tn 24 37 rfl rfl ?_
       simp only [Act.put, sA, sZ, sS]
       refine tk 25 38 (v := .bool true) rfl rfl (fun W hW => rfl) ?_
       simp only [Act.put, sA, sZ, sS]
       refine tk 26 39 (v := .bool true) rfl rfl (fun W hW => Kai rfl rfl) ?_
       simp only [Act.put, sA, sZ, sS]
       refine tn 27 40 rfl rfl ?_
       simp only [Act.put, sA, sZ, sS]
       refine tn 28 41 rfl rfl ?_
       simp only [Act.put, sA, sZ, sS]
       refine tn 29 42 rfl rfl ?_
       simp only [Act.put, sA, sZ, sS]
       refine onlyNot 30 43 rfl rfl (by kernel_rfl) rfl ?_ (.inr (by assumption))
       simp only [Act.put, sA, sZ, sS]
       refine tn 31 44 rfl rfl ?_
       simp only [Act.put, sA, sZ, sS]
       refine tk 32 45 (v := .bool true) rfl rfl (fun W hW => rfl) ?_
       simp only [Act.put, sA, sZ, sS]
       refine tk 33 46 (v := .bool true) rfl rfl (fun W hW => Kai rfl rfl) ?_
       simp only [Act.put, sA, sZ, sS]
       refine tn 34 47 rfl rfl ?_
       simp only [Act.put, sA, sZ, sS]
       refine tn 35 48 rfl rfl ?_
       simp only [Act.put, sA, sZ, sS]
       refine tn 36 49 rfl rfl ?_
       simp only [Act.put, sA, sZ, sS]
       refine onlyNot 37 50 rfl rfl (by kernel_rfl) rfl ?_ (.inr (by assumption))
       simp only [Act.put, sA, sZ, sS]
       refine tn 38 51 rfl rfl ?_
       simp only [Act.put, sA, sZ, sS]
       refine tk 39 52 (v := .bool true) rfl rfl (fun W hW => rfl) ?_
       simp only [Act.put, sA, sZ, sS]
       refine done (by kernel_rfl) ?_ _
       obtain ⟨hnof, hfaf, honf, hsnf, hoaf⟩ := HLW.out
       have HFIN := yh (hnof (by rw [hoaf, hok, hnxd]; rfl))
       have HBF := yh (Kaa HBN.out hS1)
       clear hnof hfaf honf hsnf hoaf hl4 hidl hnx hls hf0 hfn hfl hS0 hS hS1 hgl hf1 hf2 hsl hdl hb1 hok hnxd
       go_wp2
       go_ret
       exact ⟨by rw [HFIN.out]; rfl, HBF.out⟩
  ·obtain rfl : j = g.rels.length := by omega
   have HF := yh (And.intro HI.out.1.last (Kaa HB0.out HI.out.2))
   clear HI
   go_wp2
   go_ret
   exact ⟨by rw [HF.out.1]; rfl, HF.out.2⟩
theorem gsizes_any {w : World} {g : GraphD} {x : Array Value} (h : GrRd w g x) : Calls Tryz.prog 43 #[.agg x] w fun e w' => e = .returned (.bool (okSz g)) ∧ Below w.heap.size w w' := by
 obtain ⟨pn, cn, pr, cr, rfl, hn, hrl⟩ := h
 have z1 : (g.nodes.length : Int) ≤ 140737488355328 := by have := hn.1.2.1; omega
 have z2 : (g.rels.length : Int) ≤ 140737488355328 := by have := hrl.1.2.1; omega
 have hadd := fun W => add_int (i := g.nodes.length) (j := g.rels.length) (by omega) W
 have hle : ∀ W' : World, (binOp .leq 3 (.int .i64 ((g.nodes.length + g.rels.length : Nat) : Int)) (.int .i64 65536)).run Tryz.prog W' = .ok (.bool (decide (g.nodes.length + g.rels.length ≤ 65536))) W' := by
  intro W'
  have e : decide (g.nodes.length + g.rels.length ≤ 65536) = decide (((g.nodes.length + g.rels.length : Nat) : Int) ≤ 65536) := by
   rw [Bool.eq_iff_iff]; simp only [decide_eq_true_eq]; omega
  rw [e]; simp [go_sem]
 have hok : okSz g = (decide (g.nodes.length + g.rels.length ≤ 65536) && decide (0 ≤ g.nextNode) && decide (g.nextNode ≤ 4611686018427387904) && decide (0 ≤ g.nextRel) && decide (g.nextRel ≤ 4611686018427387904)) := rfl
 have HB := yh (Kac (w := w) (.cells #[.slice pn g.nodes.length cn, .slice pr g.rels.length cr, .int .i64 g.nextNode, .int .i64 g.nextRel] 25))
 have HA := yh hadd
 rw [hok]
 clear hn hrl hadd hok z1 z2
 cases h1 : decide (g.nodes.length + g.rels.length ≤ 65536) <;> cases h2 : decide (0 ≤ g.nextNode) <;> cases h3 : decide (g.nextNode ≤ 4611686018427387904) <;> cases h4 : decide (0 ≤ g.nextRel) <;> cases h5 : decide (g.nextRel ≤ 4611686018427387904)
 all_goals
  rw [h1] at hle
  have HL := yh hle
  clear hle h1
  go_enter Tryz.func43, Tryz.ntmps43
  go_wp2_with (first
   | ((with_reducible apply op_binu); exact HA.out _; exact rfl; exact rfl)
   | ((with_reducible apply op_binu); exact HL.out _; exact rfl; exact rfl))
  go_ret
  exact ⟨by simp, HB.out⟩
def errG (b : Bool) : Int := if b then 0 else 2
theorem Kd2 {w : World} (hE : Env w) {g : GraphD} {x : Array Value} (h : GrRd w g x) (ht : totG g ≤ 1000000) : Calls Tryz.prog 13 #[.agg x] w fun e w' => e = .returned (.int .i64 (errG (okG g))) ∧ Below w.heap.size w w' := by
 have hx := h
 obtain ⟨pn, cn, pr, cr, rfl, hn, hrl⟩ := h
 have hb := Kac (w := w) (.cells #[.slice pn g.nodes.length cn, .slice pr g.rels.length cr, .int .i64 g.nextNode, .int .i64 g.nextRel] 25)
 have hb2 : Below w.heap.size w ((w.alloc (.cells #[.slice pn g.nodes.length cn, .slice pr g.rels.length cr, .int .i64 g.nextNode, .int .i64 g.nextRel] 25)).alloc (.cells #[.func (.func 43) #[] #[], .func (.func 44) #[] #[], .func (.func 45) #[] #[]] 27)) := hb.alloc (by simp) _
 have hg : ((w.alloc (.cells #[.slice pn g.nodes.length cn, .slice pr g.rels.length cr, .int .i64 g.nextNode, .int .i64 g.nextRel] 25)).alloc (.cells #[.func (.func 43) #[] #[], .func (.func 44) #[] #[], .func (.func 45) #[] #[]] 27)).heap[w.heap.size]? = some (.cells #[.slice pn g.nodes.length cn, .slice pr g.rels.length cr, .int .i64 g.nextNode, .int .i64 g.nextRel] 25 (0, 0)) := by
  simp only [Kaf, World.size_alloc]; rw [if_neg (by omega), if_pos trivial]
 have hf : ((w.alloc (.cells #[.slice pn g.nodes.length cn, .slice pr g.rels.length cr, .int .i64 g.nextNode, .int .i64 g.nextRel] 25)).alloc (.cells #[.func (.func 43) #[] #[], .func (.func 44) #[] #[], .func (.func 45) #[] #[]] 27)).heap[w.heap.size + 1]? = some (.cells #[.func (.func 43) #[] #[], .func (.func 44) #[] #[], .func (.func 45) #[] #[]] 27 (0, 0)) := by
  simp only [Kaf, World.size_alloc]; rw [if_pos trivial]
 have hsz : ((w.alloc (.cells #[.slice pn g.nodes.length cn, .slice pr g.rels.length cr, .int .i64 g.nextNode, .int .i64 g.nextRel] 25)).alloc (.cells #[.func (.func 43) #[] #[], .func (.func 44) #[] #[], .func (.func 45) #[] #[]] 27)).heap.size = w.heap.size + 2 := by simp
 have HH := yh (And.intro hE (And.intro hx (And.intro hb2 (And.intro hg (And.intro hf hsz)))))
 have HT := yh ht
 have HOK := yh (show okG g = (okSz g && okNs g && okRs g) from rfl)
 clear hE hx hn hrl hb hb2 hg hf hsz ht
 go_enter Tryz.func13, Tryz.ntmps13
 go_wp2
 generalize ((w.alloc (.cells #[.slice pn g.nodes.length cn, .slice pr g.rels.length cr, .int .i64 g.nextNode, .int .i64 g.nextRel] 25)).alloc (.cells #[.func (.func 43) #[] #[], .func (.func 44) #[] #[], .func (.func 45) #[] #[]] 27)) = w1 at *
 go_loopw [7] (fun i W => ∃ j : Nat, j ≤ 3 ∧ i = .int .i64 (j : Int) ∧ Hid ((1 ≤ j → okSz g = true) ∧ (2 ≤ j → okNs g = true) ∧ (3 ≤ j → okRs g = true) ∧ Below w1.heap.size w1 W)) (fun i _ => 3 - (intOf i).toNat)
 case atStart => exact ⟨0, by omega, rfl, yh ⟨by omega, by omega, by omega, Below.refl _ _⟩⟩
 case round =>
  obtain ⟨j, hj, rfl, HI⟩ := hrel
  obtain ⟨hE, hx, hb2, hg, hf, hsz⟩ := HH.out
  obtain ⟨k1, k2, k3, hB⟩ := HI.out
  have hE3 := (hE.b hb2).b hB
  have hx3 := (hx.below hb2).below hB
  have hgl := Kbt.get (P := Tryz.prog) (W := wr) rfl (Kak hB (by omega) hg)
  have hfc := Kak hB (by omega) hf
  have HG := yh hgl
  have HBX := yh hB
  have HBW := yh (Kaa hb2 hB)
  obtain h0 | h1 | h2 | h3 : j = 0 ∨ j = 1 ∨ j = 2 ∨ j = 3 := by omega
  ·subst h0
   have hfn := Kab (o := 0) hfc rfl
   have HC := yh (gsizes_any hx3)
   have HK := yh (And.intro k1 (And.intro k2 k3))
   cases hok : okSz g with
   | false =>
     rw [hok] at HC
     have HFIN := yh (show okG g = false by rw [HOK.out, hok]; simp)
     clear hok hE hx hb2 hg hf hsz k1 k2 k3 hB hE3 hx3 hgl hfc HH HI HT HOK
     go_wp2_with (first
      | ((with_reducible apply Kal); exact HG.out; exact rfl)
      | (go_at_call 43; refine HC.out.mono ?_; rintro e W2 ⟨rfl, hb⟩; have HB2 := yh (Kaa HBW.out hb); clear hb))
     go_ret
     exact ⟨by rw [HFIN.out]; rfl, HB2.out⟩
   | true =>
     rw [hok] at HC
     have HOKT := yh hok
     clear hok hE hx hb2 hg hf hsz k1 k2 k3 hB hE3 hx3 hgl hfc HH HI HT HOK
     go_wp2_with (first
      | ((with_reducible apply Kal); exact HG.out; exact rfl)
      | (go_at_call 43; refine HC.out.mono ?_; rintro e W2 ⟨rfl, hb⟩; have HB2 := yh (Kaa HBX.out hb); clear hb))
     go_roundw
     case rel => exact ⟨1, by omega, by go_num, yh ⟨fun _ => (by first | exact HOKT.out | trivial), by omega, by omega, HB2.out⟩⟩
     case measure => simp [intOf]
  ·subst h1
   have hfn := Kab (o := 1) hfc rfl
   have HC := yh (gnodes_any hE3 hx3 HT.out)
   have HK := yh (And.intro k1 (And.intro k2 k3))
   cases hok : okNs g with
   | false =>
     rw [hok] at HC
     have HFIN := yh (show okG g = false by rw [HOK.out, hok]; simp)
     clear hok hE hx hb2 hg hf hsz k1 k2 k3 hB hE3 hx3 hgl hfc HH HI HT HOK
     go_wp2_with (first
      | ((with_reducible apply Kal); exact HG.out; exact rfl)
      | (go_at_call 44; refine HC.out.mono ?_; rintro e W2 ⟨rfl, hb⟩; have HB2 := yh (Kaa HBW.out hb); clear hb))
     go_ret
     exact ⟨by rw [HFIN.out]; rfl, HB2.out⟩
   | true =>
     rw [hok] at HC
     have HOKT := yh hok
     clear hok hE hx hb2 hg hf hsz k1 k2 k3 hB hE3 hx3 hgl hfc HH HI HT HOK
     go_wp2_with (first
      | ((with_reducible apply Kal); exact HG.out; exact rfl)
      | (go_at_call 44; refine HC.out.mono ?_; rintro e W2 ⟨rfl, hb⟩; have HB2 := yh (Kaa HBX.out hb); clear hb))
     go_roundw
     case rel => exact ⟨2, by omega, by go_num, yh ⟨fun _ => HK.out.1 (by omega), fun _ => (by first | exact HOKT.out | trivial), by omega, HB2.out⟩⟩
     case measure => simp [intOf]
  ·subst h2
   have hfn := Kab (o := 2) hfc rfl
   have HC := yh (grels_any hE3 hx3 (by have h := k2 (by omega); rw [okNs_eq, Bool.and_eq_true] at h; exact h.2) HT.out)
   have HK := yh (And.intro k1 (And.intro k2 k3))
   cases hok : okRs g with
   | false =>
     rw [hok] at HC
     have HFIN := yh (show okG g = false by rw [HOK.out, hok]; simp)
     clear hok hE hx hb2 hg hf hsz k1 k2 k3 hB hE3 hx3 hgl hfc HH HI HT HOK
     go_wp2_with (first
      | ((with_reducible apply Kal); exact HG.out; exact rfl)
      | (go_at_call 45; refine HC.out.mono ?_; rintro e W2 ⟨rfl, hb⟩; have HB2 := yh (Kaa HBW.out hb); clear hb))
     go_ret
     exact ⟨by rw [HFIN.out]; rfl, HB2.out⟩
   | true =>
     rw [hok] at HC
     have HOKT := yh hok
     clear hok hE hx hb2 hg hf hsz k1 k2 k3 hB hE3 hx3 hgl hfc HH HI HT HOK
     go_wp2_with (first
      | ((with_reducible apply Kal); exact HG.out; exact rfl)
      | (go_at_call 45; refine HC.out.mono ?_; rintro e W2 ⟨rfl, hb⟩; have HB2 := yh (Kaa HBX.out hb); clear hb))
     go_roundw
     case rel => exact ⟨3, by omega, by go_num, yh ⟨fun _ => HK.out.1 (by omega), fun _ => HK.out.2.1 (by omega), fun _ => (by first | exact HOKT.out | trivial), HB2.out⟩⟩
     case measure => simp [intOf]
  ·subst h3
   have HFIN := yh (And.intro (show okG g = true by rw [HOK.out, k1 (by omega), k2 (by omega), k3 (by omega)]; rfl) (Kaa hb2 hB))
   clear hE hx hb2 hg hf hsz k1 k2 k3 hB hE3 hx3 hgl hfc HH HI HT HOK
   go_wp2
   go_ret
   exact ⟨by rw [HFIN.out.1]; rfl, HFIN.out.2⟩
def Out (w : World) (b : List UInt8) (err : Int) (e : Ending) (W' : World) : Prop :=
 ∃ o, e = .returned (.tuple #[o, .int .i64 err]) ∧ OwnsP W' (fun x => w.heap.size ≤ x) 5 1 o b.length (b.map byteV) ∧ Below w.heap.size w W'
theorem own_none (W : World) (P : Nat → Prop) : OwnsP W P 5 1 (.slice none 0 0) ([] : List UInt8).length (([] : List UInt8).map byteV) :=
 ⟨⟨by simp, .inl ⟨rfl, rfl⟩⟩, fun g hg => by simp [Value.ownBlock] at hg⟩
theorem writer_new (W : World) : WS 83 W (W.alloc (.cells #[.slice none 0 0] 83)) W.heap.size [] (.slice none 0 0) :=
 WS.start (Kac _) (heap_alloc_new W _) (Nat.le_refl _)
def outG (g : GraphD) : List UInt8 := if okG g then Kdp g else []
theorem codecGraph_any {w : World} (hE : Env w) {g : GraphD} {x : Array Value} (hx : GrRd w g x) (hr : rngG g) (ht : totG g ≤ 1000000) : Calls Tryz.prog 11 #[.agg x] w (Out w (outG g) (errG (okG g))) := by
 have hwf : okG g = true → wfG g := fun h => wf_of_okG h hr (by omega)
 have hlen : (Kdp g).length ≤ 64000040 := by have := graphC_len hr (by omega); omega
 have hx0 := hx
 obtain ⟨pn, cn, pr, cr, rfl, hn, hrl⟩ := hx
 have hb := Kac (w := w) (.cells #[.slice pn g.nodes.length cn, .slice pr g.rels.length cr, .int .i64 g.nextNode, .int .i64 g.nextRel] 25)
 have hg := heap_alloc_new w (.cells #[.slice pn g.nodes.length cn, .slice pr g.rels.length cr, .int .i64 g.nextNode, .int .i64 g.nextRel] 25)
 have hl1 := Kbt.get (P := Tryz.prog) (W := w.alloc (.cells #[.slice pn g.nodes.length cn, .slice pr g.rels.length cr, .int .i64 g.nextNode, .int .i64 g.nextRel] 25)) rfl hg
 have hc := Kd2 (hE.b hb) (hx0.below hb) ht
 have hu1 : IntKind.u64.wrap g.nextNode = (toU g.nextNode : Int) := Kcy hr.2.2.1
 have hu2 : IntKind.u64.wrap g.nextRel = (toU g.nextRel : Int) := Kcy hr.2.2.2
 have HU := yh (And.intro (conv_u64 hr.2.2.1) (conv_u64 hr.2.2.2))
 have HUT := yh (And.intro (Kbu hr.2.2.1).1 (Kbu hr.2.2.2).1)
 have HL1 := yh hl1
 have HC := yh hc
 have HX := yh (And.intro hn (And.intro hrl (And.intro hb hg)))
 have HW := yh (And.intro hwf hlen)
 clear hE hx0 hb hg hl1 hc hwf hlen hr ht hn hrl hu1 hu2
 have HO := yh (show outG g = if okG g then Kdp g else [] from rfl)
 generalize outG g = out at *
 by_cases hok : okG g = true
 ·rw [hok] at HC
  have HOK := yh hok
  clear hok
  go_enter Tryz.func11, Tryz.ntmps11
  go_wp2_with (first
   | ((with_reducible apply Kal); exact HL1.out; exact rfl)
   | ((with_reducible apply Kby); exact HU.out.1 _; exact rfl)
   | ((with_reducible apply Kby); exact HU.out.2 _; exact rfl)
   | (go_at_call 13; refine HC.out.mono ?_; rintro e w2 ⟨rfl, hb2⟩;
      (
       obtain ⟨hn, hrl, hb, hg⟩ := HX.out
       have hwf := HW.out.1 HOK.out
       have hlen := HW.out.2
       have hbw := Kaa hb hb2
       have hn2 := hn.below (fun h => h.below hbw) hbw
       have hrl2 := hrl.below (fun h => h.below hbw) hbw
       have hnw := writer_new w2
       have hb3 := Kac (w := w2) (.cells #[.slice none 0 0] 83)
       have hg1 := Kak hb2 (by simp) hg
       have hg2 := Kak hb3 (by have := hb2.size; simp at this; omega) hg1
       have hlt2 : w.heap.size < w2.heap.size := by have := hb2.size; simp at this; omega
       have hN := wvalue_any w2
       have hcl : (Kdp g).length = (rowsC nodeC g.nodes).length + (rowsC relC g.rels).length + (numB (toU g.nextNode)).length + (numB (toU g.nextRel)).length := by unfold Kdp; simp only [List.length_append]; try omega
       have HK := yh (And.intro hg1 (And.intro hlt2 (And.intro hrl2 (And.intro hwf (And.intro hcl hlen)))))
       have HV := yh (rowN_tells ef_node nodeC hn2 hnw (by simp only [List.length_nil]; omega) (fun y hy m o W cs h1 h2 h3 => wnode_any hN (hwf.1.2 y hy) h2 h1 h3))
       have hcn := Kab (o := 0) hg2 rfl
       have HB2 := yh hbw
       clear hn hrl hb hg hn2 hrl2 hnw hb3 hg1 hg2 hbw hb2 HL1 HC hlt2 hwf hlen hcl hN))
   | (go_at_call 38; refine HV.out.mono ?_; rintro e w4 ⟨rfl, o, h4, t4⟩;
      (
       obtain ⟨hg1, hlt2, hrl2, hwf, hcl, hlen⟩ := HK.out
       have hcr := Kab (o := 1) (Kak h4.b hlt2 hg1) rfl
       have hN := wvalue_any w2
       have HV2 := yh (rowR_tells ef_rel relC hrl2 h4 (by simp only [List.nil_append]; omega) (fun y hy m o W cs h1 h2 h3 => wrel_any hN (hwf.2.1.2 y hy) h2 h1 h3))
       clear h4 t4 HV hg1 hlt2 hrl2 hwf hcl hlen hN hcn))
   | (go_at_call 40; refine HV2.out.mono ?_; rintro e w5 ⟨rfl, o5, h5, t5⟩;
      (
       obtain ⟨hg1, hlt2, hrl2, hwf, hcl, hlen⟩ := HK.out
       have hc2 := Kab (o := 2) (Kak h5.b hlt2 hg1) rfl
       have HV3 := yh (Ka0 (n := toU g.nextNode) HUT.out.1 h5 (by simp only [List.length_append, List.length_nil]; omega))
       clear h5 t5 HV2 hg1 hlt2 hrl2 hwf hcl hlen hcr))
   | (go_at_call 42; refine HV3.out.mono ?_; rintro e w6 ⟨rfl, o6, h6, t6⟩;
      (
       obtain ⟨hg1, hlt2, hrl2, hwf, hcl, hlen⟩ := HK.out
       have hc3 := Kab (o := 3) (Kak h6.b hlt2 hg1) rfl
       have HV4 := yh (Ka0 (n := toU g.nextRel) HUT.out.2 h6 (by simp only [List.length_append, List.length_nil]; omega))
       clear h6 t6 HV3 hg1 hlt2 hrl2 hwf hcl hlen hc2))
   | (go_at_call 42; refine HV4.out.mono ?_; rintro e w7 ⟨rfl, o7, h7, t7⟩;
      (
       have hcell := Kab (o := 0) h7.box rfl
       have HF := yh h7
       clear h7 t7 HV4 hc3)))
  go_ret2
  have h4 := HF.out
  have hout : out = Kdp g := by rw [HO.out, HOK.out]; rfl
  rw [hout, HOK.out]
  have := HB2.out.size
  refine ⟨o7, rfl, ?_, Kaa HB2.out h4.b⟩
  have hown := h4.own
  have e1 : ([] : List UInt8) ++ rowsC nodeC g.nodes ++ rowsC relC g.rels ++ numB (toU g.nextNode) ++ numB (toU g.nextRel) = Kdp g := by unfold Kdp; simp [List.append_assoc]
  rw [e1] at hown
  exact hown.imp fun b _ hb => by have := hb.1; omega
 ·have hok : okG g = false := by simpa using hok
  rw [hok] at HC
  have HOK := yh hok
  have HFB := yh HX.out.2.2.1
  clear hok HX HW
  go_enter Tryz.func11, Tryz.ntmps11
  go_wp2_with (first
   | ((with_reducible apply Kal); exact HL1.out; exact rfl)
   | (go_at_call 13; refine HC.out.mono ?_; rintro e w2 ⟨rfl, hb2⟩; have HB2 := yh (Kaa HFB.out hb2); clear hb2))
  go_ret2
  have hout : out = [] := by rw [HO.out, HOK.out]; rfl
  rw [hout, HOK.out]
  exact ⟨_, rfl, own_none _ _, HB2.out⟩
end Go.Proofs.YthdfedfholmbmaaGreatDoor
namespace Go.Proofs
open Go.Shelf
def Tryz.compactI_ren : Go.Shelf.Ren := ⟨fun | 43 => 154 | n => n, fun | 22 => 176 | 23 => 2 | 3 => 3 | 4 => 4 | 0 => 0 | n => n, fun | n => n⟩
theorem Tryz.compactI : Go.Proofs.SlLaysE.n43 Tryz.prog Tryz.compactI_ren := {
 mixed := by kernel_rfl
 f43 := ⟨Tryz.f154.name, by decide, Tryz.func154.trans (congrArg some (by kernel_rfl))⟩
 t0 := Tryz.underlying0
 a0 := Tryz.isAgg0
 z0 := Tryz.sizeOf0
 v0 := Tryz.zeroValue0
 t3 := Tryz.underlying3
 a3 := Tryz.isAgg3
 z3 := Tryz.sizeOf3
 v3 := Tryz.zeroValue3
 t4 := Tryz.underlying4
 a4 := Tryz.isAgg4
 z4 := Tryz.sizeOf4
 v4 := Tryz.zeroValue4
 t22 := Tryz.underlying176
 a22 := Tryz.isAgg176
 z22 := Tryz.sizeOf176
 v22 := Tryz.zeroValue176
 a23 := Tryz.isAgg2
 z23 := Tryz.sizeOf2 }
end Go.Proofs
namespace Go.Proofs.YthdfedfholmbmaaGreatDoor
open Go.RowKit
theorem compact_two (a b : Int) : Lib.compactUpTo #[a, b] 2 = if a = b then [a] else [a, b] := by
 rw [Lib.compactUpTo_succ, Lib.compactUpTo_succ]
 have e0 : Lib.compactUpTo #[a, b] 0 = [] := rfl
 rw [e0]
 by_cases h : a = b
 ·subst h
  simp [Lib.keeps]
 ·have h' : b ≠ a := fun e => h e.symm
  simp [Lib.keeps, h, h']
theorem compact2_any {w : World} {g : Nat} {T : TypeId} {a b : Int} (h : w.heap[g]? = some (.cells #[.int .i64 a, .int .i64 b] T (0, 0))) :
 Calls Tryz.prog 154 #[.slice (some ⟨g, 0, none⟩) 2 2] w fun e w' => e = .returned (.slice (some ⟨g, 0, none⟩) (if a = b then 1 else 2) 2) ∧ Touch (fun x => x = g) w w' ∧ ∃ c, w'.heap[g]? = some (.cells #[.int .i64 a, c] T (0, 0)) ∧ (a ≠ b → c = .int .i64 b) := by
 have hH : Sort.Holds (Value.int .i64) w g 0 #[a, b] := fun j hj => by
  have hj : j < 2 := hj
  have : j = 0 ∨ j = 1 := by omega
  rcases this with rfl | rfl
  ·exact ⟨Kab (o := 0) h rfl, Kav (o := 0) h⟩
  ·exact ⟨Kab (o := 1) h rfl, Kav (o := 1) h⟩
 have hS := AnyE.slices_Compact Tryz.compactI (Value.int .i64) (by intro _; rfl) (EqlAt.intD _ _ _) (NeqAt.intD _ _ _) 0 (fun w => Tryz.zeroValue2 w) g 0 2 #[a, b] w hH (by simp) (by simp)
 refine hS.mono ?_
 rintro e w' ⟨rfl, q, rfl⟩
 have e2 : (#[a, b] : Array Int).size = 2 := rfl
 rw [e2, compact_two]
 have hrow : ∀ d : Array Int, (Sort.putRow (Value.int .i64) (Sort.ahead w q) g 0 d).heap[g]? = some (.cells (Sort.putCells (Value.int .i64) 0 d #[.int .i64 a, .int .i64 b]) T (0, 0)) := fun d => by
  unfold Sort.putRow Sort.mapBlock
  show (w.heap.modify g _)[g]? = _
  rw [Array.getElem?_modify, if_pos rfl, h]
  rfl
 have hoth : ∀ (d : Array Int) (x : Nat), x ≠ g → (Sort.putRow (Value.int .i64) (Sort.ahead w q) g 0 d).heap[x]? = w.heap[x]? := fun d x hx => by
  unfold Sort.putRow Sort.mapBlock
  show (w.heap.modify g _)[x]? = _
  rw [Array.getElem?_modify, if_neg (fun e => hx e.symm)]
 have ht : ∀ d : Array Int, Touch (fun x => x = g) w (Sort.putRow (Value.int .i64) (Sort.ahead w q) g 0 d) := fun d => ⟨rfl, rfl, rfl, by simp [Sort.putRow, Sort.mapBlock, Sort.ahead], fun x _ hx => hoth d x hx⟩
 by_cases hab : a = b
 ·subst hab
  rw [if_pos rfl, if_pos rfl]
  refine ⟨by simp, ht _, .int .i64 0, ?_, fun h => absurd rfl h⟩
  rw [hrow]
  rfl
 ·rw [if_neg hab, if_neg hab]
  refine ⟨by simp, ht _, .int .i64 b, ?_, fun _ => rfl⟩
  rw [hrow]
  rfl
section
variable {α : Type} {F : World → α → Array Value → Prop} {K : Nat} {W : World}
theorem grd_none : GRd F K W none 0 ([] : List α) := ⟨⟨Nat.le_refl _, by simp, fun _ => rfl⟩, fun ad h => by cases h⟩
theorem grd_one {g : Nat} {cs : Array Value} {T : TypeId} {v : α} (h : W.heap[g]? = some (.cells cs T (0, 0))) (hs : cs.size = K) (hv : F W v cs) : GRd F K W (some ⟨g, 0, none⟩) 1 [v] := by
 refine ⟨⟨Nat.le_refl _, ⟨by simp, by omega⟩, fun h => by cases h⟩, fun ad had => ⟨fun _ => by cases had; rfl, fun j u hu => ?_⟩⟩
 cases had
 match j, hu with
 | 0, hu =>
   cases hu
   exact ⟨cs, hs, fun i u hu => Kab (o := 0 + 0 * K + i) h (by simpa using hu), hv⟩
 | n + 1, hu => simp at hu
end
theorem Kd1 {w : World} {ad : Addr} {p : Option Addr} {n c : Nat} {u : Value} (hc : w.cell? ad = some u) (hf : w.frozen? ad = false) : (storeVar 22 ad (.slice p n c)).run Tryz.prog w = .ok () (w.setCell ad (.slice p n c)) := by
 simp [storeVar, go_sem, hc, hf]
theorem put_rels {w : World} {ad : Addr} {p : Option Addr} {n c : Nat} {u : Value} (hc : w.cell? ad = some u) (hf : w.frozen? ad = false) : (storeVar 23 ad (.slice p n c)).run Tryz.prog w = .ok () (w.setCell ad (.slice p n c)) := by
 simp [storeVar, go_sem, hc, hf]
abbrev topN : Int := 4611686018427387904
theorem errG_zero (b : Bool) : decide (errG b = 0) = b := by cases b <;> rfl
theorem change_parts {w : World} {cd : ChangeD} {x : Array Value} (hx : CRd w cd x) : ∃ xa xb, NRd w cd.node xa ∧ RRd w cd.rel xb ∧ x[0]? = some (.int .i64 cd.kind) ∧ x[1]? = some (.int .i64 cd.id) ∧ x[2]? = some (.int .i64 cd.other) ∧ (∀ (i : Nat) (u : Value), xa[i]? = some u → x[3 + i]? = some u) ∧ (∀ (i : Nat) (u : Value), xb[i]? = some u → x[6 + i]? = some u) := by
 obtain ⟨xa, xb, hxe, hna, hrb⟩ := hx
 have sa := ef_node.size hna
 refine ⟨xa, xb, hna, hrb, ?_, ?_, ?_, fun i u hu => ?_, fun i u hu => ?_⟩
 ·rw [hxe, Array.append_assoc, Array.getElem?_append_left (by simp)]; rfl
 ·rw [hxe, Array.append_assoc, Array.getElem?_append_left (by simp)]; rfl
 ·rw [hxe, Array.append_assoc, Array.getElem?_append_left (by simp)]; rfl
 ·have hi := (Array.getElem?_eq_some_iff.1 hu).1
  rw [hxe, Array.getElem?_append_left (by simp; omega), Array.getElem?_append_right (by simp)]; simpa using hu
 ·rw [hxe, Array.getElem?_append_right (by simp [sa])]; simp only [Array.size_append, sa]; simpa using hu
abbrev gBox : Array Value := #[.slice none 0 0, .slice none 0 0, .int .i64 topN, .int .i64 topN]
theorem may_other {w : World} {cd : ChangeD} {x : Array Value} (hx : CRd w cd x) (h0 : cd.kind ≠ 0) (h1 : cd.kind ≠ 1) : Calls Tryz.prog 128 #[.agg x] w fun e w' => e = .returned (.bool (okC cd)) ∧ Below w.heap.size w w' := by
 have hxs := ef_change.size hx
 obtain ⟨xa, xb, hna, hrb, x0, _⟩ := change_parts hx
 have hok : okC cd = (decide (2 ≤ cd.kind) && decide (cd.kind ≤ 4)) := by unfold okC; rw [if_neg h0, if_neg h1]
 have hb : Below w.heap.size w ((w.alloc (.cells x 74)).alloc (.cells gBox 25)) := (Kac _).alloc (by simp) _
 have hs := Kbt.fresh (P := Tryz.prog) (W := w.alloc (.cells x 74)) (cs := gBox) rfl (by simp [Value.oneCell'])
 have hc0 : ((w.alloc (.cells x 74)).alloc (.cells gBox 25)).cell? ⟨w.heap.size, 0, none⟩ = some (.int .i64 cd.kind) := Kab (o := 0) (Kak (Kac (w := w.alloc (.cells x 74)) (.cells gBox 25)) (by simp) (heap_alloc_new w _)) x0
 have HS := yh hs
 have HB := yh hb
 have HC := yh hc0
 rw [hok]
 clear hok hx hna hrb x0 hb hs hc0
 generalize cd.kind = k at *
 have HK := yh (And.intro h0 h1)
 by_cases h2 : k = 2
 ·subst h2
  have hcc := HC.out
  clear h0 h1
  go_enter Tryz.func128, Tryz.ntmps128
  go_wp2_with ((with_reducible apply Kad); exact HS.out _ rfl; exact rfl; exact rfl)
  go_ret
  exact ⟨rfl, HB.out⟩
 ·by_cases h3 : k = 3
  ·subst h3
   have hcc := HC.out
   clear h0 h1 h2
   go_enter Tryz.func128, Tryz.ntmps128
   go_wp2_with ((with_reducible apply Kad); exact HS.out _ rfl; exact rfl; exact rfl)
   go_ret
   exact ⟨rfl, HB.out⟩
  ·by_cases h4 : k = 4
   ·subst h4
    have hcc := HC.out
    clear h0 h1 h2 h3
    go_enter Tryz.func128, Tryz.ntmps128
    go_wp2_with ((with_reducible apply Kad); exact HS.out _ rfl; exact rfl; exact rfl)
    go_ret
    exact ⟨rfl, HB.out⟩
   ·have hcc := HC.out
    have hf : (decide (2 ≤ k) && decide (k ≤ 4)) = false := by
     rw [Bool.and_eq_false_iff, decide_eq_false_iff_not, decide_eq_false_iff_not]; omega
    have HF := yh hf
    clear hf
    go_enter Tryz.func128, Tryz.ntmps128
    go_wp2_with ((with_reducible apply Kad); exact HS.out _ rfl; exact rfl; exact rfl)
    go_ret
    exact ⟨by rw [HF.out]; rfl, HB.out⟩
theorem may_node {w : World} (hE : Env w) {cd : ChangeD} {x : Array Value} (hx : CRd w cd x) (h0 : cd.kind = 0) (ht : totC cd ≤ 900000) : Calls Tryz.prog 128 #[.agg x] w fun e w' => e = .returned (.bool (okC cd)) ∧ Below w.heap.size w w' := by
 have hxs := ef_change.size hx
 obtain ⟨xa, xb, hna, hrb, x0, _, _, xna, _⟩ := change_parts hx
 have sa := ef_node.size hna
 have hok : okC cd = okG ⟨[cd.node], [], topN, topN⟩ := by unfold okC; rw [if_pos h0]
 have hb : Below w.heap.size w ((w.alloc (.cells x 74)).alloc (.cells gBox 25)) := (Kac _).alloc (by simp) _
 have hs := Kbt.fresh (P := Tryz.prog) (W := w.alloc (.cells x 74)) (cs := gBox) rfl (by simp [Value.oneCell'])
 have hch : ((w.alloc (.cells x 74)).alloc (.cells gBox 25)).heap[w.heap.size]? = some (.cells x 74 (0, 0)) := Kak (Kac (w := w.alloc (.cells x 74)) (.cells gBox 25)) (by simp) (heap_alloc_new w _)
 have hgb : ((w.alloc (.cells x 74)).alloc (.cells gBox 25)).heap[w.heap.size + 1]? = some (.cells gBox 25 (0, 0)) := by
  simp only [Kaf, World.size_alloc]; rw [if_pos trivial]
 have hsz : ((w.alloc (.cells x 74)).alloc (.cells gBox 25)).heap.size = w.heap.size + 2 := by simp
 simp only [World.size_alloc] at hs
 have HS := yh hs
 generalize hW2 : (w.alloc (.cells x 74)).alloc (.cells gBox 25) = W2 at *
 rw [h0] at x0
 have hcc := Kab (o := 0) hch x0
 have hln := Kct.load (P := Tryz.prog) (W := W2) (g := w.heap.size) (o := 3) sa (fun i u hu => Kab (o := 3 + i) hch (xna i u hu))
 have hbs := Kao (P := Tryz.prog) (w := W2) (v := .agg xa) Tryz.underlying22 Tryz.sizeOf70 Tryz.zeroValue70 sa (by omega) (by omega)
 have hb3 : Below W2.heap.size W2 (W2.alloc (.cells xa 70)) := Kac _
 have hg3 := Kak hb3 (by omega) hgb
 have hput := Kd1 (p := some ⟨W2.heap.size, 0, none⟩) (n := 1) (c := 1) (Kab (o := 0) hg3 rfl) (Kav (o := 0) hg3)
 have hbw : Below w.heap.size w ((W2.alloc (.cells xa 70)).setCell ⟨w.heap.size + 1, 0, none⟩ (.slice (some ⟨W2.heap.size, 0, none⟩) 1 1)) := Kbf (Kaa hb hb3) (by omega) _
 have hg4 := Kcw (k := 0) (.slice (some ⟨W2.heap.size, 0, none⟩) 1 1) hg3
 have hnb : ((W2.alloc (.cells xa 70)).setCell ⟨w.heap.size + 1, 0, none⟩ (.slice (some ⟨W2.heap.size, 0, none⟩) 1 1)).heap[W2.heap.size]? = some (.cells xa 70 (0, 0)) := (Below.heap_setCell _ ⟨w.heap.size + 1, 0, none⟩ _ _ (show W2.heap.size ≠ w.heap.size + 1 by omega)).trans (heap_alloc_new W2 _)
 have hE4 := hE.b hbw
 have hgr : GrRd ((W2.alloc (.cells xa 70)).setCell ⟨w.heap.size + 1, 0, none⟩ (.slice (some ⟨W2.heap.size, 0, none⟩) 1 1)) ⟨[cd.node], [], topN, topN⟩ #[.slice (some ⟨W2.heap.size, 0, none⟩) 1 1, .slice none 0 0, .int .i64 topN, .int .i64 topN] :=
  ⟨some ⟨W2.heap.size, 0, none⟩, 1, none, 0, rfl, grd_one hnb sa (hna.below hbw), grd_none⟩
 have hck := Kd2 hE4 hgr (by unfold totG; unfold totC at ht; simp; omega)
 have hgl := Kbt.get (P := Tryz.prog) (cs := #[.slice (some ⟨W2.heap.size, 0, none⟩) 1 1, .slice none 0 0, .int .i64 topN, .int .i64 topN]) rfl hg4
 have HLN := yh hln
 have HBS := yh hbs
 have HP := yh hput
 have HCK := yh hck
 have HGL := yh hgl
 have HB := yh hbw
 have HZ := yh (errG_zero (okG ⟨[cd.node], [], topN, topN⟩))
 have HCC := yh hcc
 rw [hok]
 clear hok hx hna hrb x0 xna hb hs hch hgb hln hbs hb3 hg3 hput hbw hg4 hnb hE4 hgr hck hgl hE hW2 hsz hcc h0
 generalize okG ⟨[cd.node], [], topN, topN⟩ = r at *
 go_enter Tryz.func128, Tryz.ntmps128
 have hcc := HCC.out
 go_wp2_with (first
  | ((with_reducible apply Kad); (exact HS.out _ rfl; exact rfl; exact rfl; clear HS))
  | ((with_reducible apply Kad); exact HP.out; exact rfl; exact rfl)
  | ((with_reducible apply Kal); exact HLN.out; exact rfl)
  | ((with_reducible apply Kal); exact HGL.out; exact rfl)
  | ((with_reducible apply op_bs1); exact HBS.out; exact rfl)
  | (go_at_call 13; refine HCK.out.mono ?_; rintro e W5 ⟨rfl, hb⟩; have HB5 := yh (Kaa HB.out hb); clear hb))
 go_ret
 have e : (errG r == 0) = r := by cases r <;> rfl
 exact ⟨by show Ending.returned (.bool (errG r == 0)) = _; rw [e], HB5.out⟩
def Kc2 (i : Int) : NodeD := ⟨i, [], []⟩
def Kcn (s d : Int) : List Int := if s = d then [s] else [min s d, max s d]
theorem ends_len (s d : Int) : (Kcn s d).length = if min s d = max s d then 1 else 2 := by
 unfold Kcn
 by_cases h : s = d
 ·rw [if_pos h, if_pos (by omega)]; rfl
 ·rw [if_neg h, if_neg (by omega)]; rfl
theorem ends_ok (cd : ChangeD) (h1 : cd.kind = 1) : okC cd = okG ⟨(Kcn cd.rel.src cd.rel.dst).map Kc2, [cd.rel], topN, topN⟩ := by
 unfold okC Kcn
 rw [if_neg (by omega), if_pos h1]
 by_cases h : cd.rel.src = cd.rel.dst
 ·rw [if_pos h, if_pos h]; rfl
 ·rw [if_neg h, if_neg h]; rfl
theorem ends_at {s d : Int} {W : World} {g : Nat} {T : TypeId} {c : Value} (h : W.heap[g]? = some (.cells #[.int .i64 (min s d), c] T (0, 0))) (hc : min s d ≠ max s d → c = .int .i64 (max s d)) (j : Nat) (hj : j < (Kcn s d).length) : W.cell? ⟨g, j, none⟩ = some (.int .i64 (Kcn s d)[j]) := by
 by_cases hd : s = d
 ·have e : Kcn s d = [s] := by unfold Kcn; rw [if_pos hd]
  have hm : min s d = s := by omega
  rw [e] at hj
  have hj0 : j = 0 := by simp at hj; omega
  subst hj0
  rw [hm] at h
  have : (Kcn s d)[0] = s := by simp [e]
  rw [this]
  exact Kab (o := 0) h rfl
 ·have e : Kcn s d = [min s d, max s d] := by unfold Kcn; rw [if_neg hd]
  rw [e] at hj
  have hj0 : j = 0 ∨ j = 1 := by simp at hj; omega
  rw [hc (by omega)] at h
  rcases hj0 with rfl | rfl
  ·have : (Kcn s d)[0] = min s d := by simp [e]
   rw [this]
   exact Kab (o := 0) h rfl
  ·have : (Kcn s d)[1] = max s d := by simp [e]
   rw [this]
   exact Kab (o := 1) h rfl
theorem nodeOf_own {W : World} {P : Nat → Prop} (i : Int) : NOwn W P (Kc2 i) #[.int .i64 i, .slice none 0 0, .slice none 0 0] :=
 ⟨.slice none 0 0, .slice none 0 0, rfl, ⟨⟨by simp, .inl ⟨rfl, rfl⟩⟩, fun g hg => by simp [Value.ownBlock] at hg⟩, GOwn.nil⟩
theorem totN_of (i : Int) : totN (Kc2 i) = 1 := rfl
structure MyInv (w W6 W : World) (B : Nat) (rs : Value) (ids : List Int) (j : Nat) (ov : Value) : Prop where
 row : GIn NOwn 70 3 (fun b => W6.heap.size ≤ b) W ov ((ids.take j).map Kc2)
 box : W.heap[B]? = some (.cells #[ov, rs, .int .i64 topN, .int .i64 topN] 25 (0, 0))
 keep : ∀ b, b < W6.heap.size → b ≠ B → W.heap[b]? = W6.heap[b]?
 b : Below w.heap.size w W
 size : W6.heap.size ≤ W.heap.size
theorem MyInv.step {w W6 W : World} {B : Nat} {rs : Value} {ids : List Int} {j : Nat} {ov : Value} (h : MyInv w W6 W B rs ids j ov) (hw : w.heap.size ≤ B) (hB : B < W6.heap.size) (hj : j < ids.length) (hl : ids.length ≤ 2) :
 ∃ p n c W2, (Builtin.append_ #[22, 22] 22 #[ov, .slice (some ⟨W.heap.size, 0, none⟩) 1 1]).run Tryz.prog (W.alloc (.cells #[.int .i64 ids[j], .slice none 0 0, .slice none 0 0] 70)) = .ok (.slice p n c) W2 ∧
  (storeVar 22 ⟨B, 0, none⟩ (.slice p n c)).run Tryz.prog W2 = .ok () (W2.setCell ⟨B, 0, none⟩ (.slice p n c)) ∧ MyInv w W6 (W2.setCell ⟨B, 0, none⟩ (.slice p n c)) B rs ids (j + 1) (.slice p n c) := by
 obtain ⟨v', W2, a1, a2, a3⟩ := h.row.step (W1 := W) (P' := fun b => W6.heap.size ≤ b) Kbb gt_node (fun b _ _ => rfl) (Nat.le_refl _) (fun b _ hp => hp) (fun b hb => Nat.le_trans h.size hb) (nodeOf_own ids[j]) (by simp; omega) 22
 obtain ⟨p, c, rfl⟩ := a2.slice
 have hrl := h.row.lt
 have hbn := Kac (w := W) (.cells #[.int .i64 ids[j], .slice none 0 0, .slice none 0 0] 70)
 have hs := h.size
 have hsz := hbn.size
 have hk : ∀ b, b < W6.heap.size → W2.heap[b]? = W.heap[b]? := fun b hb => (a3.block b (by omega) (fun e => by have := (hrl b e).2; omega)).trans (hbn.block b (by omega))
 have hbox := (hk B hB).trans h.box
 have hset : ∀ b, b ≠ B → (W2.setCell ⟨B, 0, none⟩ (.slice p ((ids.take j).map Kc2 ++ [Kc2 ids[j]]).length c)).heap[b]? = W2.heap[b]? := fun b hb => Below.heap_setCell W2 ⟨B, 0, none⟩ _ b hb
 have hsz2 : (W2.setCell ⟨B, 0, none⟩ (.slice p ((ids.take j).map Kc2 ++ [Kc2 ids[j]]).length c)).heap.size = W2.heap.size := by simp [World.setCell]
 have hB2 : Below w.heap.size w W2 := a3.below (Kaa h.b hbn) (fun b hb e => by have := (hrl b e).2; omega) (by have := h.b.size; omega)
 have hm : (ids.take (j + 1)).map Kc2 = (ids.take j).map Kc2 ++ [Kc2 ids[j]] := by rw [List.take_succ_eq_append_getElem hj, List.map_append]; rfl
 refine ⟨p, _, c, W2, a1, Kd1 (Kab (o := 0) hbox rfl) (Kav (o := 0) hbox), ⟨?_, ?_, fun b hb hne => (hset b hne).trans ((hk b hb).trans (h.keep b hb hne)), Kbf hB2 hw _, ?_⟩⟩
 ·rw [hm]
  exact a2.kept Kbb (fun b hp _ => hset b (by omega)) (fun b _ hp => hp)
 ·exact Kcw (k := 0) _ hbox
 ·rw [hsz2]; have := a3.size; omega
theorem MyInv.last {w W6 W : World} {B : Nat} {pr : Option Addr} {ids : List Int} {ov : Value} {r : RelD} (h : MyInv w W6 W B (.slice pr 1 1) ids ids.length ov) (hl : ids.length ≤ 2) (hr : GRd RRd 5 W pr 1 [r]) : ∃ x, W.heap[B]? = some (.cells x 25 (0, 0)) ∧ x.size = 4 ∧ GrRd W ⟨ids.map Kc2, [r], topN, topN⟩ x := by
 have hown := h.row.own Kbb
 rw [List.take_length] at hown
 obtain ⟨p, c, e, hg⟩ := hown.rd Kbb (F := NRd) (by simp; omega) (fun v hv x hx => hx.rd (by obtain ⟨i, _, rfl⟩ := List.mem_map.1 hv; rw [totN_of]; omega))
 exact ⟨_, h.box, rfl, p, c, pr, 1, by rw [e]; rfl, hg, hr⟩
theorem may_rel {w : World} (hE : Env w) {cd : ChangeD} {x : Array Value} (hx : CRd w cd x) (h1 : cd.kind = 1) (ht : totC cd ≤ 900000) : Calls Tryz.prog 128 #[.agg x] w fun e w' => e = .returned (.bool (okC cd)) ∧ Below w.heap.size w w' := by
 have hxs := ef_change.size hx
 obtain ⟨xa, xb, hna, hrb, x0, _, _, _, xrb⟩ := change_parts hx
 have sb := ef_rel.size hrb
 have hok := ends_ok cd h1
 have hb : Below w.heap.size w ((w.alloc (.cells x 74)).alloc (.cells gBox 25)) := (Kac _).alloc (by simp) _
 have hs := Kbt.fresh (P := Tryz.prog) (W := w.alloc (.cells x 74)) (cs := gBox) rfl (by simp [Value.oneCell'])
 have hch : ((w.alloc (.cells x 74)).alloc (.cells gBox 25)).heap[w.heap.size]? = some (.cells x 74 (0, 0)) := Kak (Kac (w := w.alloc (.cells x 74)) (.cells gBox 25)) (by simp) (heap_alloc_new w _)
 have hgb : ((w.alloc (.cells x 74)).alloc (.cells gBox 25)).heap[w.heap.size + 1]? = some (.cells gBox 25 (0, 0)) := by
  simp only [Kaf, World.size_alloc]; rw [if_pos trivial]
 have hsz : ((w.alloc (.cells x 74)).alloc (.cells gBox 25)).heap.size = w.heap.size + 2 := by simp
 simp only [World.size_alloc] at hs
 have HS := yh hs
 generalize hW2 : (w.alloc (.cells x 74)).alloc (.cells gBox 25) = W2 at *
 rw [h1] at x0
 have hcc := Kab (o := 0) hch x0
 have hln := Kd0.load (P := Tryz.prog) (W := W2) (g := w.heap.size) (o := 6) sb (fun i u hu => Kab (o := 6 + i) hch (xrb i u hu))
 have hbs := Kao (P := Tryz.prog) (w := W2) (v := .agg xb) Tryz.underlying23 Tryz.sizeOf72 Tryz.zeroValue72 sb (by omega) (by omega)
 have hb3 : Below W2.heap.size W2 (W2.alloc (.cells xb 72)) := Kac _
 have hg3 := Kak hb3 (by omega) hgb
 have hput := put_rels (p := some ⟨W2.heap.size, 0, none⟩) (n := 1) (c := 1) (Kab (o := 1) hg3 rfl) (Kav (o := 1) hg3)
 have hbw : Below w.heap.size w ((W2.alloc (.cells xb 72)).setCell ⟨w.heap.size + 1, 1, none⟩ (.slice (some ⟨W2.heap.size, 0, none⟩) 1 1)) := Kbf (Kaa hb hb3) (by omega) _
 have hg4 := Kcw (k := 1) (.slice (some ⟨W2.heap.size, 0, none⟩) 1 1) hg3
 have hoth : ∀ b, b ≠ w.heap.size + 1 → ((W2.alloc (.cells xb 72)).setCell ⟨w.heap.size + 1, 1, none⟩ (.slice (some ⟨W2.heap.size, 0, none⟩) 1 1)).heap[b]? = (W2.alloc (.cells xb 72)).heap[b]? := fun b hb => Below.heap_setCell _ ⟨w.heap.size + 1, 1, none⟩ _ _ hb
 have hrb4 := (hoth W2.heap.size (by omega)).trans (heap_alloc_new W2 _)
 have hch4 := (hoth w.heap.size (by omega)).trans (Kak hb3 (by omega) hch)
 have hs4 : ((W2.alloc (.cells xb 72)).setCell ⟨w.heap.size + 1, 1, none⟩ (.slice (some ⟨W2.heap.size, 0, none⟩) 1 1)).heap.size = w.heap.size + 3 := by simp [World.setCell, hsz]
 have HP := yh hput
 generalize hW4 : (W2.alloc (.cells xb 72)).setCell ⟨w.heap.size + 1, 1, none⟩ (.slice (some ⟨W2.heap.size, 0, none⟩) 1 1) = W4 at *
 obtain ⟨pp, cp, exb, _⟩ := id hrb
 have hcs := Kab (o := 7) hch4 (xrb 1 _ (by rw [exb]; rfl))
 have hcd := Kab (o := 8) hch4 (xrb 2 _ (by rw [exb]; rfl))
 have HLN := yh hln
 have HBS := yh hbs
 have hb5 : Below W4.heap.size W4 (W4.alloc (.cells #[.int .i64 (min cd.rel.src cd.rel.dst), .int .i64 (max cd.rel.src cd.rel.dst)] 2)) := Kac _
 have hcp := compact2_any (heap_alloc_new W4 (.cells #[.int .i64 (min cd.rel.src cd.rel.dst), .int .i64 (max cd.rel.src cd.rel.dst)] 2))
 rw [← ends_len] at hcp
 have hen := fun (W : World) (c : Value) => ends_at (s := cd.rel.src) (d := cd.rel.dst) (W := W) (g := W4.heap.size) (T := 2) (c := c)
 have htr : totR cd.rel ≤ 900000 := by unfold totC at ht; omega
 have hl2 : (Kcn cd.rel.src cd.rel.dst).length ≤ 2 := by rw [ends_len]; split <;> omega
 have HX := yh (And.intro hbw (And.intro hg4 (And.intro hrb4 (And.intro hs4 (And.intro hb5 (And.intro hrb htr))))))
 have HCC := yh hcc
 have HCS := yh (And.intro hcs hcd)
 have HCP := yh hcp
 have HEN := yh hen
 have HEE := yh hE
 have z2 : ((Kcn cd.rel.src cd.rel.dst).length : Int) ≤ 2 := by omega
 rw [hok]
 clear hok x0 hb hs hch hgb hln hbs hb3 hg3 hput hbw hg4 hoth hrb4 hch4 hs4 hW2 hW4 hsz hcc h1 hcs hcd exb hb5 hcp hen hrb hna hx xrb htr hE ht
 have HZ := yh (show okG ⟨(Kcn cd.rel.src cd.rel.dst).map Kc2, [cd.rel], topN, topN⟩ = okG ⟨(Kcn cd.rel.src cd.rel.dst).map Kc2, [cd.rel], topN, topN⟩ from rfl)
 generalize hr : okG ⟨(Kcn cd.rel.src cd.rel.dst).map Kc2, [cd.rel], topN, topN⟩ = r at *
 have HRR := yh hr
 clear hr HZ
 go_enter Tryz.func128, Tryz.ntmps128
 have hcc := HCC.out
 obtain ⟨hcs, hcd⟩ := HCS.out
 go_wp2_with (first
  | ((with_reducible apply Kad); exact HS.out _ rfl; exact rfl; exact rfl; clear HS)
  | ((with_reducible apply Kad); exact HP.out; exact rfl; exact rfl)
  | ((with_reducible apply Kal); exact HLN.out; exact rfl)
  | ((with_reducible apply op_bs1); exact HBS.out; exact rfl)
  | (go_at_call 154; refine HCP.out.mono ?_; rintro e W6 ⟨rfl, hT, c, hc, hcn⟩; have H6 := yh (And.intro hT (HEN.out W6 c hc hcn)); clear hT hc hcn HCP HEN))
 clear hcc hcs hcd HCC HCS HP HLN HBS
 obtain ⟨hbw, hg4, hrb4, hs4, hb5, hrb, htr⟩ := HX.out
 obtain ⟨hT, hce⟩ := H6.out
 have hTb := hT.size
 have hs5 := hb5.size
 have hk6 : ∀ b, b < W4.heap.size → W6.heap[b]? = W4.heap[b]? := fun b hb => (hT.block b (by omega) (by omega)).trans (hb5.block b hb)
 have hB6 : Below w.heap.size w W6 := hT.below (Kaa hbw hb5) (fun b hb e => by omega) (by omega)
 have hst : MyInv w W6 W6 (w.heap.size + 1) (.slice (some ⟨W2.heap.size, 0, none⟩) 1 1) (Kcn cd.rel.src cd.rel.dst) 0 (.slice none 0 0) := ⟨GIn.start, (hk6 _ (by omega)).trans hg4, fun _ _ _ => rfl, hB6, Nat.le_refl _⟩
 have hlt6 : w.heap.size + 1 < W6.heap.size := by omega
 have hrb6 := (hk6 W2.heap.size (Array.getElem?_eq_some_iff.1 hrb4).1).trans hrb4
 have hlt2 : W2.heap.size < W6.heap.size := (Array.getElem?_eq_some_iff.1 hrb6).1
 have hw4 : W4.heap.size < W6.heap.size := by have : (W4.alloc (.cells #[.int .i64 (min cd.rel.src cd.rel.dst), .int .i64 (max cd.rel.src cd.rel.dst)] 2)).heap.size = W4.heap.size + 1 := by simp
                                              omega
 have hwB : w.heap.size ≤ w.heap.size + 1 := by omega
 have hne2 : W2.heap.size ≠ w.heap.size + 1 := fun e => by rw [e] at hrb4; rw [hg4] at hrb4; cases hrb4
 have hne4 : W4.heap.size ≠ w.heap.size + 1 := by omega
 have HQ := yh (And.intro hst (And.intro hlt6 (And.intro hrb6 (And.intro hlt2 (And.intro hw4 (And.intro hrb (And.intro htr (And.intro hne2 hne4))))))))
 have HCE := yh hce
 have HL2 := yh hl2
 generalize W4.heap.size = g4 at *
 clear hbw hg4 hrb4 hs4 hb5 hrb htr hT hce hTb hs5 hk6 hB6 hst hlt6 hrb6 hlt2 hw4 hwB hne2 hne4 hl2 HX H6
 generalize Kcn cd.rel.src cd.rel.dst = ids at *
 go_loopw [40] (fun i W => ∃ (j : Nat) (p : Option Addr) (n c : Nat), j ≤ ids.length ∧ i = .int .i64 (j : Int) ∧ Hid (MyInv w W6 W (w.heap.size + 1) (.slice (some ⟨W2.heap.size, 0, none⟩) 1 1) ids j (.slice p n c))) (fun i _ => ids.length - (intOf i).toNat)
 case atStart => exact ⟨0, none, 0, 0, Nat.zero_le _, rfl, yh HQ.out.1⟩
 case round =>
  obtain ⟨j, p, n, c, hj, rfl, HI⟩ := hrel
  by_cases hlt : j < ids.length
  ·have hlt1 : j + 1 ≤ ids.length := hlt
   obtain ⟨_, hlt6, hrb6, hlt2, hw4, hrb, htr, hne2, hne4⟩ := HQ.out
   obtain ⟨p', n', c', Wn, a1, a2, a3⟩ := HI.out.step (by omega) hlt6 hlt HL2.out
   have hcj : wr.cell? ⟨g4, j, none⟩ = some (.int .i64 ids[j]) := by
    have h1 := HCE.out j hlt
    unfold World.cell? at h1 ⊢
    rw [HI.out.keep g4 hw4 hne4]
    exact h1
   have hcg := Kab (o := 0) HI.out.box rfl
   have HBS := yh (Kao (P := Tryz.prog) (w := wr) (v := .agg #[.int .i64 ids[j], .slice none 0 0, .slice none 0 0]) Tryz.underlying22 Tryz.sizeOf70 Tryz.zeroValue70 rfl (by omega) (by omega))
   have HA := yh a1
   have HPU := yh a2
   have HN := yh a3
   generalize ids[j] = id at *
   clear hlt6 hrb6 hlt2 hw4 hrb htr hne2 hne4 a1 a2 a3 HI HQ HCE
   go_wp2_with (first
    | ((with_reducible apply op_bs1); exact HBS.out; exact rfl)
    | ((with_reducible apply Kbc); exact HA.out; exact rfl; exact rfl)
    | ((with_reducible apply Kad); exact HPU.out; exact rfl; exact rfl))
   go_roundw
   case rel => exact ⟨j + 1, p', n', c', hlt1, by go_num, HN⟩
   case measure => simp [intOf]; omega
  ·obtain rfl : j = ids.length := by omega
   obtain ⟨_, hlt6, hrb6, hlt2, hw4, hrb, htr, hne2, hne4⟩ := HQ.out
   have hrr := (HI.out.keep W2.heap.size hlt2 hne2).trans hrb6
   obtain ⟨xg, hxg, hxs, hgr⟩ := HI.out.last HL2.out (grd_one hrr sb (hrb.below HI.out.b))
   have hck := Kd2 (HEE.out.b HI.out.b) hgr (by
    unfold totG
    have h1 : ((ids.map Kc2).map totN).sum ≤ 2 := by
     have e : (ids.map Kc2).map totN = ids.map (fun _ => 1) := by rw [List.map_map]; rfl
     rw [e, List.map_const', List.sum_replicate_nat]
     have := HL2.out
     simp at this ⊢; omega
    simp only [List.map_cons, List.map_nil, List.sum_cons, List.sum_nil]
    omega)
   have HGL := yh (Kbt.get (P := Tryz.prog) hxs hxg)
   rw [HRR.out] at hck
   have HCK := yh hck
   have HB := yh HI.out.b
   clear hlt6 hrb6 hlt2 hw4 hrb htr hne2 hne4 hck hgr hxg hrr HI HQ HCE
   go_wp2_with (first
    | ((with_reducible apply Kal); exact HGL.out; exact rfl)
    | (go_at_call 13; refine HCK.out.mono ?_; rintro e W9 ⟨rfl, hb⟩; have HB9 := yh (Kaa HB.out hb); clear hb))
   go_ret
   have e : (errG r == 0) = r := by cases r <;> rfl
   exact ⟨by show Ending.returned (.bool (errG r == 0)) = _; rw [e], HB9.out⟩
theorem mayC_any {w : World} (hE : Env w) {cd : ChangeD} {x : Array Value} (hx : CRd w cd x) (ht : totC cd ≤ 900000) : Calls Tryz.prog 128 #[.agg x] w fun e w' => e = .returned (.bool (okC cd)) ∧ Below w.heap.size w w' := by
 by_cases h0 : cd.kind = 0
 ·exact may_node hE hx h0 ht
 ·by_cases h1 : cd.kind = 1
  ·exact may_rel hE hx h1 ht
  ·exact may_other hx h0 h1
theorem badC_any {w : World} (hE : Env w) {cd : ChangeD} {x : Array Value} (hx : CRd w cd x) (ht : totC cd ≤ 900000) : Calls Tryz.prog 127 #[.agg x] w fun e w' => e = .returned (.bool (!okC cd)) ∧ Below w.heap.size w w' := by
 have hxs := ef_change.size hx
 have hb := Kac (w := w) (.cells x 74)
 have HL := yh (Kb3.get (P := Tryz.prog) hxs (heap_alloc_new w (.cells x 74)))
 have HV := yh (mayC_any (hE.b hb) (hx.below hb) ht)
 have HB := yh hb
 clear hE hb hx
 generalize okC cd = r at *
 go_enter Tryz.func127, Tryz.ntmps127
 go_wp2_with (first
  | ((with_reducible apply Kal); exact HL.out; exact rfl)
  | (go_at_call 128; refine HV.out.mono ?_; rintro e W1 ⟨rfl, hb⟩; have HB2 := yh (Kaa HB.out hb); clear hb))
 go_ret
 exact ⟨rfl, HB2.out⟩
def noAt {α : Type} (f : α → Bool) (l : List α) : Int := match l.findIdx? (fun s => !f s) with
 | some i => (i : Int)
 | none => -1
section
variable {α : Type} {f : α → Bool}
theorem noAt_ge (l : List α) : decide (0 ≤ noAt f l) = !(l.all f) := by
 unfold noAt
 rw [Bool.eq_iff_iff]
 cases h : l.findIdx? (fun s => !f s) with
 | none =>
   rw [List.findIdx?_eq_none_iff] at h
   simp only [decide_eq_true_eq, Bool.not_eq_true', List.all_eq_false]
   constructor
   ·intro h; omega
   ·rintro ⟨x, hx, hn⟩
    have := h x hx
    simp_all
 | some i =>
   rw [List.findIdx?_eq_some_iff_getElem] at h
   obtain ⟨hi, h1, _⟩ := h
   simp only [decide_eq_true_eq, Bool.not_eq_true', List.all_eq_false]
   exact ⟨fun _ => ⟨l[i], List.getElem_mem hi, by simpa using h1⟩, fun _ => by omega⟩
theorem noAt_hit {l : List α} {j : Nat} (hj : j < l.length) (h1 : (l.take j).all f = true) (h2 : f l[j] = false) : noAt f l = (j : Int) := by
 unfold noAt
 have : l.findIdx? (fun s => !f s) = some j := by
  rw [List.findIdx?_eq_some_iff_getElem]
  refine ⟨hj, by simp [h2], fun i hi => ?_⟩
  rw [List.all_eq_true] at h1
  have := h1 l[i] (by rw [List.mem_take_iff_getElem]; exact ⟨i, by omega, rfl⟩)
  simp [this]
 rw [this]
theorem noAt_none {l : List α} (h1 : l.all f = true) : noAt f l = -1 := by
 unfold noAt
 have : l.findIdx? (fun s => !f s) = none := by
  rw [List.findIdx?_eq_none_iff]
  intro s hs
  rw [List.all_eq_true] at h1
  simp [h1 s hs]
 rw [this]
end
theorem badCIdx_any {w : World} (hE : Env w) {p : Option Addr} {c : Nat} {l : List ChangeD} (h : GRd CRd 11 w p c l) (ht : ∀ x ∈ l, totC x ≤ 900000) : Calls Tryz.prog 153 #[.slice p l.length c, .func (.func 127) #[] #[]] w fun e w' => e = .returned (.int .i64 (noAt okC l)) ∧ Below w.heap.size w w' := by
 have z1 : (l.length : Int) ≤ 140737488355328 := by have := h.1.2.1; omega
 have H := yh h
 have HE := yh hE
 have HT := yh ht
 clear h hE ht
 go_enter Tryz.func153, Tryz.ntmps153
 go_wp2
 go_loopw [8] (fun i W => ∃ j : Nat, j ≤ l.length ∧ i = .int .i64 (j : Int) ∧ Hid ((l.take j).all okC = true ∧ Below w.heap.size w W)) (fun i _ => l.length - (intOf i).toNat)
 case atStart => exact ⟨0, Nat.zero_le _, rfl, yh ⟨by simp, Below.refl _ _⟩⟩
 case round =>
  obtain ⟨j, hj, rfl, HI⟩ := hrel
  by_cases hlt : j < l.length
  ·have hlt1 : j + 1 ≤ l.length := hlt
   obtain ⟨b, of, cs, rfl, hs, hc, hv⟩ := (H.out.below (fun h => h.below HI.out.2) HI.out.2).get hlt
   have hone := badC_any (HE.out.b HI.out.2) hv (HT.out _ (List.getElem_mem hlt))
   have hst := all_snoc (f := okC) hlt HI.out.1
   have hbd := noAt_hit (f := okC) hlt HI.out.1
   have HL := yh (Kb3.load (P := Tryz.prog) hs hc)
   have hia : ∀ W' : World, (Instr.indexAt 58 (.slice (some ⟨b, of, none⟩) l.length c) (.int .i64 (j : Int))).run Tryz.prog W' = .ok (.pointer (some ⟨b, of + j * 11, none⟩)) W' := by intro W'; simp [go_sem, hlt]
   generalize l[j] = s at *
   have HC := yh hone
   have HB := yh HI.out.2
   cases hok : okC s with
   | true =>
     have HN := yh (hst hok)
     rw [hok] at HC
     clear hone hst hbd hok HI hv hc hs
     go_wp2_with (first
      | ((with_reducible apply Kal); exact HL.out; exact rfl)
      | (go_at_call 127; refine HC.out.mono ?_; rintro e W2 ⟨rfl, hb⟩; have HB2 := yh (Kaa HB.out hb); clear hb))
     go_roundw
     case rel => exact ⟨j + 1, hlt1, by go_num, yh ⟨HN.out, HB2.out⟩⟩
     case measure => simp [intOf]; omega
   | false =>
     have HN := yh (hbd hok)
     rw [hok] at HC
     clear hone hst hbd hok HI hv hc hs
     go_wp2_with (first
      | ((with_reducible apply Kal); exact HL.out; exact rfl)
      | (go_at_call 127; refine HC.out.mono ?_; rintro e W2 ⟨rfl, hb⟩; have HB2 := yh (Kaa HB.out hb); clear hb))
     go_ret
     exact ⟨by rw [HN.out]; rfl, HB2.out⟩
  ·obtain rfl : j = l.length := by omega
   have hall := HI.out.1
   rw [List.take_length] at hall
   have HF := yh (And.intro (noAt_none hall) HI.out.2)
   clear HI hall
   go_wp2
   go_ret
   exact ⟨by rw [HF.out.1]; rfl, HF.out.2⟩
theorem hasBadC_any {w : World} (hE : Env w) {p : Option Addr} {c : Nat} {l : List ChangeD} (h : GRd CRd 11 w p c l) (ht : ∀ x ∈ l, totC x ≤ 900000) : Calls Tryz.prog 126 #[.slice p l.length c, .func (.func 127) #[] #[]] w fun e w' => e = .returned (.bool (!(l.all okC))) ∧ Below w.heap.size w w' := by
 have HV := yh (badCIdx_any hE h ht)
 have HG := yh (noAt_ge (f := okC) l)
 generalize l.all okC = r at *
 clear hE h ht
 go_enter Tryz.func126, Tryz.ntmps126
 go_wp2_with (go_at_call 153; refine HV.out.mono ?_; rintro e W1 ⟨rfl, hb⟩; have HB := yh hb; clear hb)
 go_ret
 refine ⟨?_, HB.out⟩
 rw [← HG.out]; rfl
theorem allC_any {w : World} (hE : Env w) {p : Option Addr} {c : Nat} {l : List ChangeD} (h : GRd CRd 11 w p c l) (ht : ∀ x ∈ l, totC x ≤ 900000) : Calls Tryz.prog 75 #[.slice p l.length c] w fun e w' => e = .returned (.bool (l.all okC)) ∧ Below w.heap.size w w' := by
 have HV := yh (hasBadC_any hE h ht)
 generalize l.all okC = r at *
 clear hE h ht
 go_enter Tryz.func75, Tryz.ntmps75
 go_wp2_with (go_at_call 126; refine HV.out.mono ?_; rintro e W1 ⟨rfl, hb⟩; have HB := yh hb; clear hb)
 go_ret
 refine ⟨?_, HB.out⟩
 cases r <;> rfl
def outC (l : List ChangeD) : List UInt8 := if l.all okC && decide (l.length ≤ 65536) then Kbr l else []
def errC (l : List ChangeD) : Int := if l.all okC then (if l.length ≤ 65536 then 0 else 3) else 2
theorem useC_of {c : ChangeD} (h : okC c = true) (hr : rngC c) (ht : totC c < 18446744073709551616) : useC c := by
 have hw := wf_of_okC h hr ht
 have hk := wfC_kind hw
 refine ⟨hk.1, hk.2, fun e => ?_, fun e => ?_, fun e => ⟨hr.2.1, hr.2.2.1⟩⟩
 ·unfold wfC toldC at hw
  rw [if_pos e] at hw
  rcases hw with ⟨_, _, _, h, _⟩ | ⟨k, _⟩ | ⟨k, _⟩ | ⟨k, _⟩
  ·exact h
  ·exact absurd k (by simp)
  ·exact absurd k (by simp)
  ·exact absurd k (by simp)
 ·unfold wfC toldC at hw
  rw [if_neg (by omega), if_pos e] at hw
  rcases hw with ⟨k, _⟩ | ⟨_, _, _, _, h⟩ | ⟨k, _⟩ | ⟨k, _⟩
  ·exact absurd k (by simp)
  ·exact h
  ·exact absurd k (by simp)
  ·exact absurd k (by simp)
theorem Kc7 {w : World} (hE : Env w) {p : Option Addr} {c : Nat} {l : List ChangeD} (h : GRd CRd 11 w p c l) (hr : ∀ x ∈ l, rngC x) (ht : (l.map totC).sum ≤ 900000) : Calls Tryz.prog 27 #[.slice p l.length c] w (Out w (outC l) (errC l)) := by
 have z1 : (l.length : Int) ≤ 140737488355328 := by have := h.1.2.1; omega
 have htx : ∀ x ∈ l, totC x ≤ 900000 := fun x hx => Nat.le_trans (Kb6 totC hx) ht
 have hall := allC_any hE h htx
 have hlen : (Kbr l).length ≤ 57600010 := by have := changesC_len hr (by omega); omega
 have huse : l.all okC = true → ∀ x ∈ l, useC x := fun ha x hx => useC_of (List.all_eq_true.1 ha x hx) (hr x hx) (by have := htx x hx; omega)
 have HC := yh hall
 have HX := yh (And.intro h (And.intro hlen huse))
 have HO := yh (And.intro (show outC l = if l.all okC && decide (l.length ≤ 65536) then Kbr l else [] from rfl) (show errC l = if l.all okC then (if l.length ≤ 65536 then 0 else 3) else 2 from rfl))
 clear hE h hr ht htx hall hlen huse
 generalize outC l = out at *
 generalize errC l = err at *
 cases ha : l.all okC with
 | false =>
   rw [ha] at HC
   have HA := yh ha
   clear ha
   go_enter Tryz.func27, Tryz.ntmps27
   go_wp2_with (go_at_call 75; refine HC.out.mono ?_; rintro e W1 ⟨rfl, hb⟩; have HB := yh hb; clear hb)
   go_ret2
   have e1 : out = [] := by rw [HO.out.1, HA.out]; rfl
   have e2 : err = 2 := by rw [HO.out.2, HA.out]; rfl
   rw [e1, e2]
   exact ⟨_, rfl, own_none _ _, HB.out⟩
 | true =>
   rw [ha] at HC
   by_cases hl : l.length ≤ 65536
   ·have z2 : ¬ (65536 : Int) < (l.length : Int) := by omega
    have e1 : out = Kbr l := by rw [HO.out.1, ha, decide_eq_true hl]; rfl
    have e2 : err = 0 := by rw [HO.out.2, ha, if_pos hl]; rfl
    have HEQ := yh (And.intro e1 e2)
    have HU := yh (HX.out.2.2 ha)
    clear ha e1 e2 hl HO
    go_enter Tryz.func27, Tryz.ntmps27
    go_wp2_with (first
     | (go_at_call 75; refine HC.out.mono ?_; rintro e w2 ⟨rfl, hb⟩;
        (
         have hnw := writer_new w2
         have hV := wvalue_any w2
         have HV := yh (rowC_tells ef_change Kax (HX.out.1.below (fun h => h.below hb) hb) hnw (by have := HX.out.2.1; unfold Kbr at this; simp only [List.length_nil]; omega) (fun y hy m o W cs h1 h2 h3 => wchange_any hV (HU.out y hy) h2 h1 h3))
         have HB := yh hb
         clear hb hnw hV))
     | (go_at_call 76; refine HV.out.mono ?_; rintro e w4 ⟨rfl, o, h4, t4⟩;
        (
         have hcell := Kab (o := 0) h4.box rfl
         have HF := yh h4
         clear h4 t4 HV)))
    go_ret2
    have h4 := HF.out
    rw [HEQ.out.1, HEQ.out.2]
    have := HB.out.size
    have hown := h4.own
    have e3 : ([] : List UInt8) ++ rowsC Kax l = Kbr l := rfl
    rw [e3] at hown
    exact ⟨o, rfl, hown.imp fun b _ hb => by have := hb.1; omega, Kaa HB.out h4.b⟩
   ·have z2 : (65536 : Int) < (l.length : Int) := by omega
    have e1 : out = [] := by rw [HO.out.1, ha, decide_eq_false hl]; rfl
    have e2 : err = 3 := by rw [HO.out.2, ha, if_neg hl]; rfl
    have HEQ := yh (And.intro e1 e2)
    clear ha e1 e2 hl HO HX
    go_enter Tryz.func27, Tryz.ntmps27
    go_wp2_with (go_at_call 75; refine HC.out.mono ?_; rintro e W1 ⟨rfl, hb⟩; have HB := yh hb; clear hb)
    go_ret2
    rw [HEQ.out.1, HEQ.out.2]
    exact ⟨_, rfl, own_none _ _, HB.out⟩
theorem vowns_of {α : Type} (f : α → V) {w : World} {P : Nat → Prop} : ∀ (l : List α) (xs : List (Array Value)), GOwns (fun w P a x => VOwn w P (f a) x) w P l xs → VOwns w P (l.map f) xs
 | [], xs, h => by
   have := h.1
   have e : xs = [] := List.eq_nil_of_length_eq_zero (by simpa using this)
   subst e
   rw [List.map_nil, VOwns]
 | a :: l, xs, h => by
   cases xs with
   | nil => have := h.1; simp at this
   | cons x q =>
     obtain ⟨y, h1, h2⟩ := h.2 0 a rfl
     cases h1
     rw [List.map_cons, VOwns]
     refine ⟨x, q, rfl, h2, vowns_of f l q ⟨by have := h.1; simpa using this, fun j v hv => ?_⟩⟩
     have := h.2 (j + 1) v (by simpa using hv)
     simpa using this
theorem GOwn.low {α : Type} {f : α → V} {w : World} {P : Nat → Prop} {v : Value} {l : List α} (h : GOwn (fun w P a x => VOwn w P (f a) x) 48 6 w P v l) : LOwn w P v (l.map f) := by
 obtain ⟨xs, h1, h2⟩ := h
 exact ⟨xs, by rw [List.length_map]; exact h1, vowns_of f l xs h2⟩
theorem el_pair : EL (fun w P (p : List UInt8 × V) x => VOwn w P p.2 x) 6 := ⟨fun h => VOwn.keep h, fun h => VOwn.imp h, VOwn.size6, VOwn.ones⟩
abbrev innerV (b : Nat) : Value := .func (.func 122) #[] #[.pointer (some ⟨b, 0, none⟩), .pointer (some ⟨b + 1, 0, none⟩)]
abbrev zeroC : Array Value := #[.int .i64 0, .bool false, .int .i64 0, .string ⟨#[]⟩, .slice none 0 0, .slice none 0 0]
structure VS (W : World) (q : Nat) (d : Int) (B : Nat) (cs : Array Value) (W' : World) : Prop where
 p2 : W'.heap[W.heap.size]? = some (.cells #[.pointer (some ⟨q, 0, none⟩)] 95 (0, 0))
 p3 : W'.heap[W.heap.size + 1]? = some (.cells #[.int .i64 d] 3 (0, 0))
 p4 : W'.heap[W.heap.size + 2]? = some (.cells zeroC 48 (0, 0))
 p5 : W'.heap[B]? = some (.cells cs 48 (0, 0))
 p6 : W'.heap[B + 1]? = some (.cells #[innerV W.heap.size] 170 (0, 0))
 lo : W.heap.size + 3 ≤ B
 ql : q < W.heap.size
 tr : RTo q W W'
section
variable {w W W' W'' : World} {q B : Nat} {d : Int} {cs : Array Value} {l' : List UInt8}
theorem VS.lt (h : VS W q d B cs W') : B + 1 < W'.heap.size := (Array.getElem?_eq_some_iff.1 h.p6).1
theorem VS.keep (h : VS W q d B cs W') (hs : W'.heap.size ≤ W''.heap.size) (hk : ∀ b, b < W.heap.size ∨ b = W.heap.size ∨ b = W.heap.size + 1 ∨ b = W.heap.size + 2 ∨ b = B ∨ b = B + 1 → b ≠ q → W''.heap[b]? = W'.heap[b]?) : VS W q d B cs W'' := by
 have hq := h.ql
 have hlo := h.lo
 exact ⟨(hk _ (by omega) (by omega)).trans h.p2, (hk _ (by omega) (by omega)).trans h.p3, (hk _ (by omega) (by omega)).trans h.p4, (hk _ (by omega) (by omega)).trans h.p5, (hk _ (by omega) (by omega)).trans h.p6, h.lo, h.ql,
  ⟨by have := h.tr.size; omega, fun b hb hqb => (hk b (.inl hb) hqb).trans (h.tr.keep b hb hqb)⟩⟩
theorem VS.step (h : VS W q d B cs W') (t : RTo q W' W'') : VS W q d B cs W'' :=
 h.keep t.size fun b hb hq => t.keep b (by have := h.lt; have := h.tr.size; have := h.lo; omega) hq
theorem VS.set (h : VS W q d B cs W') (k : Nat) (u : Value) : VS W q d B (cs.setIfInBounds k u) (W'.setCell ⟨B, k, none⟩ u) := by
 have hs : ∀ b, b ≠ B → (W'.setCell ⟨B, k, none⟩ u).heap[b]? = W'.heap[b]? := fun b hb => Below.heap_setCell _ _ _ _ hb
 have hlo := h.lo
 exact ⟨(hs _ (by omega)).trans h.p2, (hs _ (by omega)).trans h.p3, (hs _ (by omega)).trans h.p4, Kcw u h.p5, (hs _ (by omega)).trans h.p6, h.lo, h.ql,
  ⟨by have := h.tr.size; simp [World.setCell]; omega, fun b hb hqb => (hs b (by omega)).trans (h.tr.keep b hb hqb)⟩⟩
theorem VS.setR (h : VS W q d B cs W') (g : RSt 141 w W' q l') (k : Nat) (u : Value) : RSt 141 w (W'.setCell ⟨B, k, none⟩ u) q l' := by
 have hlo := h.lo
 have hq := h.ql
 exact g.other (Kbf g.b (by have := g.base; omega) u) (Below.heap_setCell _ _ _ _ (by show q ≠ B; omega))
theorem VS.fin (h : VS W q d B cs W') (hs : cs.size = 6) (h1 : ∀ u ∈ cs.toList, u.oneCell' = true) (g : RSt 141 w W' q l') :
 (loadVar 48 ⟨B, 0, none⟩).run Tryz.prog W' = .ok (.agg cs) W' ∧ (storeVar 48 ⟨W.heap.size + 2, 0, none⟩ (.agg cs)).run Tryz.prog W' = .ok () (W'.setRow (W.heap.size + 2) cs) ∧
 (loadVar 48 ⟨W.heap.size + 2, 0, none⟩).run Tryz.prog (W'.setRow (W.heap.size + 2) cs) = .ok (.agg cs) (W'.setRow (W.heap.size + 2) cs) ∧ RSt 141 w (W'.setRow (W.heap.size + 2) cs) q l' ∧ RTo q W (W'.setRow (W.heap.size + 2) cs) ∧ Below w.heap.size w (W'.setRow (W.heap.size + 2) cs) ∧
 (∀ (P : Nat → Prop) (v : V), (∀ b, P b → W.heap.size + 3 ≤ b) → VOwn W' P v cs → VOwn (W'.setRow (W.heap.size + 2) cs) (fun b => W.heap.size ≤ b) v cs) := by
 have ho : ∀ b, b ≠ W.heap.size + 2 → (W'.setRow (W.heap.size + 2) cs).heap[b]? = W'.heap[b]? := fun b hb => setRow_other W' _ b cs hb
 have hsz : (W'.setRow (W.heap.size + 2) cs).heap.size = W'.heap.size := by simp
 have hq := h.ql
 have hbase := g.base
 have hB : Below w.heap.size w (W'.setRow (W.heap.size + 2) cs) := by
  have hgs := g.b.size
  obtain ⟨b1, b2, b3, b4, b5⟩ := g.b
  exact ⟨b1, b2, b3, by rw [hsz]; exact hgs, fun b hb => (ho b (by omega)).trans (b5 b hb)⟩
 refine ⟨StT.get Kbo hs h.p5, StT.put Kbo hs h1 h.p4 rfl, StT.get Kbo hs (setRow_heap W' _ zeroC cs _ _ h.p4), g.other hB (ho q (by omega)), ⟨by rw [hsz]; exact h.tr.size, fun b hb hqb => (ho b (by omega)).trans (h.tr.keep b hb hqb)⟩, hB, fun P v hP hv => ?_⟩
 exact (hv.keep (w' := W'.setRow (W.heap.size + 2) cs) fun b hb _ => ho b (by have := hP b hb; omega)).imp fun b _ hb => by have := hP b hb; omega
end
theorem Kc6 {w : World} {ad : Addr} {n : Int} {u : Value} (hc : w.cell? ad = some u) (hf : w.frozen? ad = false) : (storeVar 2 ad (.int .i64 n)).run Tryz.prog w = .ok () (w.setCell ad (.int .i64 n)) := by
 simp [storeVar, go_sem, hc, hf]
theorem put_boo {w : World} {ad : Addr} {n : Bool} {u : Value} (hc : w.cell? ad = some u) (hf : w.frozen? ad = false) : (storeVar 4 ad (.bool n)).run Tryz.prog w = .ok () (w.setCell ad (.bool n)) := by
 simp [storeVar, go_sem, hc, hf]
theorem put_str {w : World} {ad : Addr} {s : ByteArray} {u : Value} (hc : w.cell? ad = some u) (hf : w.frozen? ad = false) : (storeVar 9 ad (.string s)).run Tryz.prog w = .ok () (w.setCell ad (.string s)) := by
 simp [storeVar, go_sem, hc, hf]
theorem put_vas {w : World} {ad : Addr} {p : Option Addr} {n c : Nat} {u : Value} (hc : w.cell? ad = some u) (hf : w.frozen? ad = false) : (storeVar 46 ad (.slice p n c)).run Tryz.prog w = .ok () (w.setCell ad (.slice p n c)) := by
 simp [storeVar, go_sem, hc, hf]
theorem put_strs {w : World} {ad : Addr} {p : Option Addr} {n c : Nat} {u : Value} (hc : w.cell? ad = some u) (hf : w.frozen? ad = false) : (storeVar 45 ad (.slice p n c)).run Tryz.prog w = .ok () (w.setCell ad (.slice p n c)) := by
 simp [storeVar, go_sem, hc, hf]
theorem Kcd {d : Nat} {l : List UInt8} (h : 0 < l.length) : rdVal (d + 1) l =
 if (l[0]).toNat = 0 then some (.mk 0 false 0 [] [] [], l.drop 1)
 else if (l[0]).toNat = 1 then rdBool (l.drop 1)
 else if (l[0]).toNat = 2 then (rdN 0 0 (l.drop 1)).map fun p => (.mk 2 false (unzz p.1) [] [] [], p.2)
 else if (l[0]).toNat = 3 then (Ka4 (l.drop 1)).map fun p => (.mk 3 false 0 p.1 [] [], p.2)
 else if (l[0]).toNat = 4 then (Kas (rdVal d) (l.drop 1)).map fun p => (.mk 4 false 0 [] [] p.1, p.2)
 else if (l[0]).toNat = 5 then (Kas (Dec.seq Ka4 (rdVal d)) (l.drop 1)).map fun p => (.mk 5 false 0 [] (p.1.map Prod.fst) (p.1.map Prod.snd), p.2)
 else if (l[0]).toNat = 6 ∨ (l[0]).toNat = 7 then (rdN 0 0 (l.drop 1)).map fun p => (.mk ((l[0]).toNat : Int) false (toI p.1) [] [] [], p.2)
 else none := by
 cases l with
 | nil => simp at h
 | cons c r => rw [rdVal]; rfl
theorem rdVal_nil (d : Nat) : rdVal d [] = none := by cases d <;> rw [rdVal]
theorem rrowsV_any {α : Type} {E : World → (Nat → Prop) → α → Array Value → Prop} (hE : EL E 6) (d : Dec α) {w W : World} {q : Nat} {l : List UInt8} {kv0 : Value} {a1 a2 : Option Addr} (hl : l.length ≤ 1000000)
 (h : RSt 141 w W q l) (J : List α → World → Value → Prop) (Jx : World → Prop) (hJ : KeepJ w W q J) (hx : ∀ m W' kv, J m W' kv → Jx W') (h0 : J [] W kv0)
 (one : ∀ m W1 kv l', J m W1 kv → W.heap.size ≤ W1.heap.size → RSt 141 w W1 q l' → l'.length ≤ 1000000 → m.length ≤ 1000000 → Calls Tryz.prog 122 #[.pointer a1, .pointer a2] W1 fun e W2 => match d l' with
   | some (x, s) => ∃ cs kv', e = .returned (.agg cs) ∧ ROne 141 E w W q J m W1 kv x s cs kv' W2 ∧ s.length ≤ l'.length
   | none => e = given ∧ Jx W2 ∧ Below w.heap.size w W2) :
 Calls Tryz.prog 124 #[.pointer (some ⟨q, 0, none⟩), .func (.func 122) #[] #[.pointer a1, .pointer a2]] W (RPost 141 E 48 6 w W q J Jx l.length (Kas d l)) := by
 have hqW := h.lt
 have HN := yh (Kat h)
 have HO := yh one
 have HJ := yh hJ
 have HX := yh hx
 have H0 := yh h0
 clear one hJ hx h0 h
 cases hr : rdN 0 0 l with
 | none =>
   rw [hr] at HN
   clear HO
   go_enter Tryz.func124, Tryz.ntmps124
   go_wp2_with (go_at_call 55; refine HN.out.mono ?_; rintro e W1 h1; obtain ⟨t1, hb1, rfl⟩ := h1.none; have H1 := yh (And.intro t1 hb1); clear h1 t1 hb1)
   exact ⟨rfl, RPost.of_none (Kcl hr) ⟨HX.out _ _ _ (HJ.out.keep H0.out H1.out.1.size H1.out.2 (fun b hb hq _ => H1.out.1.keep b hb hq)), H1.out.2⟩⟩
 | some p =>
   obtain ⟨n, r⟩ := p
   rw [hr] at HN
   have hn := Kde hr
   have hrl : r.length ≤ l.length := by
    obtain ⟨h1, _⟩ := Kb8.sound _ _ _ hr
    rw [h1, List.length_append]; omega
   have z1 : (n : Int) < 18446744073709551616 := by omega
   have z2 : (r.length : Int) ≤ 1000000 := by omega
   by_cases hnr : n ≤ r.length
   ·have HRO := yh (Kdf (d := d) hr hnr)
    have g1 : (n : Int) ≤ (r.length : Int) := by omega
    go_enter Tryz.func124, Tryz.ntmps124
    go_wp2_with (first
     | (go_at_call 55; refine HN.out.mono ?_; rintro e W1 h1
        (
         obtain ⟨t1, hb1, v1, rfl, rfl, s1⟩ := h1.some
         obtain ⟨p1, c1, hbx, _⟩ := s1.box
         have hcq := Kab (o := 0) hbx rfl
         have H1 := yh (And.intro t1 (And.intro hb1 s1))
         clear h1 s1 t1 hb1 hbx))
     | (go_at_call 105; refine (Kap _).mono ?_; rintro e W2 ⟨rfl, rfl⟩))
    go_loopw [6, 21] (fun ov i wr => ∃ (m : List α) (a : Option Addr) (n1 c1 : Nat), m.length ≤ n ∧ i = .int .u64 (m.length : Int) ∧ ov = .slice a n1 c1 ∧ Hid (∃ kv l', RInv 141 E 48 6 w W q J m wr kv (.slice a n1 c1) l' ∧ RepAt d n r m l' ∧ l'.length ≤ r.length)) (fun _ i _ => n - (intOf i).toNat)
    case atStart => exact ⟨[], none, 0, 0, Nat.zero_le _, rfl, rfl, yh ⟨kv0, r, ⟨H1.out.2.2, HJ.out.keep H0.out H1.out.1.size H1.out.2.1 (fun b hb hq _ => H1.out.1.keep b hb hq), GIn.start, H1.out.1.size, hqW⟩, RepAt.start _ _ _, Nat.le_refl _⟩⟩
    case round =>
     obtain ⟨m, a, n1, c1, hm, rfl, rfl, HI⟩ := hrel
     obtain ⟨kv, l', hinv, hrep, hll⟩ := HI.out
     clear HI H1 HN H0 hcq
     by_cases hlt : m.length < n
     ·have g2 : (m.length : Int) < (n : Int) := by omega
      have hone := HO.out m wr kv l' hinv.j hinv.size hinv.st (by omega) (by omega)
      cases hd : d l' with
      | none =>
        rw [hd] at hone
        have hfail := hrep.fail hlt hd
        have HC := yh hone
        have HFL := yh (HRO.out.trans hfail)
        clear hone hinv hrep hfail
        go_wp2_with (go_at_call 122; refine HC.out.mono ?_; rintro e W2 ⟨rfl, hg, hbw⟩; have HG := yh (And.intro hg hbw); clear hg hbw HC)
        exact ⟨rfl, RPost.of_none HFL.out HG.out⟩
      | some p =>
        obtain ⟨x, s⟩ := p
        rw [hd] at hone
        have hstep := hrep.step hlt hd
        have HC := yh hone
        have HV := yh (And.intro hinv hstep)
        have hlt1 : m.length + 1 ≤ n := hlt
        have hm1 : m.length ≤ 1000000 := by omega
        clear hone hinv hrep hstep
        go_wp2_with (first
         | (go_at_call 122; refine HC.out.mono ?_; rintro e W2 ⟨cs, kv2, rfl, hone, hsl⟩
            (
             have hs := hE.size hone.it
             have hones := hE.ones hone.it
             have hbs := Kao (P := Tryz.prog) (w := W2.alloc (.cells cs 48)) (v := .agg cs) Tryz.underlying46 Tryz.sizeOf48 Tryz.zeroValue48 hs (by omega) (by omega)
             obtain ⟨v4, W4, ha, hinv4⟩ := HV.out.1.step hE gt_val HJ.out hone hm1 46 (Kac (w := W2) (.cells cs 48))
             obtain ⟨a4, n4, c4, rfl⟩ : ∃ a4 n4 c4, v4 = .slice a4 n4 c4 := by obtain ⟨p, c, e⟩ := hinv4.row.slice; exact ⟨_, _, _, e⟩
             have HS := yh (StT.fresh Kbo hs hones (W := W2))
             have HL := yh (StT.get Kbo hs (heap_alloc_new W2 (.cells cs 48)))
             have HB := yh hbs
             have HA := yh ha
             have HR := yh (And.intro hinv4 (show s.length ≤ r.length by omega))
             clear hs hones hbs ha hinv4
             clear hone HC))
         | ((with_reducible apply Kad); exact HS.out _ rfl; exact rfl; exact rfl; clear HS)
         | ((with_reducible apply Kal); exact HL.out; exact rfl; clear HL)
         | ((with_reducible apply op_bs1); exact HB.out; exact rfl; clear HB)
         | ((with_reducible apply Kbc); exact HA.out; exact rfl; exact rfl))
        go_roundw
        case rel => exact ⟨m ++ [x], a4, n4, c4, by rw [List.length_append]; exact hlt1, by rw [List.length_append]; go_num, rfl, yh ⟨kv2, s, HR.out.1, HV.out.2, HR.out.2⟩⟩
        case measure => simp [intOf]; omega
     ·have hme : m.length = n := by omega
      have g2 : ¬ ((m.length : Int) < (n : Int)) := by omega
      have hdone := hrep.done hme
      have HD := yh (HRO.out.trans hdone)
      have HF := yh (And.intro hinv (show l'.length ≤ l.length by omega))
      clear hinv hrep hdone
      go_wp2
      go_ret
      exact RPost.of_some HD.out HF.out.1 HF.out.2
   ·have HRO := yh (Kca (d := d) hr hnr)
    have g1 : ¬ ((n : Int) ≤ (r.length : Int)) := by omega
    clear HO
    go_enter Tryz.func124, Tryz.ntmps124
    go_wp2_with (first
     | (go_at_call 55; refine HN.out.mono ?_; rintro e W1 h1
        (
         obtain ⟨t1, hb1, v1, rfl, rfl, s1⟩ := h1.some
         obtain ⟨p1, c1, hbx, _⟩ := s1.box
         have hcq := Kab (o := 0) hbx rfl
         have H1 := yh (And.intro t1 hb1)
         clear h1 s1 t1 hb1 hbx))
     | (go_at_call 105; refine (Ka1 _).mono ?_; rintro e W2 ⟨rfl, rfl⟩))
    exact ⟨rfl, RPost.of_none HRO.out ⟨HX.out _ _ _ (HJ.out.keep H0.out H1.out.1.size H1.out.2 (fun b hb hq _ => H1.out.1.keep b hb hq)), H1.out.2⟩⟩
theorem rrowsM_any {α : Type} {E : World → (Nat → Prop) → α → Array Value → Prop} (hE : EL E 6) (d : Dec α) {w W : World} {q : Nat} {l : List UInt8} {kv0 : Value} {a1 a2 a3 : Option Addr} (hl : l.length ≤ 1000000)
 (h : RSt 141 w W q l) (J : List α → World → Value → Prop) (Jx : World → Prop) (hJ : KeepJ w W q J) (hx : ∀ m W' kv, J m W' kv → Jx W') (h0 : J [] W kv0)
 (one : ∀ m W1 kv l', J m W1 kv → W.heap.size ≤ W1.heap.size → RSt 141 w W1 q l' → l'.length ≤ 1000000 → m.length ≤ 1000000 → Calls Tryz.prog 125 #[.pointer a1, .pointer a2, .pointer a3] W1 fun e W2 => match d l' with
   | some (x, s) => ∃ cs kv', e = .returned (.agg cs) ∧ ROne 141 E w W q J m W1 kv x s cs kv' W2 ∧ s.length ≤ l'.length
   | none => e = given ∧ Jx W2 ∧ Below w.heap.size w W2) :
 Calls Tryz.prog 124 #[.pointer (some ⟨q, 0, none⟩), .func (.func 125) #[] #[.pointer a1, .pointer a2, .pointer a3]] W (RPost 141 E 48 6 w W q J Jx l.length (Kas d l)) := by
 have hqW := h.lt
 have HN := yh (Kat h)
 have HO := yh one
 have HJ := yh hJ
 have HX := yh hx
 have H0 := yh h0
 clear one hJ hx h0 h
 cases hr : rdN 0 0 l with
 | none =>
   rw [hr] at HN
   clear HO
   go_enter Tryz.func124, Tryz.ntmps124
   go_wp2_with (go_at_call 55; refine HN.out.mono ?_; rintro e W1 h1; obtain ⟨t1, hb1, rfl⟩ := h1.none; have H1 := yh (And.intro t1 hb1); clear h1 t1 hb1)
   exact ⟨rfl, RPost.of_none (Kcl hr) ⟨HX.out _ _ _ (HJ.out.keep H0.out H1.out.1.size H1.out.2 (fun b hb hq _ => H1.out.1.keep b hb hq)), H1.out.2⟩⟩
 | some p =>
   obtain ⟨n, r⟩ := p
   rw [hr] at HN
   have hn := Kde hr
   have hrl : r.length ≤ l.length := by
    obtain ⟨h1, _⟩ := Kb8.sound _ _ _ hr
    rw [h1, List.length_append]; omega
   have z1 : (n : Int) < 18446744073709551616 := by omega
   have z2 : (r.length : Int) ≤ 1000000 := by omega
   by_cases hnr : n ≤ r.length
   ·have HRO := yh (Kdf (d := d) hr hnr)
    have g1 : (n : Int) ≤ (r.length : Int) := by omega
    go_enter Tryz.func124, Tryz.ntmps124
    go_wp2_with (first
     | (go_at_call 55; refine HN.out.mono ?_; rintro e W1 h1
        (
         obtain ⟨t1, hb1, v1, rfl, rfl, s1⟩ := h1.some
         obtain ⟨p1, c1, hbx, _⟩ := s1.box
         have hcq := Kab (o := 0) hbx rfl
         have H1 := yh (And.intro t1 (And.intro hb1 s1))
         clear h1 s1 t1 hb1 hbx))
     | (go_at_call 105; refine (Kap _).mono ?_; rintro e W2 ⟨rfl, rfl⟩))
    go_loopw [6, 21] (fun ov i wr => ∃ (m : List α) (a : Option Addr) (n1 c1 : Nat), m.length ≤ n ∧ i = .int .u64 (m.length : Int) ∧ ov = .slice a n1 c1 ∧ Hid (∃ kv l', RInv 141 E 48 6 w W q J m wr kv (.slice a n1 c1) l' ∧ RepAt d n r m l' ∧ l'.length ≤ r.length)) (fun _ i _ => n - (intOf i).toNat)
    case atStart => exact ⟨[], none, 0, 0, Nat.zero_le _, rfl, rfl, yh ⟨kv0, r, ⟨H1.out.2.2, HJ.out.keep H0.out H1.out.1.size H1.out.2.1 (fun b hb hq _ => H1.out.1.keep b hb hq), GIn.start, H1.out.1.size, hqW⟩, RepAt.start _ _ _, Nat.le_refl _⟩⟩
    case round =>
     obtain ⟨m, a, n1, c1, hm, rfl, rfl, HI⟩ := hrel
     obtain ⟨kv, l', hinv, hrep, hll⟩ := HI.out
     clear HI H1 HN H0 hcq
     by_cases hlt : m.length < n
     ·have g2 : (m.length : Int) < (n : Int) := by omega
      have hone := HO.out m wr kv l' hinv.j hinv.size hinv.st (by omega) (by omega)
      cases hd : d l' with
      | none =>
        rw [hd] at hone
        have hfail := hrep.fail hlt hd
        have HC := yh hone
        have HFL := yh (HRO.out.trans hfail)
        clear hone hinv hrep hfail
        go_wp2_with (go_at_call 125; refine HC.out.mono ?_; rintro e W2 ⟨rfl, hg, hbw⟩; have HG := yh (And.intro hg hbw); clear hg hbw HC)
        exact ⟨rfl, RPost.of_none HFL.out HG.out⟩
      | some p =>
        obtain ⟨x, s⟩ := p
        rw [hd] at hone
        have hstep := hrep.step hlt hd
        have HC := yh hone
        have HV := yh (And.intro hinv hstep)
        have hlt1 : m.length + 1 ≤ n := hlt
        have hm1 : m.length ≤ 1000000 := by omega
        clear hone hinv hrep hstep
        go_wp2_with (first
         | (go_at_call 125; refine HC.out.mono ?_; rintro e W2 ⟨cs, kv2, rfl, hone, hsl⟩
            (
             have hs := hE.size hone.it
             have hones := hE.ones hone.it
             have hbs := Kao (P := Tryz.prog) (w := W2.alloc (.cells cs 48)) (v := .agg cs) Tryz.underlying46 Tryz.sizeOf48 Tryz.zeroValue48 hs (by omega) (by omega)
             obtain ⟨v4, W4, ha, hinv4⟩ := HV.out.1.step hE gt_val HJ.out hone hm1 46 (Kac (w := W2) (.cells cs 48))
             obtain ⟨a4, n4, c4, rfl⟩ : ∃ a4 n4 c4, v4 = .slice a4 n4 c4 := by obtain ⟨p, c, e⟩ := hinv4.row.slice; exact ⟨_, _, _, e⟩
             have HS := yh (StT.fresh Kbo hs hones (W := W2))
             have HL := yh (StT.get Kbo hs (heap_alloc_new W2 (.cells cs 48)))
             have HB := yh hbs
             have HA := yh ha
             have HR := yh (And.intro hinv4 (show s.length ≤ r.length by omega))
             clear hs hones hbs ha hinv4
             clear hone HC))
         | ((with_reducible apply Kad); exact HS.out _ rfl; exact rfl; exact rfl; clear HS)
         | ((with_reducible apply Kal); exact HL.out; exact rfl; clear HL)
         | ((with_reducible apply op_bs1); exact HB.out; exact rfl; clear HB)
         | ((with_reducible apply Kbc); exact HA.out; exact rfl; exact rfl))
        go_roundw
        case rel => exact ⟨m ++ [x], a4, n4, c4, by rw [List.length_append]; exact hlt1, by rw [List.length_append]; go_num, rfl, yh ⟨kv2, s, HR.out.1, HV.out.2, HR.out.2⟩⟩
        case measure => simp [intOf]; omega
     ·have hme : m.length = n := by omega
      have g2 : ¬ ((m.length : Int) < (n : Int)) := by omega
      have hdone := hrep.done hme
      have HD := yh (HRO.out.trans hdone)
      have HF := yh (And.intro hinv (show l'.length ≤ l.length by omega))
      clear hinv hrep hdone
      go_wp2
      go_ret
      exact RPost.of_some HD.out HF.out.1 HF.out.2
   ·have HRO := yh (Kca (d := d) hr hnr)
    have g1 : ¬ ((n : Int) ≤ (r.length : Int)) := by omega
    clear HO
    go_enter Tryz.func124, Tryz.ntmps124
    go_wp2_with (first
     | (go_at_call 55; refine HN.out.mono ?_; rintro e W1 h1
        (
         obtain ⟨t1, hb1, v1, rfl, rfl, s1⟩ := h1.some
         obtain ⟨p1, c1, hbx, _⟩ := s1.box
         have hcq := Kab (o := 0) hbx rfl
         have H1 := yh (And.intro t1 hb1)
         clear h1 s1 t1 hb1 hbx))
     | (go_at_call 105; refine (Ka1 _).mono ?_; rintro e W2 ⟨rfl, rfl⟩))
    exact ⟨rfl, RPost.of_none HRO.out ⟨HX.out _ _ _ (HJ.out.keep H0.out H1.out.1.size H1.out.2 (fun b hb hq _ => H1.out.1.keep b hb hq)), H1.out.2⟩⟩
theorem sub_rdB {W : World} {a : Option Addr} {n c : Nat} {l : List UInt8} (h : RdB W (.slice a n c) l) (lo hi : Option Int) (l0 h0 : Nat)
 (hlo : ∀ i, lo = some i → i = (l0 : Int)) (hlo' : lo = none → l0 = 0) (hhi : ∀ i, hi = some i → i = (h0 : Int)) (hhi' : hi = none → h0 = n) (h1 : l0 ≤ h0) (h2 : h0 ≤ n) :
 ∃ a', (∀ W', (Instr.sliceAt 26 (.slice a n c) (lo.map (.int .i64)) (hi.map (.int .i64)) none).run Tryz.prog W' = .ok (.slice a' (h0 - l0) (c - l0)) W') ∧
  RdB W (.slice a' (h0 - l0) (c - l0)) ((l.drop l0).take (h0 - l0)) ∧ (∀ g, (Value.slice a' (h0 - l0) (c - l0)).ownBlock = some g → (Value.slice a n c).ownBlock = some g) := by
 obtain ⟨a1, cap, heq, ⟨hn, hm, hz⟩, hcell⟩ := h
 cases heq
 have hlen : ((l.drop l0).take (h0 - l0)).length = h0 - l0 := by rw [List.length_take, List.length_drop]; omega
 refine ⟨_, fun W' => by rw [Kbn Tryz.underlying26]; exact Kd7 (P := Tryz.prog) Tryz.underlying26 Tryz.sizeOf5 a _ c lo hi l0 h0 hlo hlo' hhi hhi' h1 (by omega) W', ?_, ?_⟩
 ·refine ⟨_, _, by rw [hlen], ⟨by omega, by omega, fun e => ?_⟩, fun ad had => ?_⟩
  ·split at e
   ·omega
   ·cases a with
    | none => have := hz rfl; omega
    | some ad => cases e
  ·split at had
   ·rename_i hc
    subst had
    obtain ⟨hs, hcl⟩ := hcell ad rfl
    refine ⟨fun hne => hs fun e => hne (by rw [e]; simp), fun i b hi => ?_⟩
    have : i < h0 - l0 := by
     have := (List.getElem?_eq_some_iff.1 hi).1; omega
    omega
   ·cases a with
    | none => cases had
    | some ad0 =>
      obtain ⟨hs, hcl⟩ := hcell ad0 rfl
      by_cases hl0 : l = []
      ·subst hl0
       exact ⟨fun h => absurd (by simp) h, fun i b hi => (by simp at hi)⟩
      replace hs := hs hl0
      obtain ⟨b0, o0, sp0⟩ := ad0
      simp only at hs; subst hs
      simp only [Option.map_some, Ka9, Option.some.injEq] at had
      subst had
      refine ⟨fun _ => rfl, fun i b hi => ?_⟩
      have hi' : l[l0 + i]? = some b := by
       rw [List.getElem?_take] at hi
       split at hi
       ·rwa [List.getElem?_drop] at hi
       ·cases hi
      have := hcl (l0 + i) b hi'
      simpa [Nat.add_assoc] using this
 ·intro g hg
  cases a with
  | none => split at hg <;> cases hg
  | some ad0 =>
    split at hg
    ·exact hg
    ·obtain ⟨b0, o0, sp0⟩ := ad0
     have e : ∀ (A : Addr) k, (A.add k).block = A.block := fun A k => by unfold Addr.add; split <;> rfl
     rw [← hg]; exact congrArg some (e _ _).symm
theorem bound_u {n y : Nat} (h : n ≤ y) (code : BoundsCode) : Instr.sliceBound (.int .u64 (n : Int)) y code = Instr.sliceBound (.int .i64 (n : Int)) y code := by
 unfold Instr.sliceBound
 simp [asIntOf, h]
theorem slice_hi (a : Option Addr) (len cap n : Nat) (h : n ≤ cap) (W : World) : (Instr.slice 26 (.slice a len cap) none (some (.int .u64 (n : Int))) none).run Tryz.prog W = (Instr.slice 26 (.slice a len cap) none (some (.int .i64 (n : Int))) none).run Tryz.prog W := by
 have e := fun code => bound_u h code
 have hb : Instr.sliceBounds true len cap none (some (.int .u64 (n : Int))) none = Instr.sliceBounds true len cap none (some (.int .i64 (n : Int))) none := by simp only [Instr.sliceBounds, pure_bind, e]
 simp only [Instr.slice, Sem.run_bind, run_underlying Tryz.underlying26, Result.andThen_ok, hb]
theorem slice_lo (a : Option Addr) (len cap n : Nat) (h : n ≤ len) (W : World) : (Instr.slice 26 (.slice a len cap) (some (.int .u64 (n : Int))) none none).run Tryz.prog W = (Instr.slice 26 (.slice a len cap) (some (.int .i64 (n : Int))) none none).run Tryz.prog W := by
 have e := fun code => bound_u h code
 have hb : Instr.sliceBounds true len cap (some (.int .u64 (n : Int))) none none = Instr.sliceBounds true len cap (some (.int .i64 (n : Int))) none none := by simp only [Instr.sliceBounds, pure_bind, e]
 simp only [Instr.slice, Sem.run_bind, run_underlying Tryz.underlying26, Result.andThen_ok, hb]
theorem foldl_push8 (l : List UInt8) : ∀ s : ByteArray, (l.map fun b => ((b.toNat : Int))).foldl (fun r n => r.push (UInt8.ofNat n.toNat)) s = ⟨s.data ++ l.toArray⟩ := by
 induction l with
 | nil => intro s; simp
 | cons b l ih =>
   intro s
   simp only [List.map_cons, List.foldl_cons]
   rw [ih]
   congr 1
   simp [ByteArray.push]
theorem bytes_str {w : World} {a : Option Addr} {n c : Nat} {l : List UInt8} (h : RdB w (.slice a n c) l) : (convert 26 9 (.slice a n c)).run Tryz.prog w = .ok (.string (strB l)) w := by
 rw [run_convert_bytes_string w _ _ 5 _ _ _ Tryz.underlying26 Tryz.underlying5 Tryz.underlying9]
 obtain ⟨a', cap, heq, h1, h2⟩ := h
 cases heq
 cases a with
 | none =>
   have hn : l = [] := List.eq_nil_of_length_eq_zero (by have := h1.2.2 rfl; omega)
   subst hn
   rfl
 | some ad =>
   have hcell := RdB.at (w := w) (c := c) ⟨_, _, rfl, h1, h2⟩
   have hl := run_loadCells_list (P := Tryz.prog) w ad ((l.map fun b => ((b.toNat : Int))).map (Value.int .u8)) (fun j v hv => by
    simp only [List.map_map, List.getElem?_map, Option.map_eq_some_iff] at hv
    obtain ⟨x, hx, rfl⟩ := hv
    exact hcell j x hx)
   simp only [List.length_map] at hl
   rw [run_bytesToString w ad l.length c _ hl, foldl_push8]
   simp [strB]
theorem rd_cap {W : World} {p : Option Addr} {n c : Nat} {l : List UInt8} (h : RdB W (.slice p n c) l) : n ≤ c := by
 obtain ⟨a1, cap, heq, ⟨hn, hm, hz⟩, _⟩ := h
 cases heq; exact hn
theorem Kdy {w W : World} {q : Nat} {l : List UInt8} (h : RSt 141 w W q l) (hl : l.length ≤ 1000000) :
 Calls Tryz.prog 107 #[.pointer (some ⟨q, 0, none⟩)] W (Reads w W q (Ka4 l) fun s v _ => v = .string (strB s)) := by
 have HN := yh (Kat h)
 clear h
 cases hr : rdN 0 0 l with
 | none =>
   rw [hr] at HN
   rw [rdText_none hr]
   go_enter Tryz.func107, Tryz.ntmps107
   go_wp2_with (go_at_call 55; refine HN.out.mono ?_; rintro e W1 h1; obtain ⟨t1, hb1, rfl⟩ := h1.none; have H1 := yh (And.intro t1 hb1); clear h1 t1 hb1)
   exact ⟨rfl, H1.out.1, H1.out.2, rfl⟩
 | some p =>
   obtain ⟨n, r⟩ := p
   rw [hr] at HN
   have hn := Kde hr
   have hrl : r.length ≤ l.length := by
    obtain ⟨h1, _⟩ := Kb8.sound _ _ _ hr
    rw [h1, List.length_append]; omega
   have z1 : (n : Int) < 18446744073709551616 := by omega
   have z2 : (r.length : Int) ≤ 1000000 := by omega
   by_cases hnr : n ≤ r.length
   ·rw [rdText_of hr hnr]
    have g1 : (n : Int) ≤ (r.length : Int) := by omega
    go_enter Tryz.func107, Tryz.ntmps107
    go_wp2_with (first
     | (go_at_call 55; refine HN.out.mono ?_; rintro e W1 h1
        (
         obtain ⟨t1, hb1, v1, rfl, rfl, s1⟩ := h1.some
         obtain ⟨p1, c1, p2, c2, hbx, hrd, hsl, hst, hto⟩ := s1.rest hnr
         obtain ⟨a3, hs3, hrd3, _⟩ := sub_rdB hrd none (some (n : Int)) 0 n (by simp) (by simp) (by simp) (by simp) (Nat.zero_le _) hnr
         simp only [Nat.sub_zero, List.drop_zero, Option.map_none, Option.map_some] at hs3 hrd3
         have hcq := Kab (o := 0) hbx rfl
         have hcap := rd_cap hrd
         have HS1 := yh (fun W' => (Kbn Tryz.underlying26 _ _ _ _ W').trans ((slice_hi p1 r.length c1 n (by omega) W').trans ((Kbn Tryz.underlying26 _ _ _ _ W').symm.trans (hs3 W'))))
         have HCV := yh (bytes_str hrd3)
         have HS2 := yh (fun W' => (Kbn Tryz.underlying26 _ _ _ _ W').trans ((slice_lo p1 r.length c1 n hnr W').trans (hsl W')))
         have HST := yh (put_bytesR (p := p2) (n := r.length - n) (c := c2) hcq (Kav (o := 0) hbx))
         have H1 := yh (And.intro (t1.trans hto) hst)
         clear h1 s1 t1 hb1 hbx hrd hsl hst hto hs3 hrd3))
     | (go_at_call 105; refine (Kap _).mono ?_; rintro e W2 ⟨rfl, rfl⟩)
     | ((with_reducible apply op_slice); exact HS1.out _; exact rfl; exact rfl; exact rfl; exact rfl)
     | ((with_reducible apply Kby); exact HCV.out; exact rfl)
     | ((with_reducible apply op_slice); exact HS2.out _; exact rfl; exact rfl; exact rfl; exact rfl)
     | ((with_reducible apply Kad); exact HST.out; exact rfl; exact rfl))
    go_ret
    exact ⟨H1.out.1, H1.out.2.b, _, rfl, rfl, H1.out.2⟩
   ·rw [rdText_short hr hnr]
    have g1 : ¬ ((n : Int) ≤ (r.length : Int)) := by omega
    go_enter Tryz.func107, Tryz.ntmps107
    go_wp2_with (first
     | (go_at_call 55; refine HN.out.mono ?_; rintro e W1 h1
        (
         obtain ⟨t1, hb1, v1, rfl, rfl, s1⟩ := h1.some
         obtain ⟨p1, c1, hbx, _⟩ := s1.box
         have hcq := Kab (o := 0) hbx rfl
         have H1 := yh (And.intro t1 hb1)
         clear h1 s1 t1 hb1 hbx))
     | (go_at_call 105; refine (Ka1 _).mono ?_; rintro e W2 ⟨rfl, rfl⟩))
    exact ⟨rfl, H1.out.1, H1.out.2, rfl⟩
def okVal (W : World) (v : V) (x : Value) (W' : World) : Prop := ∃ cs, x = .agg cs ∧ VOwn W' (fun b => W.heap.size ≤ b) v cs
def RVal (w : World) (d : Nat) : Prop := ∀ (W : World) (q : Nat) (l : List UInt8), RSt 141 w W q l → l.length ≤ 1000000 → Calls Tryz.prog 71 #[.pointer (some ⟨q, 0, none⟩), .int .i64 (d : Int)] W (Reads w W q (rdVal d l) (okVal W))
theorem Kd6 (W : World) (P : Nat → Prop) (k : Int) (b : Bool) (n : Int) (t : List UInt8) : VOwn W P (.mk k b n t [] []) #[.int .i64 k, .bool b, .int .i64 n, .string (strB t), .slice none 0 0, .slice none 0 0] :=
 Kck.2 ⟨_, _, rfl, ⟨⟨by simp, .inl ⟨rfl, rfl⟩⟩, fun g hg => by simp [Value.ownBlock] at hg⟩, [], ⟨⟨by simp, .inl ⟨rfl, rfl⟩⟩, fun g hg => by simp [Value.ownBlock] at hg⟩, by rw [VOwns]⟩
theorem ones6 (k : Int) (b : Bool) (n : Int) (t : ByteArray) {vk vl : Value} (h1 : vk.oneCell' = true) (h2 : vl.oneCell' = true) : ∀ u ∈ (#[.int .i64 k, .bool b, .int .i64 n, .string t, vk, vl] : Array Value).toList, u.oneCell' = true := by
 intro u hu
 simp only [List.mem_cons, List.not_mem_nil, or_false] at hu
 rcases hu with rfl | rfl | rfl | rfl | rfl | rfl <;> first | rfl | assumption
theorem rinner_any {w W0 W : World} {d B : Nat} {cs : Array Value} {q : Nat} {l : List UInt8} (hv : RVal w d) (hd : d ≤ 64) (hs : VS W0 q ((d : Int) + 1) B cs W) (h : RSt 141 w W q l) (hl : l.length ≤ 1000000) :
 Calls Tryz.prog 122 #[.pointer (some ⟨W0.heap.size, 0, none⟩), .pointer (some ⟨W0.heap.size + 1, 0, none⟩)] W (Reads w W q (rdVal d l) (okVal W)) := by
 have zd : (d : Int) ≤ 64 := by omega
 have hb := Kac (w := W) (.cells zeroC 48)
 have hq := h.lt
 have hbase := h.base
 have c2 := Kam hb (ltOf (Kab (o := 0) hs.p2 rfl)) (Kab (o := 0) hs.p2 rfl)
 have c3 := Kam hb (ltOf (Kab (o := 0) hs.p3 rfl)) (Kab (o := 0) hs.p3 rfl)
 have hbx : (W.alloc (.cells zeroC 48)).heap[W.heap.size]? = some (.cells zeroC 48 (0, 0)) := heap_alloc_new W _
 have HC := yh (hv (W.alloc (.cells zeroC 48)) q l (h.below hb) hl)
 have HB := yh (And.intro hb (And.intro hbx (And.intro hq hbase)))
 clear hb hbx hs h hv
 unfold zeroC at *
 cases hr : rdVal d l with
 | none =>
   rw [hr] at HC
   go_enter Tryz.func122, Tryz.ntmps122
   go_wp2_with (go_at_call 71; refine HC.out.mono ?_; rintro e W5 h5; obtain ⟨t5, hb5, rfl⟩ := h5.none; have H5 := yh (And.intro t5 hb5); clear h5 t5 hb5)
   exact ⟨rfl, (RTo.of_below HB.out.1).trans H5.out.1, H5.out.2, rfl⟩
 | some p =>
   obtain ⟨v, s⟩ := p
   rw [hr] at HC
   go_enter Tryz.func122, Tryz.ntmps122
   go_wp2_with (first
    | (go_at_call 71; refine HC.out.mono ?_; rintro e W5 h5
       (
        obtain ⟨t5, hb5, x, rfl, ⟨cs, rfl, hown⟩, hst⟩ := h5.some
        obtain ⟨hb, hbx, hq, hbase⟩ := HB.out
        have hsz := hb.size
        have hlt : W.heap.size < (W.alloc (.cells #[.int .i64 0, .bool false, .int .i64 0, .string ⟨#[]⟩, .slice none 0 0, .slice none 0 0] 48)).heap.size := by simp
        have hbx5 := (t5.keep W.heap.size hlt (by omega)).trans hbx
        have h6 := hown.size6
        have h61 := hown.ones
        have HST := yh (StT.put Kbo h6 h61 hbx5 rfl)
        have HLD := yh (StT.get Kbo h6 (setRow_heap W5 W.heap.size _ cs _ _ hbx5))
        have ho : ∀ b, b ≠ W.heap.size → (W5.setRow W.heap.size cs).heap[b]? = W5.heap[b]? := fun b hb => setRow_other W5 _ b cs hb
        have hsz6 : (W5.setRow W.heap.size cs).heap.size = W5.heap.size := by simp
        have hB6 : Below w.heap.size w (W5.setRow W.heap.size cs) := by
         have hgs := hb5.size
         obtain ⟨b1, b2, b3, b4, b5⟩ := hb5
         exact ⟨b1, b2, b3, by rw [hsz6]; exact hgs, fun b hb => (ho b (by omega)).trans (b5 b hb)⟩
        have HF := yh (And.intro (hst.other hB6 (ho q (by omega))) (And.intro (show RTo q W (W5.setRow W.heap.size cs) from ⟨by rw [hsz6]; have := t5.size; omega, fun b hb2 hqb => (ho b (by omega)).trans ((t5.keep b (by omega) hqb).trans (hb.block b hb2))⟩)
         ((hown.keep (w' := W5.setRow W.heap.size cs) fun b hb2 _ => ho b (by omega)).imp (P' := fun b => W.heap.size ≤ b) fun b _ hb2 => by omega)))
        clear h5 t5 hb5 hown hst hb hbx hq hbase hsz hlt hbx5 h6 h61 ho hsz6 hB6 HB HC))
    | ((with_reducible apply Kad); exact HST.out; exact rfl; exact rfl))
   refine bodyPost_ret (Kaj rfl _ _ ⟨W.heap.size, 0, none⟩ _ rfl HLD.out) rfl ?_
   exact ⟨HF.out.2.1, HF.out.1.b, _, rfl, ⟨cs, rfl, HF.out.2.2⟩, HF.out.1⟩
def MapR (W0 W3 : World) (q d B : Nat) (m : List (List UInt8 × V)) (W' : World) (kv : Value) : Prop :=
 VS W0 q ((d : Int) + 1) B #[.int .i64 5, .bool false, .int .i64 0, .string ⟨#[]⟩, kv, .slice none 0 0] W' ∧ OwnsP W' (fun b => W3.heap.size ≤ b) 9 1 kv m.length (m.map fun p => strV p.1)
theorem MapR.keepJ {w W0 W3 : World} {q d B : Nat} (h : B + 1 < W3.heap.size) (hlo : W0.heap.size + 3 ≤ B) : KeepJ w W3 q (MapR W0 W3 q d B) := by
 refine ⟨?_, ?_⟩
 ·rintro m W1 W2 kv ⟨h1, h2⟩ hsz hb hk
  refine ⟨h1.keep hsz fun b hb hq => hk b (by have := h1.lt; omega) hq (.inl (by omega)), ?_⟩
  refine ⟨Kcz h2.1 fun g hg => ?_, h2.2⟩
  have hlt := (h2.1.lt g hg).2
  have hge := h2.2 g hg
  exact hk g hlt (by have := h1.ql; omega) (.inr hg)
 ·rintro m W1 kv ⟨h1, h2⟩ b hb
  exact (h2.1.lt b hb).2
theorem MapR.app {w W0 W3 W2 : World} {q d B : Nat} {m : List (List UInt8 × V)} {kv : Value} {l : List UInt8} (h : MapR W0 W3 q d B m W2 kv) (hB : B + 1 < W3.heap.size) (hst : RSt 141 w W2 q l) (s : List UInt8) (hm : m.length ≤ 1000000) (hs32 : W3.heap.size ≤ W2.heap.size) :
 ∃ pk n ck W4, (Builtin.append_ #[45, 45] 45 #[kv, .slice (some ⟨W2.heap.size, 0, none⟩) 1 1]).run Tryz.prog (W2.alloc (.cells #[.string (strB s)] 9)) = .ok (.slice pk n ck) W4 ∧
  (storeVar 45 ⟨B, 4, none⟩ (.slice pk n ck)).run Tryz.prog W4 = .ok () (W4.setCell ⟨B, 4, none⟩ (.slice pk n ck)) ∧
  VS W0 q ((d : Int) + 1) B #[.int .i64 5, .bool false, .int .i64 0, .string ⟨#[]⟩, .slice pk n ck, .slice none 0 0] (W4.setCell ⟨B, 4, none⟩ (.slice pk n ck)) ∧
  OwnsP (W4.setCell ⟨B, 4, none⟩ (.slice pk n ck)) (fun b => W3.heap.size ≤ b) 9 1 (.slice pk n ck) (m.length + 1) ((m.map fun p => strV p.1) ++ [strV s]) ∧
  RSt 141 w (W4.setCell ⟨B, 4, none⟩ (.slice pk n ck)) q l ∧ (∀ b, b < W2.heap.size → b ≠ B → kv.ownBlock ≠ some b → (W4.setCell ⟨B, 4, none⟩ (.slice pk n ck)).heap[b]? = W2.heap[b]?) ∧
  ((Value.slice pk n ck).ownBlock = kv.ownBlock ∨ (Value.slice pk n ck).ownBlock = some (W2.heap.size + 1)) ∧ W2.heap.size + 1 ≤ (W4.setCell ⟨B, 4, none⟩ (.slice pk n ck)).heap.size := by
 obtain ⟨hv, ho⟩ := h
 have hlo := hv.lo
 have hql := hv.ql
 have hbase := hst.base
 have hlt2 := hv.lt
 have hblk := fun g hg => ho.2 g hg
 have hb := Kac (w := W2) (.cells #[.string (strB s)] 9)
 have ho1 : (W2.alloc (.cells #[.string (strB s)] 9)).ownsRow 0 9 1 kv m.length (m.map fun p => strV p.1) := (ho.keep (w' := W2.alloc (.cells #[.string (strB s)] 9)) fun b _ hl => hb.block b hl).1
 obtain ⟨v', W4, a1, a2, a3, a4, a5⟩ := gt_str.app ho1 (g := W2.heap.size) (x := #[.string (strB s)]) rfl (fun u hu => by simp only [List.mem_cons, List.not_mem_nil, or_false] at hu; subst hu; rfl) (heap_alloc_new W2 _) hm 45
 have hs1 : (W2.alloc (.cells #[.string (strB s)] 9)).heap.size = W2.heap.size + 1 := by simp
 have hnB : kv.ownBlock ≠ some B := fun e => by have := hblk B e; omega
 have hk4 : ∀ b, b < W2.heap.size → kv.ownBlock ≠ some b → W4.heap[b]? = W2.heap[b]? := fun b hl hn => (a3.block b (by omega) hn).trans (hb.block b hl)
 have hv4 : VS W0 q ((d : Int) + 1) B #[.int .i64 5, .bool false, .int .i64 0, .string ⟨#[]⟩, kv, .slice none 0 0] W4 := hv.keep (by omega) fun b hb1 hq => hk4 b (by have := hv.tr.size; omega) fun e => by have := hblk b e; omega
 have hB4 : Below w.heap.size w W4 := a3.below (Kaa hst.b hb) (fun b hl e => by have := hblk b e; omega) (by have := hst.b.size; omega)
 have hst4 : RSt 141 w W4 q l := hst.other hB4 (hk4 q hst.lt fun e => by have := hblk q e; omega)
 have how : OwnsP W4 (fun b => W3.heap.size ≤ b) 9 1 v' (m.length + 1) ((m.map fun p => strV p.1) ++ [strV s]) := ⟨by simpa [strV] using a2, fun g hg => by
  rcases a4 with e | e
  ·exact hblk g (e.symm.trans hg)
  ·rw [e] at hg; cases hg; omega⟩
 obtain ⟨pk, n, ck, rfl⟩ : ∃ pk n ck, v' = .slice pk n ck := by
  rcases how.1.2 with ⟨h, _⟩ | ⟨g, cap, cur, h, _⟩ <;> exact ⟨_, _, _, h⟩
 have hnew : (Value.slice pk n ck).ownBlock ≠ some B := fun e => by have := how.2 B e; omega
 have hsc : ∀ b, b ≠ B → (W4.setCell ⟨B, 4, none⟩ (.slice pk n ck)).heap[b]? = W4.heap[b]? := fun b hb => Below.heap_setCell _ _ _ _ hb
 refine ⟨pk, n, ck, W4, a1, put_strs (Kab (o := 4) hv4.p5 rfl) (Kav (o := 4) hv4.p5), by simpa using hv4.set 4 (.slice pk n ck), ⟨Kcz how.1 fun g hg => hsc g fun e => hnew (e ▸ hg), how.2⟩, hv4.setR hst4 4 _, fun b hl hne hn => (hsc b hne).trans (hk4 b hl hn), ?_, ?_⟩
 ·rcases a4 with e | e
  ·exact .inl e
  ·exact .inr (by rw [e, hs1])
 ·simp only [World.setCell, Array.size_modify] at *
  omega
theorem rkv_any {w W0 W3 W1 : World} {q d B : Nat} {m : List (List UInt8 × V)} {kv : Value} {l : List UInt8} (hv : RVal w d) (hd : d ≤ 64) (hB : B + 1 < W3.heap.size) (hj : MapR W0 W3 q d B m W1 kv) (hsz : W3.heap.size ≤ W1.heap.size) (h : RSt 141 w W1 q l) (hl : l.length ≤ 1000000) (hm : m.length ≤ 1000000) :
 Calls Tryz.prog 125 #[.pointer (some ⟨W0.heap.size, 0, none⟩), .pointer (some ⟨B, 0, none⟩), .pointer (some ⟨B + 1, 0, none⟩)] W1 fun e W2 => match (Dec.seq Ka4 (rdVal d)) l with
  | some (x, s) => ∃ cs kv', e = .returned (.agg cs) ∧ ROne 141 (fun w P (p : List UInt8 × V) x => VOwn w P p.2 x) w W3 q (MapR W0 W3 q d B) m W1 kv x s cs kv' W2 ∧ s.length ≤ l.length
  | none => e = given ∧ RTo q W0 W2 ∧ Below w.heap.size w W2 := by
 have zd : (d : Int) ≤ 64 := by omega
 have hql := hj.1.ql
 have hlo := hj.1.lo
 have htr := hj.1.tr
 have hb := Kac (w := W1) (.cells zeroC 48)
 have hja := (MapR.keepJ (w := w) hB hlo).keep hj hb.size (Kaa h.b hb) (fun b hb1 _ _ => hb.block b hb1)
 have hsa := h.below hb
 have hbx : (W1.alloc (.cells zeroC 48)).heap[W1.heap.size]? = some (.cells zeroC 48 (0, 0)) := heap_alloc_new W1 _
 have c2 := Kab (o := 0) hja.1.p2 rfl
 have HT := yh (Kdy hsa hl)
 have HB := yh (And.intro hb (And.intro hbx (And.intro hja hsa)))
 clear hb hbx hja hsa
 unfold zeroC at *
 cases hr : Ka4 l with
 | none =>
   rw [hr] at HT
   have hdec : (Dec.seq Ka4 (rdVal d)) l = none := by unfold Dec.seq; rw [hr]
   rw [hdec]
   go_enter Tryz.func125, Tryz.ntmps125
   go_wp2_with (go_at_call 107; refine HT.out.mono ?_; rintro e W5 h5; obtain ⟨t5, hb5, rfl⟩ := h5.none; have H5 := yh (And.intro t5 hb5); clear h5 t5 hb5)
   exact ⟨rfl, rfl, (htr.trans (RTo.of_below HB.out.1)).trans H5.out.1, H5.out.2⟩
 | some p =>
   obtain ⟨s0, r⟩ := p
   rw [hr] at HT
   have hrl : r.length ≤ l.length := by
    obtain ⟨e1, _⟩ := Kd5.sound _ _ _ hr
    rw [e1, List.length_append]; omega
   have HV := yh hv
   have HJ1 := yh hj
   obtain ⟨pk0, n0, ck0, hkv⟩ : ∃ pk n ck, kv = .slice pk n ck := by
    rcases hj.2.1.2 with ⟨h, _⟩ | ⟨g, cap, cur, h, _⟩ <;> exact ⟨_, _, _, h⟩
   subst hkv
   cases hr2 : rdVal d r with
   | none =>
     have hdec : (Dec.seq Ka4 (rdVal d)) l = none := by unfold Dec.seq; rw [hr]; simp only; rw [hr2]
     rw [hdec]
     clear hv hj h
     go_enter Tryz.func125, Tryz.ntmps125
     go_wp2_with (first
      | (go_at_call 107; refine HT.out.mono ?_; rintro e W5 h5
         (
          obtain ⟨t5, hb5, x5, rfl, rfl, hst⟩ := h5.some
          obtain ⟨hb, hbx, hja, hsa⟩ := HB.out
          have hj5 := (MapR.keepJ (w := w) hB hlo).keep hja t5.size hb5 (fun b hb1 hq1 _ => t5.keep b hb1 hq1)
          obtain ⟨pk1, n1, ck1, W4, happ, hst1, hv6, how6, hst6, hk6, hown6, hsz6⟩ := hj5.app hB hst s0 hm (by have := t5.size; have := hb.size; omega)
          have HK := yh (Kah (P := Tryz.prog) (w := W5) Tryz.underlying45 rfl (Kab (o := 4) hj5.1.p5 rfl))
          have HBS := yh (Kao (P := Tryz.prog) (w := W5) (v := .string (strB s0)) Tryz.underlying45 Tryz.sizeOf9 Tryz.zeroValue9 rfl (by omega) (by omega))
          have HA := yh happ
          have HS1 := yh hst1
          have HIN := yh (Kah (P := Tryz.prog) (w := W4.setCell ⟨B, 4, none⟩ (.slice pk1 n1 ck1)) Tryz.underlying170 rfl (Kab (o := 0) hv6.p6 rfl))
          have HC := yh (rinner_any HV.out hd hv6 hst6 (by omega))
          rw [hr2] at HC
          have HF := yh (And.intro hv6.tr hst6)
          clear h5 t5 hb5 hst hj5 happ hst1 hv6 how6 hst6 hk6 hown6 hsz6))
      | ((with_reducible apply Kal); exact HK.out; exact rfl; clear HK)
      | ((with_reducible apply op_bs1); exact HBS.out; exact rfl; clear HBS)
      | ((with_reducible apply Kbc); exact HA.out; exact rfl; exact rfl)
      | ((with_reducible apply Kad); exact HS1.out; exact rfl; exact rfl; clear HS1)
      | ((with_reducible apply Kal); exact HIN.out; exact rfl; clear HIN)
      | (go_at_call 122; refine HC.out.mono ?_; rintro e W7 h7; obtain ⟨t7, hb7, rfl⟩ := h7.none; have H7 := yh (And.intro t7 hb7); clear h7 t7 hb7))
     exact ⟨rfl, rfl, HF.out.1.trans H7.out.1, H7.out.2⟩
   | some p2 =>
     obtain ⟨v, s⟩ := p2
     have hdec : (Dec.seq Ka4 (rdVal d)) l = some ((s0, v), s) := by unfold Dec.seq; rw [hr]; simp only; rw [hr2]
     have hsr : s.length ≤ l.length := by
      obtain ⟨e1, _⟩ := (rt_val d).sound _ _ _ hr2
      have := congrArg List.length e1
      rw [List.length_append] at this
      omega
     rw [hdec]
     clear hv hj h
     go_enter Tryz.func125, Tryz.ntmps125
     go_wp2_with (first
      | (go_at_call 107; refine HT.out.mono ?_; rintro e W5 h5
         (
          obtain ⟨t5, hb5, x5, rfl, rfl, hst⟩ := h5.some
          obtain ⟨hb, hbx, hja, hsa⟩ := HB.out
          have hj5 := (MapR.keepJ (w := w) hB hlo).keep hja t5.size hb5 (fun b hb1 hq1 _ => t5.keep b hb1 hq1)
          obtain ⟨pk1, n1, ck1, W4, happ, hst1, hv6, how6, hst6, hk6, hown6, hsz6⟩ := hj5.app hB hst s0 hm (by have := t5.size; have := hb.size; omega)
          have HK := yh (Kah (P := Tryz.prog) (w := W5) Tryz.underlying45 rfl (Kab (o := 4) hj5.1.p5 rfl))
          have HBS := yh (Kao (P := Tryz.prog) (w := W5) (v := .string (strB s0)) Tryz.underlying45 Tryz.sizeOf9 Tryz.zeroValue9 rfl (by omega) (by omega))
          have HA := yh happ
          have HS1 := yh hst1
          have HIN := yh (Kah (P := Tryz.prog) (w := W4.setCell ⟨B, 4, none⟩ (.slice pk1 n1 ck1)) Tryz.underlying170 rfl (Kab (o := 0) hv6.p6 rfl))
          have HC := yh (rinner_any HV.out hd hv6 hst6 (by omega))
          rw [hr2] at HC
          have hkall : ∀ b, b < W1.heap.size → b ≠ q → W3.heap.size ≤ b → (Value.slice pk0 n0 ck0).ownBlock ≠ some b → (W4.setCell ⟨B, 4, none⟩ (.slice pk1 n1 ck1)).heap[b]? = W1.heap[b]? := fun b hb1 hq1 hge hno =>
           (hk6 b (by have := t5.size; have := HB.out.1.size; omega) (by omega) hno).trans ((t5.keep b (by have := HB.out.1.size; omega) hq1).trans (HB.out.1.block b hb1))
          have hkb : (W4.setCell ⟨B, 4, none⟩ (.slice pk1 n1 ck1)).heap[W1.heap.size]? = some (.cells #[.int .i64 0, .bool false, .int .i64 0, .string ⟨#[]⟩, .slice none 0 0, .slice none 0 0] 48 (0, 0)) := by
           have hlt : W1.heap.size < (W1.alloc (.cells #[.int .i64 0, .bool false, .int .i64 0, .string ⟨#[]⟩, .slice none 0 0, .slice none 0 0] 48)).heap.size := by simp
           refine (hk6 _ (by have := t5.size; omega) (by omega) fun e => ?_).trans ((t5.keep _ hlt (by have := HJ1.out.1.tr.size; omega)).trans HB.out.2.1)
           have := (HJ1.out.2.1.lt _ e).2
           omega
          have hgo : W1.heap.size < (W4.setCell ⟨B, 4, none⟩ (.slice pk1 n1 ck1)).heap.size := by have := t5.size; have : W1.heap.size < (W1.alloc (.cells #[.int .i64 0, .bool false, .int .i64 0, .string ⟨#[]⟩, .slice none 0 0, .slice none 0 0] 48)).heap.size := (by simp); omega
          have hown7 : (Value.slice pk1 n1 ck1).ownBlock = (Value.slice pk0 n0 ck0).ownBlock ∨ ∀ b, (Value.slice pk1 n1 ck1).ownBlock = some b → W1.heap.size < b := by
           rcases hown6 with e | e
           ·exact .inl e
           ·refine .inr fun b hb => ?_
            rw [e] at hb; cases hb
            have := t5.size
            have : W1.heap.size < (W1.alloc (.cells #[.int .i64 0, .bool false, .int .i64 0, .string ⟨#[]⟩, .slice none 0 0, .slice none 0 0] 48)).heap.size := (by simp)
            omega
          have HF := yh (And.intro hv6 (And.intro how6 (And.intro hst6 (And.intro hkall (And.intro hkb (And.intro hgo hown7))))))
          clear h5 t5 hb5 hst hj5 happ hst1 hv6 how6 hst6 hk6 hown6 hsz6 hkall hkb hgo hown7))
      | ((with_reducible apply Kal); exact HK.out; exact rfl; clear HK)
      | ((with_reducible apply op_bs1); exact HBS.out; exact rfl; clear HBS)
      | ((with_reducible apply Kbc); exact HA.out; exact rfl; exact rfl)
      | ((with_reducible apply Kad); exact HS1.out; exact rfl; exact rfl; clear HS1)
      | ((with_reducible apply Kal); exact HIN.out; exact rfl; clear HIN)
      | (go_at_call 122; refine HC.out.mono ?_; rintro e W7 h7
         (
          obtain ⟨t7, hb7, x7, rfl, ⟨cs, rfl, hown⟩, hst7⟩ := h7.some
          obtain ⟨hv6, how6, hst6, hkall, hkb, hgo, hown7⟩ := HF.out
          have hqW : W1.heap.size ≠ q := by have := HJ1.out.1.tr.size; omega
          have hkb7 := (t7.keep _ hgo hqW).trans hkb
          have HST := yh (StT.put Kbo hown.size6 hown.ones hkb7 rfl)
          have HLD := yh (StT.get Kbo hown.size6 (setRow_heap W7 W1.heap.size _ cs _ _ hkb7))
          have ho : ∀ b, b ≠ W1.heap.size → (W7.setRow W1.heap.size cs).heap[b]? = W7.heap[b]? := fun b hb => setRow_other W7 _ b cs hb
          have hs8 : (W7.setRow W1.heap.size cs).heap.size = W7.heap.size := by simp
          have hB8 : Below w.heap.size w (W7.setRow W1.heap.size cs) := by
           have hgs := hb7.size
           have h0 := hst6.base
           have h1 := HJ1.out.1.tr.size
           obtain ⟨b1, b2, b3, b4, b5⟩ := hb7
           exact ⟨b1, b2, b3, by rw [hs8]; exact hgs, fun b hb => (ho b (by omega)).trans (b5 b hb)⟩
          have hnotB : (Value.slice pk1 n1 ck1).ownBlock ≠ some W1.heap.size := fun e => by
           rcases hown7 with e7 | e7
           ·have := (HJ1.out.2.1.lt _ (e7.symm.trans e)).2; omega
           ·have := e7 _ e; omega
          have hv8 : VS W0 q ((d : Int) + 1) B #[.int .i64 5, .bool false, .int .i64 0, .string ⟨#[]⟩, .slice pk1 n1 ck1, .slice none 0 0] (W7.setRow W1.heap.size cs) :=
           (hv6.step t7).keep (by rw [hs8]; exact Nat.le_refl _) fun b hb1 hq1 => ho b (by have := HJ1.out.1.tr.size; have := HJ1.out.1.lt; omega)
          have how8 : OwnsP (W7.setRow W1.heap.size cs) (fun b => W3.heap.size ≤ b) 9 1 (.slice pk1 n1 ck1) (m.length + 1) ((m.map fun p => strV p.1) ++ [strV s0]) :=
           ⟨Kcz how6.1 fun g hg => (ho g fun e => hnotB (e ▸ hg)).trans (t7.keep g (how6.1.lt g hg).2 (by have := how6.2 g hg; omega)), how6.2⟩
          have hone : ROne 141 (fun w P (p : List UInt8 × V) x => VOwn w P p.2 x) w W3 q (MapR W0 W3 q d B) m W1 (.slice pk0 n0 ck0) (s0, v) s cs (.slice pk1 n1 ck1) (W7.setRow W1.heap.size cs) := by
           refine ⟨by rw [hs8]; have := t7.size; omega, fun b hb1 hq1 hge hno => (ho b (by omega)).trans ((t7.keep b (by omega) hq1).trans (hkall b hb1 hq1 hge hno)), ?_, hst7.other hB8 (ho q (by omega)), ⟨hv8, by rw [List.length_append, List.map_append]; exact how8⟩, ?_⟩
           ·exact (hown.keep (w' := W7.setRow W1.heap.size cs) fun b hb1 _ => ho b (by omega)).imp fun b _ hb1 => ⟨by omega, fun e => by have := (how6.1.lt b e).2; omega⟩
           ·rcases hown7 with e7 | e7
            ·exact .inl e7
            ·exact .inr fun b hb => by have := e7 b hb; omega
          have HR := yh hone
          clear h7 t7 hb7 hown hst7 hv6 how6 hst6 hkall hkb hgo hown7 hqW hkb7 ho hs8 hB8 hnotB hv8 how8 hone HC HF))
      | ((with_reducible apply Kad); exact HST.out; exact rfl; exact rfl))
     refine bodyPost_ret (Kaj rfl _ _ ⟨W1.heap.size, 0, none⟩ _ rfl HLD.out) rfl ?_
     exact ⟨cs, _, rfl, HR.out, hsr⟩
theorem Reads.of {α : Type} {w W W' : World} {q : Nat} {r r' : Option (α × List UInt8)} {ok : α → Value → World → Prop} {e : Ending} (h : r = r') (g : Reads w W q r' ok e W') : Reads w W q r ok e W' := by rw [h]; exact g
theorem Kbq {w W W1 : World} {q : Nat} {d : Int} {r : List UInt8} (hq : q < W.heap.size) (t1 : RTo q (((W.alloc (.cells #[.pointer (some ⟨q, 0, none⟩)] 95)).alloc (.cells #[.int .i64 d] 3)).alloc (.cells #[.int .i64 0, .bool false, .int .i64 0, .string ⟨#[]⟩, .slice none 0 0, .slice none 0 0] 48)) W1)
 (s1 : RSt 141 w W1 q r) (cs0 : Array Value) :
 (storeVar 170 ⟨W1.heap.size + 1, 0, none⟩ (innerV W.heap.size)).run Tryz.prog ((W1.alloc (.cells cs0 48)).alloc (.cells #[.nilFunc] 170)) = .ok () (((W1.alloc (.cells cs0 48)).alloc (.cells #[.nilFunc] 170)).setRow (W1.heap.size + 1) #[innerV W.heap.size]) ∧
 VS W q d W1.heap.size cs0 (((W1.alloc (.cells cs0 48)).alloc (.cells #[.nilFunc] 170)).setRow (W1.heap.size + 1) #[innerV W.heap.size]) ∧
 RSt 141 w (((W1.alloc (.cells cs0 48)).alloc (.cells #[.nilFunc] 170)).setRow (W1.heap.size + 1) #[innerV W.heap.size]) q r := by
 have hsc : (((W.alloc (.cells #[.pointer (some ⟨q, 0, none⟩)] 95)).alloc (.cells #[.int .i64 d] 3)).alloc (.cells #[.int .i64 0, .bool false, .int .i64 0, .string ⟨#[]⟩, .slice none 0 0, .slice none 0 0] 48)).heap.size = W.heap.size + 3 := by simp
 have p2 : (((W.alloc (.cells #[.pointer (some ⟨q, 0, none⟩)] 95)).alloc (.cells #[.int .i64 d] 3)).alloc (.cells #[.int .i64 0, .bool false, .int .i64 0, .string ⟨#[]⟩, .slice none 0 0, .slice none 0 0] 48)).heap[W.heap.size]? = some (.cells #[.pointer (some ⟨q, 0, none⟩)] 95 (0, 0)) := by
  simp only [Kaf, World.size_alloc]; rw [if_neg (by omega), if_neg (by omega), if_pos trivial]
 have p3 : (((W.alloc (.cells #[.pointer (some ⟨q, 0, none⟩)] 95)).alloc (.cells #[.int .i64 d] 3)).alloc (.cells #[.int .i64 0, .bool false, .int .i64 0, .string ⟨#[]⟩, .slice none 0 0, .slice none 0 0] 48)).heap[W.heap.size + 1]? = some (.cells #[.int .i64 d] 3 (0, 0)) := by
  simp only [Kaf, World.size_alloc]; rw [if_neg (by omega), if_pos trivial]
 have p4 : (((W.alloc (.cells #[.pointer (some ⟨q, 0, none⟩)] 95)).alloc (.cells #[.int .i64 d] 3)).alloc (.cells #[.int .i64 0, .bool false, .int .i64 0, .string ⟨#[]⟩, .slice none 0 0, .slice none 0 0] 48)).heap[W.heap.size + 2]? = some (.cells zeroC 48 (0, 0)) := by
  have e : W.heap.size + 2 = W.heap.size + 1 + 1 := rfl
  rw [e]; simp only [Kaf, World.size_alloc]; rw [if_pos trivial]
 have hb0 : Below W.heap.size W (((W.alloc (.cells #[.pointer (some ⟨q, 0, none⟩)] 95)).alloc (.cells #[.int .i64 d] 3)).alloc (.cells #[.int .i64 0, .bool false, .int .i64 0, .string ⟨#[]⟩, .slice none 0 0, .slice none 0 0] 48)) := ((Kac _).alloc (by simp) _).alloc (by simp; omega) _
 generalize ((W.alloc (.cells #[.pointer (some ⟨q, 0, none⟩)] 95)).alloc (.cells #[.int .i64 d] 3)).alloc (.cells #[.int .i64 0, .bool false, .int .i64 0, .string ⟨#[]⟩, .slice none 0 0, .slice none 0 0] 48) = Wc at *
 have hs1 := t1.size
 have hb : Below W1.heap.size W1 ((W1.alloc (.cells cs0 48)).alloc (.cells #[.nilFunc] 170)) := (Kac _).alloc (by simp) _
 have hk5 : ((W1.alloc (.cells cs0 48)).alloc (.cells #[.nilFunc] 170)).heap[W1.heap.size]? = some (.cells cs0 48 (0, 0)) := by
  simp only [Kaf, World.size_alloc]; rw [if_neg (by omega), if_pos trivial]
 have hk6 : ((W1.alloc (.cells cs0 48)).alloc (.cells #[.nilFunc] 170)).heap[W1.heap.size + 1]? = some (.cells #[.nilFunc] 170 (0, 0)) := by
  simp only [Kaf, World.size_alloc]; rw [if_pos trivial]
 have hb3 := s1.b.size
 have hbase := s1.base
 have hbk : Below w.heap.size w ((W1.alloc (.cells cs0 48)).alloc (.cells #[.nilFunc] 170)) := Kaa s1.b hb
 generalize (W1.alloc (.cells cs0 48)).alloc (.cells #[.nilFunc] 170) = Wk at *
 have ho : ∀ b, b ≠ W1.heap.size + 1 → (Wk.setRow (W1.heap.size + 1) #[innerV W.heap.size]).heap[b]? = Wk.heap[b]? := fun b hb => setRow_other Wk _ b _ hb
 have hwk := hb.size
 refine ⟨?_, ⟨?_, ?_, ?_, ?_, ?_, by omega, hq, ⟨?_, fun b hb1 hq1 => ?_⟩⟩, ?_⟩
 ·exact run_storeVar_row (P := Tryz.prog) Wk (W1.heap.size + 1) 170 170 _ #[innerV W.heap.size] hk6 (by kernel_rfl) rfl (by simp [Value.oneCell'])
 ·exact (ho _ (by omega)).trans ((hb.block _ (by omega)).trans ((t1.keep _ (by omega) (by omega)).trans p2))
 ·exact (ho _ (by omega)).trans ((hb.block _ (by omega)).trans ((t1.keep _ (by omega) (by omega)).trans p3))
 ·exact (ho _ (by omega)).trans ((hb.block _ (by omega)).trans ((t1.keep _ (by omega) (by omega)).trans p4))
 ·exact (ho _ (by omega)).trans hk5
 ·exact setRow_heap Wk _ _ _ _ _ hk6
 ·have hsz : (Wk.setRow (W1.heap.size + 1) #[innerV W.heap.size]).heap.size = Wk.heap.size := by simp
  omega
 ·exact (ho _ (by omega)).trans ((hb.block _ (by omega)).trans ((t1.keep _ (by omega) hq1).trans (hb0.block b hb1)))
 ·have hsz : (Wk.setRow (W1.heap.size + 1) #[innerV W.heap.size]).heap.size = Wk.heap.size := by simp
  have hbk2 : Below w.heap.size w (Wk.setRow (W1.heap.size + 1) #[innerV W.heap.size]) := by
   have hgs := hbk.size
   obtain ⟨b1, b2, b3, b4, b5⟩ := hbk
   exact ⟨b1, b2, b3, by rw [hsz]; exact hgs, fun b hb => (ho b (by omega)).trans (b5 b hb)⟩
  exact s1.other hbk2 ((ho _ (by omega)).trans (hb.block _ s1.lt))
theorem rdSigned_none {r : List UInt8} (h : rdN 0 0 r = none) : Kbi r = none := by unfold Kbi Dec.map; rw [h]; rfl
theorem rdSigned_some {r s : List UInt8} {n : Nat} (h : rdN 0 0 r = some (n, s)) : Kbi r = some (unzz n, s) := by unfold Kbi Dec.map; rw [h]; rfl
theorem conv_i64 {n : Nat} (h : n < 18446744073709551616) (W : World) : (convert 79 2 (.int .u64 (n : Int))).run Tryz.prog W = .ok (.int .i64 (toI n)) W := by
 have e : IntKind.i64.wrap (n : Int) = toI n := by
  rw [IntKind.wrap_i64]
  unfold toI
  split <;> omega
 rw [← e]
 simp [convert, go_sem]
theorem rvalue_zero (w : World) : RVal w 0 := by
 intro W q l h hl
 have hb : Below W.heap.size W (((W.alloc (.cells #[.pointer (some ⟨q, 0, none⟩)] 95)).alloc (.cells #[.int .i64 0] 3)).alloc (.cells #[.int .i64 0, .bool false, .int .i64 0, .string ⟨#[]⟩, .slice none 0 0, .slice none 0 0] 48)) := ((Kac _).alloc (by simp) _).alloc (by simp; omega) _
 have HB := yh (And.intro hb (Kaa h.b hb))
 have hz : rdVal 0 l = none := by rw [rdVal]
 have HZ := yh hz
 clear hb h hz
 go_enter Tryz.func71, Tryz.ntmps71
 go_wp2_with (go_at_call 105; refine (Ka1 _).mono ?_; rintro e W2 ⟨rfl, rfl⟩)
 exact ⟨rfl, Reads.of HZ.out ⟨RTo.of_below HB.out.1, HB.out.2, rfl⟩⟩
theorem rvalue_nul {w : World} {d : Nat} (hv : RVal w d) (hd : d + 1 ≤ 64) {W : World} {q : Nat} {l : List UInt8} (h : RSt 141 w W q l) (hl : l.length ≤ 1000000) (hlp : 0 < l.length) {c : Nat} (hc0 : (l[0]).toNat = c) (hc : c = 0) :
 Calls Tryz.prog 71 #[.pointer (some ⟨q, 0, none⟩), .int .i64 ((d : Int) + 1)] W (Reads w W q (rdVal (d + 1) l) (okVal W)) := by
 have zd : (d : Int) ≤ 63 := by omega
 have hb : Below W.heap.size W (((W.alloc (.cells #[.pointer (some ⟨q, 0, none⟩)] 95)).alloc (.cells #[.int .i64 ((d : Int) + 1)] 3)).alloc (.cells #[.int .i64 0, .bool false, .int .i64 0, .string ⟨#[]⟩, .slice none 0 0, .slice none 0 0] 48)) := ((Kac _).alloc (by simp) _).alloc (by simp; omega) _
 have h1 := h.below hb
 have hq := h.lt
 have hcons := Kcd (d := d) hlp
 have hc256 := (l[0]).toNat_lt
 have HC := yh (Kcb h1 hlp)
 rw [hc0] at hcons hc256 HC
 have hrl : (l.drop 1).length ≤ 1000000 := by rw [List.length_drop]; omega
 generalize l.drop 1 = r at *
 subst hc; rw [if_pos rfl] at hcons
 have HCONS := yh hcons
 clear hb h1 h hcons hc0
 go_enter Tryz.func71, Tryz.ntmps71
 ·go_wp2_with (first
   | (go_at_call 105; refine (Kap _).mono ?_; rintro e W2 ⟨rfl, rfl⟩)
   | (go_at_call 110; refine HC.out.mono ?_; rintro e W1 ⟨rfl, s1, t1⟩
      (
       obtain ⟨hfs, hv3, st3⟩ := Kbq hq t1 s1 #[.int .i64 0, .bool false, .int .i64 0, .string ⟨#[]⟩, .slice none 0 0, .slice none 0 0]
       have c50 := Kab (o := 0) hv3.p5 rfl
       have c2 := Kab (o := 0) hv3.p2 rfl
       have HFS := yh hfs
       have HV3 := yh (And.intro hv3 st3)
       have hVn := hv3
       have hstn := st3
       obtain ⟨f1, f2, f3, f4, f5, f6, f7⟩ := hVn.fin rfl (ones6 _ _ _ _ rfl rfl) hstn
       have HL5 := yh f1
       have HS4 := yh f2
       have HLD := yh f3
       have HF := yh (And.intro f4 (And.intro f5 (And.intro f6 f7)))
       clear f1 f2 f3 f4 f5 f6 f7
       clear hVn hstn
       clear hfs hv3 st3 s1 t1 HC))
   | ((with_reducible apply Kad); exact HFS.out; exact rfl; exact rfl; clear HFS; generalize hW3 : World.setRow _ _ _ = W3 at *; clear hW3)
   | ((with_reducible apply Kal); exact HL5.out; exact rfl)
   | ((with_reducible apply Kad); exact HS4.out; exact rfl; exact rfl))
  refine bodyPost_ret (Kaj rfl _ _ ⟨W.heap.size + 2, 0, none⟩ _ rfl HLD.out) rfl ?_
  exact Reads.of HCONS.out ⟨HF.out.2.1, HF.out.2.2.1, _, rfl, ⟨_, rfl, HF.out.2.2.2 (fun b => W.heap.size + 3 ≤ b) _ (fun b hb => hb) (Kd6 _ _ _ _ _ _)⟩, HF.out.1⟩
theorem rvalue_bad {w : World} {d : Nat} (hv : RVal w d) (hd : d + 1 ≤ 64) {W : World} {q : Nat} {l : List UInt8} (h : RSt 141 w W q l) (hl : l.length ≤ 1000000) (hlp : 0 < l.length) {c : Nat} (hc0 : (l[0]).toNat = c) (hc : 8 ≤ c) :
 Calls Tryz.prog 71 #[.pointer (some ⟨q, 0, none⟩), .int .i64 ((d : Int) + 1)] W (Reads w W q (rdVal (d + 1) l) (okVal W)) := by
 have zd : (d : Int) ≤ 63 := by omega
 have hb : Below W.heap.size W (((W.alloc (.cells #[.pointer (some ⟨q, 0, none⟩)] 95)).alloc (.cells #[.int .i64 ((d : Int) + 1)] 3)).alloc (.cells #[.int .i64 0, .bool false, .int .i64 0, .string ⟨#[]⟩, .slice none 0 0, .slice none 0 0] 48)) := ((Kac _).alloc (by simp) _).alloc (by simp; omega) _
 have h1 := h.below hb
 have hq := h.lt
 have hcons := Kcd (d := d) hlp
 have hc256 := (l[0]).toNat_lt
 have HC := yh (Kcb h1 hlp)
 rw [hc0] at hcons hc256 HC
 have hrl : (l.drop 1).length ≤ 1000000 := by rw [List.length_drop]; omega
 generalize l.drop 1 = r at *
 rw [if_neg (by omega), if_neg (by omega), if_neg (by omega), if_neg (by omega), if_neg (by omega), if_neg (by omega), if_neg (by omega)] at hcons
 have k0 : ((c : Int) == 0) = false := by rw [beq_eq_false_iff_ne]; omega
 have k1 : ((c : Int) == 1) = false := by rw [beq_eq_false_iff_ne]; omega
 have k2 : ((c : Int) == 2) = false := by rw [beq_eq_false_iff_ne]; omega
 have k3 : ((c : Int) == 3) = false := by rw [beq_eq_false_iff_ne]; omega
 have k4 : ((c : Int) == 4) = false := by rw [beq_eq_false_iff_ne]; omega
 have k5 : ((c : Int) == 5) = false := by rw [beq_eq_false_iff_ne]; omega
 have k6 : ((c : Int) == 6) = false := by rw [beq_eq_false_iff_ne]; omega
 have k7 : ((c : Int) == 7) = false := by rw [beq_eq_false_iff_ne]; omega
 have HCONS := yh hcons
 clear hb h1 h hcons hc0
 go_enter Tryz.func71, Tryz.ntmps71
 ·go_wp2_with (first
   | (go_at_call 105; first | (refine (Kap _).mono ?_; rintro e W2 ⟨rfl, rfl⟩) | (refine (Ka1 _).mono ?_; rintro e W2 ⟨rfl, rfl⟩))
   | (go_at_call 110; refine HC.out.mono ?_; rintro e W1 ⟨rfl, s1, t1⟩
      (
       obtain ⟨hfs, hv3, st3⟩ := Kbq hq t1 s1 #[.int .i64 (c : Int), .bool false, .int .i64 0, .string ⟨#[]⟩, .slice none 0 0, .slice none 0 0]
       have c50 := Kab (o := 0) hv3.p5 rfl
       have c2 := Kab (o := 0) hv3.p2 rfl
       have HFS := yh hfs
       have HV3 := yh (And.intro hv3 st3)
       clear hfs hv3 st3 s1 t1 HC))
   | ((with_reducible apply Kad); exact HFS.out; exact rfl; exact rfl; clear HFS; generalize hW3 : World.setRow _ _ _ = W3 at *; clear hW3))
  exact ⟨rfl, Reads.of HCONS.out ⟨HV3.out.1.tr, HV3.out.2.b, rfl⟩⟩
theorem rvalue_int {w : World} {d : Nat} (hv : RVal w d) (hd : d + 1 ≤ 64) {W : World} {q : Nat} {l : List UInt8} (h : RSt 141 w W q l) (hl : l.length ≤ 1000000) (hlp : 0 < l.length) {c : Nat} (hc0 : (l[0]).toNat = c) (hc : c = 2) :
 Calls Tryz.prog 71 #[.pointer (some ⟨q, 0, none⟩), .int .i64 ((d : Int) + 1)] W (Reads w W q (rdVal (d + 1) l) (okVal W)) := by
 have zd : (d : Int) ≤ 63 := by omega
 have hb : Below W.heap.size W (((W.alloc (.cells #[.pointer (some ⟨q, 0, none⟩)] 95)).alloc (.cells #[.int .i64 ((d : Int) + 1)] 3)).alloc (.cells #[.int .i64 0, .bool false, .int .i64 0, .string ⟨#[]⟩, .slice none 0 0, .slice none 0 0] 48)) := ((Kac _).alloc (by simp) _).alloc (by simp; omega) _
 have h1 := h.below hb
 have hq := h.lt
 have hcons := Kcd (d := d) hlp
 have hc256 := (l[0]).toNat_lt
 have HC := yh (Kcb h1 hlp)
 rw [hc0] at hcons hc256 HC
 have hrl : (l.drop 1).length ≤ 1000000 := by rw [List.length_drop]; omega
 generalize l.drop 1 = r at *
 subst hc; rw [if_neg (by decide), if_neg (by decide), if_pos rfl] at hcons
 have HCONS := yh hcons
 clear hb h1 h hcons hc0
 go_enter Tryz.func71, Tryz.ntmps71
 ·cases hr : rdN 0 0 r with
  | none =>
    have hdn : rdVal (0 + d + 1) l = none := by rw [Nat.zero_add]; refine HCONS.out.trans ?_; rw [hr]; rfl
    rw [Nat.zero_add] at hdn
    have HDN := yh hdn
    clear hdn HCONS
    go_wp2_with (first
     | (go_at_call 105; refine (Kap _).mono ?_; rintro e W2 ⟨rfl, rfl⟩)
     | (go_at_call 110; refine HC.out.mono ?_; rintro e W1 ⟨rfl, s1, t1⟩
        (
         obtain ⟨hfs, hv3, st3⟩ := Kbq hq t1 s1 #[.int .i64 2, .bool false, .int .i64 0, .string ⟨#[]⟩, .slice none 0 0, .slice none 0 0]
         have c50 := Kab (o := 0) hv3.p5 rfl
         have c2 := Kab (o := 0) hv3.p2 rfl
         have HFS := yh hfs
         have HV3 := yh (And.intro hv3 st3)
         have HN := yh (Kbm st3)
         rw [rdSigned_none hr] at HN
         clear hfs hv3 st3 s1 t1 HC))
     | ((with_reducible apply Kad); exact HFS.out; exact rfl; exact rfl; clear HFS; generalize hW3 : World.setRow _ _ _ = W3 at *; clear hW3)
     | (go_at_call 123; refine HN.out.mono ?_; rintro e W5 h5; obtain ⟨t5, hb5, rfl⟩ := h5.none; have H5 := yh (And.intro t5 hb5); clear h5 t5 hb5))
    exact ⟨rfl, Reads.of HDN.out ⟨HV3.out.1.tr.trans H5.out.1, H5.out.2, rfl⟩⟩
  | some p =>
    obtain ⟨x, s⟩ := p
    have hds : rdVal (0 + d + 1) l = some (.mk 2 false (unzz x) [] [] [], s) := by rw [Nat.zero_add]; refine HCONS.out.trans ?_; rw [hr]; rfl
    rw [Nat.zero_add] at hds
    clear HCONS
    have HCONS := yh hds
    clear hds
    go_wp2_with (first
     | (go_at_call 105; refine (Kap _).mono ?_; rintro e W2 ⟨rfl, rfl⟩)
     | (go_at_call 110; refine HC.out.mono ?_; rintro e W1 ⟨rfl, s1, t1⟩
        (
         obtain ⟨hfs, hv3, st3⟩ := Kbq hq t1 s1 #[.int .i64 2, .bool false, .int .i64 0, .string ⟨#[]⟩, .slice none 0 0, .slice none 0 0]
         have c50 := Kab (o := 0) hv3.p5 rfl
         have c2 := Kab (o := 0) hv3.p2 rfl
         have HFS := yh hfs
         have HV3 := yh (And.intro hv3 st3)
         have HN := yh (Kbm st3)
         rw [rdSigned_some hr] at HN
         clear hfs hv3 st3 s1 t1 HC))
     | ((with_reducible apply Kad); exact HFS.out; exact rfl; exact rfl; clear HFS; generalize hW3 : World.setRow _ _ _ = W3 at *; clear hW3)
     | (go_at_call 123; refine HN.out.mono ?_; rintro e W5 h5
        (
         obtain ⟨t5, hb5, x5, rfl, rfl, hstm⟩ := h5.some
         have hV5 := HV3.out.1.step t5
         have hVn : VS W q ((d : Int) + 1) W1.heap.size #[.int .i64 2, .bool false, .int .i64 (unzz x), .string ⟨#[]⟩, .slice none 0 0, .slice none 0 0] (W5.setCell ⟨W1.heap.size, 2, none⟩ (.int .i64 (unzz x))) := by simpa using hV5.set 2 (.int .i64 (unzz x))
         have hstn := hV5.setR hstm 2 (.int .i64 (unzz x))
         have HST := yh (Kc6 (n := unzz x) (Kab (o := 2) hV5.p5 rfl) (Kav (o := 2) hV5.p5))
         obtain ⟨f1, f2, f3, f4, f5, f6, f7⟩ := hVn.fin rfl (ones6 _ _ _ _ rfl rfl) hstn
         have HL5 := yh f1
         have HS4 := yh f2
         have HLD := yh f3
         have HF := yh (And.intro f4 (And.intro f5 (And.intro f6 f7)))
         clear f1 f2 f3 f4 f5 f6 f7
         clear h5 t5 hb5 hstm hV5 hVn hstn HN))
     | ((with_reducible apply Kad); exact HST.out; exact rfl; exact rfl; clear HST)
     | ((with_reducible apply Kal); exact HL5.out; exact rfl)
     | ((with_reducible apply Kad); exact HS4.out; exact rfl; exact rfl))
    refine bodyPost_ret (Kaj rfl _ _ ⟨W.heap.size + 2, 0, none⟩ _ rfl HLD.out) rfl ?_
    exact Reads.of HCONS.out ⟨HF.out.2.1, HF.out.2.2.1, _, rfl, ⟨_, rfl, HF.out.2.2.2 (fun b => W.heap.size + 3 ≤ b) _ (fun b hb => hb) (Kd6 _ _ _ _ _ _)⟩, HF.out.1⟩
theorem rvalue_txt {w : World} {d : Nat} (hv : RVal w d) (hd : d + 1 ≤ 64) {W : World} {q : Nat} {l : List UInt8} (h : RSt 141 w W q l) (hl : l.length ≤ 1000000) (hlp : 0 < l.length) {c : Nat} (hc0 : (l[0]).toNat = c) (hc : c = 3) :
 Calls Tryz.prog 71 #[.pointer (some ⟨q, 0, none⟩), .int .i64 ((d : Int) + 1)] W (Reads w W q (rdVal (d + 1) l) (okVal W)) := by
 have zd : (d : Int) ≤ 63 := by omega
 have hb : Below W.heap.size W (((W.alloc (.cells #[.pointer (some ⟨q, 0, none⟩)] 95)).alloc (.cells #[.int .i64 ((d : Int) + 1)] 3)).alloc (.cells #[.int .i64 0, .bool false, .int .i64 0, .string ⟨#[]⟩, .slice none 0 0, .slice none 0 0] 48)) := ((Kac _).alloc (by simp) _).alloc (by simp; omega) _
 have h1 := h.below hb
 have hq := h.lt
 have hcons := Kcd (d := d) hlp
 have hc256 := (l[0]).toNat_lt
 have HC := yh (Kcb h1 hlp)
 rw [hc0] at hcons hc256 HC
 have hrl : (l.drop 1).length ≤ 1000000 := by rw [List.length_drop]; omega
 generalize l.drop 1 = r at *
 subst hc; rw [if_neg (by decide), if_neg (by decide), if_neg (by decide), if_pos rfl] at hcons
 have HCONS := yh hcons
 clear hb h1 h hcons hc0
 go_enter Tryz.func71, Tryz.ntmps71
 ·cases hr : Ka4 r with
  | none =>
    have hdn : rdVal (0 + d + 1) l = none := by rw [Nat.zero_add]; refine HCONS.out.trans ?_; rw [hr]; rfl
    rw [Nat.zero_add] at hdn
    have HDN := yh hdn
    clear hdn HCONS
    go_wp2_with (first
     | (go_at_call 105; refine (Kap _).mono ?_; rintro e W2 ⟨rfl, rfl⟩)
     | (go_at_call 110; refine HC.out.mono ?_; rintro e W1 ⟨rfl, s1, t1⟩
        (
         obtain ⟨hfs, hv3, st3⟩ := Kbq hq t1 s1 #[.int .i64 3, .bool false, .int .i64 0, .string ⟨#[]⟩, .slice none 0 0, .slice none 0 0]
         have c50 := Kab (o := 0) hv3.p5 rfl
         have c2 := Kab (o := 0) hv3.p2 rfl
         have HFS := yh hfs
         have HV3 := yh (And.intro hv3 st3)
         have HN := yh (Kdy st3 hrl)
         rw [hr] at HN
         clear hfs hv3 st3 s1 t1 HC))
     | ((with_reducible apply Kad); exact HFS.out; exact rfl; exact rfl; clear HFS; generalize hW3 : World.setRow _ _ _ = W3 at *; clear hW3)
     | (go_at_call 107; refine HN.out.mono ?_; rintro e W5 h5; obtain ⟨t5, hb5, rfl⟩ := h5.none; have H5 := yh (And.intro t5 hb5); clear h5 t5 hb5))
    exact ⟨rfl, Reads.of HDN.out ⟨HV3.out.1.tr.trans H5.out.1, H5.out.2, rfl⟩⟩
  | some p =>
    obtain ⟨x, s⟩ := p
    have hds : rdVal (0 + d + 1) l = some (.mk 3 false 0 x [] [], s) := by rw [Nat.zero_add]; refine HCONS.out.trans ?_; rw [hr]; rfl
    rw [Nat.zero_add] at hds
    clear HCONS
    have HCONS := yh hds
    clear hds
    go_wp2_with (first
     | (go_at_call 105; refine (Kap _).mono ?_; rintro e W2 ⟨rfl, rfl⟩)
     | (go_at_call 110; refine HC.out.mono ?_; rintro e W1 ⟨rfl, s1, t1⟩
        (
         obtain ⟨hfs, hv3, st3⟩ := Kbq hq t1 s1 #[.int .i64 3, .bool false, .int .i64 0, .string ⟨#[]⟩, .slice none 0 0, .slice none 0 0]
         have c50 := Kab (o := 0) hv3.p5 rfl
         have c2 := Kab (o := 0) hv3.p2 rfl
         have HFS := yh hfs
         have HV3 := yh (And.intro hv3 st3)
         have HN := yh (Kdy st3 hrl)
         rw [hr] at HN
         clear hfs hv3 st3 s1 t1 HC))
     | ((with_reducible apply Kad); exact HFS.out; exact rfl; exact rfl; clear HFS; generalize hW3 : World.setRow _ _ _ = W3 at *; clear hW3)
     | (go_at_call 107; refine HN.out.mono ?_; rintro e W5 h5
        (
         obtain ⟨t5, hb5, x5, rfl, rfl, hstm⟩ := h5.some
         have hV5 := HV3.out.1.step t5
         have hVn : VS W q ((d : Int) + 1) W1.heap.size #[.int .i64 3, .bool false, .int .i64 0, .string (strB x), .slice none 0 0, .slice none 0 0] (W5.setCell ⟨W1.heap.size, 3, none⟩ (.string (strB x))) := by simpa using hV5.set 3 (.string (strB x))
         have hstn := hV5.setR hstm 3 (.string (strB x))
         have HST := yh (put_str (s := strB x) (Kab (o := 3) hV5.p5 rfl) (Kav (o := 3) hV5.p5))
         obtain ⟨f1, f2, f3, f4, f5, f6, f7⟩ := hVn.fin rfl (ones6 _ _ _ _ rfl rfl) hstn
         have HL5 := yh f1
         have HS4 := yh f2
         have HLD := yh f3
         have HF := yh (And.intro f4 (And.intro f5 (And.intro f6 f7)))
         clear f1 f2 f3 f4 f5 f6 f7
         clear h5 t5 hb5 hstm hV5 hVn hstn HN))
     | ((with_reducible apply Kad); exact HST.out; exact rfl; exact rfl; clear HST)
     | ((with_reducible apply Kal); exact HL5.out; exact rfl)
     | ((with_reducible apply Kad); exact HS4.out; exact rfl; exact rfl))
    refine bodyPost_ret (Kaj rfl _ _ ⟨W.heap.size + 2, 0, none⟩ _ rfl HLD.out) rfl ?_
    exact Reads.of HCONS.out ⟨HF.out.2.1, HF.out.2.2.1, _, rfl, ⟨_, rfl, HF.out.2.2.2 (fun b => W.heap.size + 3 ≤ b) _ (fun b hb => hb) (Kd6 _ _ _ _ _ _)⟩, HF.out.1⟩
theorem rvalue_nod {w : World} {d : Nat} (hv : RVal w d) (hd : d + 1 ≤ 64) {W : World} {q : Nat} {l : List UInt8} (h : RSt 141 w W q l) (hl : l.length ≤ 1000000) (hlp : 0 < l.length) {c : Nat} (hc0 : (l[0]).toNat = c) (hc : c = 6) :
 Calls Tryz.prog 71 #[.pointer (some ⟨q, 0, none⟩), .int .i64 ((d : Int) + 1)] W (Reads w W q (rdVal (d + 1) l) (okVal W)) := by
 have zd : (d : Int) ≤ 63 := by omega
 have hb : Below W.heap.size W (((W.alloc (.cells #[.pointer (some ⟨q, 0, none⟩)] 95)).alloc (.cells #[.int .i64 ((d : Int) + 1)] 3)).alloc (.cells #[.int .i64 0, .bool false, .int .i64 0, .string ⟨#[]⟩, .slice none 0 0, .slice none 0 0] 48)) := ((Kac _).alloc (by simp) _).alloc (by simp; omega) _
 have h1 := h.below hb
 have hq := h.lt
 have hcons := Kcd (d := d) hlp
 have hc256 := (l[0]).toNat_lt
 have HC := yh (Kcb h1 hlp)
 rw [hc0] at hcons hc256 HC
 have hrl : (l.drop 1).length ≤ 1000000 := by rw [List.length_drop]; omega
 generalize l.drop 1 = r at *
 subst hc; rw [if_neg (by decide), if_neg (by decide), if_neg (by decide), if_neg (by decide), if_neg (by decide), if_neg (by decide), if_pos (by decide)] at hcons
 have HCONS := yh hcons
 clear hb h1 h hcons hc0
 go_enter Tryz.func71, Tryz.ntmps71
 ·cases hr : rdN 0 0 r with
  | none =>
    have hdn : rdVal (0 + d + 1) l = none := by rw [Nat.zero_add]; refine HCONS.out.trans ?_; rw [hr]; rfl
    rw [Nat.zero_add] at hdn
    have HDN := yh hdn
    clear hdn HCONS
    go_wp2_with (first
     | (go_at_call 105; refine (Kap _).mono ?_; rintro e W2 ⟨rfl, rfl⟩)
     | (go_at_call 110; refine HC.out.mono ?_; rintro e W1 ⟨rfl, s1, t1⟩
        (
         obtain ⟨hfs, hv3, st3⟩ := Kbq hq t1 s1 #[.int .i64 6, .bool false, .int .i64 0, .string ⟨#[]⟩, .slice none 0 0, .slice none 0 0]
         have c50 := Kab (o := 0) hv3.p5 rfl
         have c2 := Kab (o := 0) hv3.p2 rfl
         have HFS := yh hfs
         have HV3 := yh (And.intro hv3 st3)
         have HN := yh (Kat st3)
         rw [hr] at HN
         clear hfs hv3 st3 s1 t1 HC))
     | ((with_reducible apply Kad); exact HFS.out; exact rfl; exact rfl; clear HFS; generalize hW3 : World.setRow _ _ _ = W3 at *; clear hW3)
     | (go_at_call 55; refine HN.out.mono ?_; rintro e W5 h5; obtain ⟨t5, hb5, rfl⟩ := h5.none; have H5 := yh (And.intro t5 hb5); clear h5 t5 hb5))
    exact ⟨rfl, Reads.of HDN.out ⟨HV3.out.1.tr.trans H5.out.1, H5.out.2, rfl⟩⟩
  | some p =>
    obtain ⟨x, s⟩ := p
    have hds : rdVal (0 + d + 1) l = some (.mk 6 false (toI x) [] [] [], s) := by rw [Nat.zero_add]; refine HCONS.out.trans ?_; rw [hr]; rfl
    rw [Nat.zero_add] at hds
    clear HCONS
    have HCONS := yh hds
    clear hds
    have HCV := yh (fun W' : World => conv_i64 (Kde hr) W')
    go_wp2_with (first
     | (go_at_call 105; refine (Kap _).mono ?_; rintro e W2 ⟨rfl, rfl⟩)
     | (go_at_call 110; refine HC.out.mono ?_; rintro e W1 ⟨rfl, s1, t1⟩
        (
         obtain ⟨hfs, hv3, st3⟩ := Kbq hq t1 s1 #[.int .i64 6, .bool false, .int .i64 0, .string ⟨#[]⟩, .slice none 0 0, .slice none 0 0]
         have c50 := Kab (o := 0) hv3.p5 rfl
         have c2 := Kab (o := 0) hv3.p2 rfl
         have HFS := yh hfs
         have HV3 := yh (And.intro hv3 st3)
         have HN := yh (Kat st3)
         rw [hr] at HN
         clear hfs hv3 st3 s1 t1 HC))
     | ((with_reducible apply Kad); exact HFS.out; exact rfl; exact rfl; clear HFS; generalize hW3 : World.setRow _ _ _ = W3 at *; clear hW3)
     | (go_at_call 55; refine HN.out.mono ?_; rintro e W5 h5
        (
         obtain ⟨t5, hb5, x5, rfl, rfl, hstm⟩ := h5.some
         have hV5 := HV3.out.1.step t5
         have hVn : VS W q ((d : Int) + 1) W1.heap.size #[.int .i64 6, .bool false, .int .i64 (toI x), .string ⟨#[]⟩, .slice none 0 0, .slice none 0 0] (W5.setCell ⟨W1.heap.size, 2, none⟩ (.int .i64 (toI x))) := by simpa using hV5.set 2 (.int .i64 (toI x))
         have hstn := hV5.setR hstm 2 (.int .i64 (toI x))
         have HST := yh (Kc6 (n := toI x) (Kab (o := 2) hV5.p5 rfl) (Kav (o := 2) hV5.p5))
         obtain ⟨f1, f2, f3, f4, f5, f6, f7⟩ := hVn.fin rfl (ones6 _ _ _ _ rfl rfl) hstn
         have HL5 := yh f1
         have HS4 := yh f2
         have HLD := yh f3
         have HF := yh (And.intro f4 (And.intro f5 (And.intro f6 f7)))
         clear f1 f2 f3 f4 f5 f6 f7
         clear h5 t5 hb5 hstm hV5 hVn hstn HN))
     | ((with_reducible apply Kby); exact HCV.out _; exact rfl)
     | ((with_reducible apply Kad); exact HST.out; exact rfl; exact rfl; clear HST)
     | ((with_reducible apply Kal); exact HL5.out; exact rfl)
     | ((with_reducible apply Kad); exact HS4.out; exact rfl; exact rfl))
    refine bodyPost_ret (Kaj rfl _ _ ⟨W.heap.size + 2, 0, none⟩ _ rfl HLD.out) rfl ?_
    exact Reads.of HCONS.out ⟨HF.out.2.1, HF.out.2.2.1, _, rfl, ⟨_, rfl, HF.out.2.2.2 (fun b => W.heap.size + 3 ≤ b) _ (fun b hb => hb) (Kd6 _ _ _ _ _ _)⟩, HF.out.1⟩
theorem rvalue_rel {w : World} {d : Nat} (hv : RVal w d) (hd : d + 1 ≤ 64) {W : World} {q : Nat} {l : List UInt8} (h : RSt 141 w W q l) (hl : l.length ≤ 1000000) (hlp : 0 < l.length) {c : Nat} (hc0 : (l[0]).toNat = c) (hc : c = 7) :
 Calls Tryz.prog 71 #[.pointer (some ⟨q, 0, none⟩), .int .i64 ((d : Int) + 1)] W (Reads w W q (rdVal (d + 1) l) (okVal W)) := by
 have zd : (d : Int) ≤ 63 := by omega
 have hb : Below W.heap.size W (((W.alloc (.cells #[.pointer (some ⟨q, 0, none⟩)] 95)).alloc (.cells #[.int .i64 ((d : Int) + 1)] 3)).alloc (.cells #[.int .i64 0, .bool false, .int .i64 0, .string ⟨#[]⟩, .slice none 0 0, .slice none 0 0] 48)) := ((Kac _).alloc (by simp) _).alloc (by simp; omega) _
 have h1 := h.below hb
 have hq := h.lt
 have hcons := Kcd (d := d) hlp
 have hc256 := (l[0]).toNat_lt
 have HC := yh (Kcb h1 hlp)
 rw [hc0] at hcons hc256 HC
 have hrl : (l.drop 1).length ≤ 1000000 := by rw [List.length_drop]; omega
 generalize l.drop 1 = r at *
 subst hc; rw [if_neg (by decide), if_neg (by decide), if_neg (by decide), if_neg (by decide), if_neg (by decide), if_neg (by decide), if_pos (by decide)] at hcons
 have HCONS := yh hcons
 clear hb h1 h hcons hc0
 go_enter Tryz.func71, Tryz.ntmps71
 ·cases hr : rdN 0 0 r with
  | none =>
    have hdn : rdVal (0 + d + 1) l = none := by rw [Nat.zero_add]; refine HCONS.out.trans ?_; rw [hr]; rfl
    rw [Nat.zero_add] at hdn
    have HDN := yh hdn
    clear hdn HCONS
    go_wp2_with (first
     | (go_at_call 105; refine (Kap _).mono ?_; rintro e W2 ⟨rfl, rfl⟩)
     | (go_at_call 110; refine HC.out.mono ?_; rintro e W1 ⟨rfl, s1, t1⟩
        (
         obtain ⟨hfs, hv3, st3⟩ := Kbq hq t1 s1 #[.int .i64 7, .bool false, .int .i64 0, .string ⟨#[]⟩, .slice none 0 0, .slice none 0 0]
         have c50 := Kab (o := 0) hv3.p5 rfl
         have c2 := Kab (o := 0) hv3.p2 rfl
         have HFS := yh hfs
         have HV3 := yh (And.intro hv3 st3)
         have HN := yh (Kat st3)
         rw [hr] at HN
         clear hfs hv3 st3 s1 t1 HC))
     | ((with_reducible apply Kad); exact HFS.out; exact rfl; exact rfl; clear HFS; generalize hW3 : World.setRow _ _ _ = W3 at *; clear hW3)
     | (go_at_call 55; refine HN.out.mono ?_; rintro e W5 h5; obtain ⟨t5, hb5, rfl⟩ := h5.none; have H5 := yh (And.intro t5 hb5); clear h5 t5 hb5))
    exact ⟨rfl, Reads.of HDN.out ⟨HV3.out.1.tr.trans H5.out.1, H5.out.2, rfl⟩⟩
  | some p =>
    obtain ⟨x, s⟩ := p
    have hds : rdVal (0 + d + 1) l = some (.mk 7 false (toI x) [] [] [], s) := by rw [Nat.zero_add]; refine HCONS.out.trans ?_; rw [hr]; rfl
    rw [Nat.zero_add] at hds
    clear HCONS
    have HCONS := yh hds
    clear hds
    have HCV := yh (fun W' : World => conv_i64 (Kde hr) W')
    go_wp2_with (first
     | (go_at_call 105; refine (Kap _).mono ?_; rintro e W2 ⟨rfl, rfl⟩)
     | (go_at_call 110; refine HC.out.mono ?_; rintro e W1 ⟨rfl, s1, t1⟩
        (
         obtain ⟨hfs, hv3, st3⟩ := Kbq hq t1 s1 #[.int .i64 7, .bool false, .int .i64 0, .string ⟨#[]⟩, .slice none 0 0, .slice none 0 0]
         have c50 := Kab (o := 0) hv3.p5 rfl
         have c2 := Kab (o := 0) hv3.p2 rfl
         have HFS := yh hfs
         have HV3 := yh (And.intro hv3 st3)
         have HN := yh (Kat st3)
         rw [hr] at HN
         clear hfs hv3 st3 s1 t1 HC))
     | ((with_reducible apply Kad); exact HFS.out; exact rfl; exact rfl; clear HFS; generalize hW3 : World.setRow _ _ _ = W3 at *; clear hW3)
     | (go_at_call 55; refine HN.out.mono ?_; rintro e W5 h5
        (
         obtain ⟨t5, hb5, x5, rfl, rfl, hstm⟩ := h5.some
         have hV5 := HV3.out.1.step t5
         have hVn : VS W q ((d : Int) + 1) W1.heap.size #[.int .i64 7, .bool false, .int .i64 (toI x), .string ⟨#[]⟩, .slice none 0 0, .slice none 0 0] (W5.setCell ⟨W1.heap.size, 2, none⟩ (.int .i64 (toI x))) := by simpa using hV5.set 2 (.int .i64 (toI x))
         have hstn := hV5.setR hstm 2 (.int .i64 (toI x))
         have HST := yh (Kc6 (n := toI x) (Kab (o := 2) hV5.p5 rfl) (Kav (o := 2) hV5.p5))
         obtain ⟨f1, f2, f3, f4, f5, f6, f7⟩ := hVn.fin rfl (ones6 _ _ _ _ rfl rfl) hstn
         have HL5 := yh f1
         have HS4 := yh f2
         have HLD := yh f3
         have HF := yh (And.intro f4 (And.intro f5 (And.intro f6 f7)))
         clear f1 f2 f3 f4 f5 f6 f7
         clear h5 t5 hb5 hstm hV5 hVn hstn HN))
     | ((with_reducible apply Kby); exact HCV.out _; exact rfl)
     | ((with_reducible apply Kad); exact HST.out; exact rfl; exact rfl; clear HST)
     | ((with_reducible apply Kal); exact HL5.out; exact rfl)
     | ((with_reducible apply Kad); exact HS4.out; exact rfl; exact rfl))
    refine bodyPost_ret (Kaj rfl _ _ ⟨W.heap.size + 2, 0, none⟩ _ rfl HLD.out) rfl ?_
    exact Reads.of HCONS.out ⟨HF.out.2.1, HF.out.2.2.1, _, rfl, ⟨_, rfl, HF.out.2.2.2 (fun b => W.heap.size + 3 ≤ b) _ (fun b hb => hb) (Kd6 _ _ _ _ _ _)⟩, HF.out.1⟩
theorem rvalue_boo {w : World} {d : Nat} (hv : RVal w d) (hd : d + 1 ≤ 64) {W : World} {q : Nat} {l : List UInt8} (h : RSt 141 w W q l) (hl : l.length ≤ 1000000) (hlp : 0 < l.length) {c : Nat} (hc0 : (l[0]).toNat = c) (hc : c = 1) :
 Calls Tryz.prog 71 #[.pointer (some ⟨q, 0, none⟩), .int .i64 ((d : Int) + 1)] W (Reads w W q (rdVal (d + 1) l) (okVal W)) := by
 have zd : (d : Int) ≤ 63 := by omega
 have hb : Below W.heap.size W (((W.alloc (.cells #[.pointer (some ⟨q, 0, none⟩)] 95)).alloc (.cells #[.int .i64 ((d : Int) + 1)] 3)).alloc (.cells #[.int .i64 0, .bool false, .int .i64 0, .string ⟨#[]⟩, .slice none 0 0, .slice none 0 0] 48)) := ((Kac _).alloc (by simp) _).alloc (by simp; omega) _
 have h1 := h.below hb
 have hq := h.lt
 have hcons := Kcd (d := d) hlp
 have hc256 := (l[0]).toNat_lt
 have HC := yh (Kcb h1 hlp)
 rw [hc0] at hcons hc256 HC
 have hrl : (l.drop 1).length ≤ 1000000 := by rw [List.length_drop]; omega
 generalize l.drop 1 = r at *
 subst hc; rw [if_neg (by decide), if_pos rfl] at hcons
 have HCONS := yh hcons
 clear hb h1 h hcons hc0
 go_enter Tryz.func71, Tryz.ntmps71
 ·by_cases hrp : 0 < r.length
  ·have hx256 := (r[0]).toNat_lt
   have hbo : rdBool r = if (r[0]).toNat < 2 then some (.mk 1 ((r[0]).toNat == 1) 0 [] [] [], r.drop 1) else none := by
    cases r with
    | nil => simp at hrp
    | cons y ys => rw [rdBool]; rfl
   have HBY := yh (fun (W' : World) (g : RSt 141 w W' q r) => Kcb g hrp)
   generalize hx : (r[0]).toNat = x at *
   by_cases hx2 : x < 2
   ·rw [if_pos hx2] at hbo
    have HDS := yh (HCONS.out.trans hbo)
    clear HCONS hbo
    have HCONS := HDS
    clear HDS
    have x2 : (x : Int) < 2 := by omega
    go_wp2_with (first
     | (go_at_call 105; refine (Kap _).mono ?_; rintro e W2 ⟨rfl, rfl⟩)
     | (go_at_call 110; refine HB2.out.mono ?_; rintro e W5 ⟨rfl, hstm, t5⟩
        (
         have hV5 := HV3.out.1.step t5
         have hVn : VS W q ((d : Int) + 1) W1.heap.size #[.int .i64 1, .bool ((x : Int) == 1), .int .i64 0, .string ⟨#[]⟩, .slice none 0 0, .slice none 0 0] (W5.setCell ⟨W1.heap.size, 1, none⟩ (.bool ((x : Int) == 1))) := by simpa using hV5.set 1 (.bool ((x : Int) == 1))
         have hstn := hV5.setR hstm 1 (.bool ((x : Int) == 1))
         have HST := yh (put_boo (n := ((x : Int) == 1)) (Kab (o := 1) hV5.p5 rfl) (Kav (o := 1) hV5.p5))
         obtain ⟨f1, f2, f3, f4, f5, f6, f7⟩ := hVn.fin rfl (ones6 _ _ _ _ rfl rfl) hstn
         have HL5 := yh f1
         have HS4 := yh f2
         have HLD := yh f3
         have HF := yh (And.intro f4 (And.intro f5 (And.intro f6 f7)))
         clear f1 f2 f3 f4 f5 f6 f7
         clear t5 hstm hV5 hVn hstn HB2))
     | (go_at_call 110; refine HC.out.mono ?_; rintro e W1 ⟨rfl, s1, t1⟩
        (
         obtain ⟨hfs, hv3, st3⟩ := Kbq hq t1 s1 #[.int .i64 1, .bool false, .int .i64 0, .string ⟨#[]⟩, .slice none 0 0, .slice none 0 0]
         have c50 := Kab (o := 0) hv3.p5 rfl
         have c2 := Kab (o := 0) hv3.p2 rfl
         have HFS := yh hfs
         have HV3 := yh (And.intro hv3 st3)
         have HB2 := yh (HBY.out _ st3)
         clear hfs hv3 st3 s1 t1 HC))
     | ((with_reducible apply Kad); exact HFS.out; exact rfl; exact rfl; clear HFS; generalize hW3 : World.setRow _ _ _ = W3 at *; clear hW3)
     | ((with_reducible apply Kad); exact HST.out; exact rfl; exact rfl; clear HST)
     | ((with_reducible apply Kal); exact HL5.out; exact rfl)
     | ((with_reducible apply Kad); exact HS4.out; exact rfl; exact rfl))
    refine bodyPost_ret (Kaj rfl _ _ ⟨W.heap.size + 2, 0, none⟩ _ rfl HLD.out) rfl ?_
    exact Reads.of HCONS.out ⟨HF.out.2.1, HF.out.2.2.1, _, rfl, ⟨_, rfl, HF.out.2.2.2 (fun b => W.heap.size + 3 ≤ b) _ (fun b hb => hb) (by have e : (x == 1) = ((x : Int) == 1) := (by rw [Bool.eq_iff_iff, beq_iff_eq, beq_iff_eq]; omega); rw [e]; exact Kd6 _ _ _ _ _ _)⟩, HF.out.1⟩
   ·rw [if_neg hx2] at hbo
    have HDS := yh (HCONS.out.trans hbo)
    clear HCONS hbo
    have x2 : decide ((x : Int) < 2) = false := by rw [decide_eq_false_iff_not]; omega
    go_wp2_with (first
     | (go_at_call 105; first | (refine (Kap _).mono ?_; rintro e W2 ⟨rfl, rfl⟩) | (refine (Ka1 _).mono ?_; rintro e W2 ⟨rfl, rfl⟩))
     | (go_at_call 110; refine HB2.out.mono ?_; rintro e W5 ⟨rfl, hstm, t5⟩; have H5 := yh (And.intro hstm t5); clear hstm t5)
     | (go_at_call 110; refine HC.out.mono ?_; rintro e W1 ⟨rfl, s1, t1⟩
        (
         obtain ⟨hfs, hv3, st3⟩ := Kbq hq t1 s1 #[.int .i64 1, .bool false, .int .i64 0, .string ⟨#[]⟩, .slice none 0 0, .slice none 0 0]
         have c50 := Kab (o := 0) hv3.p5 rfl
         have c2 := Kab (o := 0) hv3.p2 rfl
         have HFS := yh hfs
         have HV3 := yh (And.intro hv3 st3)
         have HB2 := yh (HBY.out _ st3)
         clear hfs hv3 st3 s1 t1 HC))
     | ((with_reducible apply Kad); exact HFS.out; exact rfl; exact rfl; clear HFS; generalize hW3 : World.setRow _ _ _ = W3 at *; clear hW3))
    exact ⟨rfl, Reads.of HDS.out ⟨HV3.out.1.tr.trans H5.out.2, H5.out.1.b, rfl⟩⟩
  ·obtain rfl : r = [] := List.eq_nil_of_length_eq_zero (by omega)
   have HDS := yh (HCONS.out.trans (by rw [rdBool]))
   clear HCONS
   go_wp2_with (first
    | (go_at_call 105; refine (Kap _).mono ?_; rintro e W2 ⟨rfl, rfl⟩)
    | (go_at_call 110; refine HB2.out.mono ?_; rintro e W5 ⟨rfl, rfl⟩)
    | (go_at_call 110; refine HC.out.mono ?_; rintro e W1 ⟨rfl, s1, t1⟩
       (
        obtain ⟨hfs, hv3, st3⟩ := Kbq hq t1 s1 #[.int .i64 1, .bool false, .int .i64 0, .string ⟨#[]⟩, .slice none 0 0, .slice none 0 0]
        have c50 := Kab (o := 0) hv3.p5 rfl
        have c2 := Kab (o := 0) hv3.p2 rfl
        have HFS := yh hfs
        have HV3 := yh (And.intro hv3 st3)
        have HB2 := yh (byte_bad st3)
        clear hfs hv3 st3 s1 t1 HC))
    | ((with_reducible apply Kad); exact HFS.out; exact rfl; exact rfl; clear HFS; generalize hW3 : World.setRow _ _ _ = W3 at *; clear hW3))
   exact ⟨rfl, Reads.of HDS.out ⟨HV3.out.1.tr, HV3.out.2.b, rfl⟩⟩
theorem rvalue_lst {w : World} {d : Nat} (hv : RVal w d) (hd : d + 1 ≤ 64) {W : World} {q : Nat} {l : List UInt8} (h : RSt 141 w W q l) (hl : l.length ≤ 1000000) (hlp : 0 < l.length) {c : Nat} (hc0 : (l[0]).toNat = c) (hc : c = 4) :
 Calls Tryz.prog 71 #[.pointer (some ⟨q, 0, none⟩), .int .i64 ((d : Int) + 1)] W (Reads w W q (rdVal (d + 1) l) (okVal W)) := by
 have zd : (d : Int) ≤ 63 := by omega
 have hb : Below W.heap.size W (((W.alloc (.cells #[.pointer (some ⟨q, 0, none⟩)] 95)).alloc (.cells #[.int .i64 ((d : Int) + 1)] 3)).alloc (.cells #[.int .i64 0, .bool false, .int .i64 0, .string ⟨#[]⟩, .slice none 0 0, .slice none 0 0] 48)) := ((Kac _).alloc (by simp) _).alloc (by simp; omega) _
 have h1 := h.below hb
 have hq := h.lt
 have hcons := Kcd (d := d) hlp
 have hc256 := (l[0]).toNat_lt
 have HC := yh (Kcb h1 hlp)
 rw [hc0] at hcons hc256 HC
 have hrl : (l.drop 1).length ≤ 1000000 := by rw [List.length_drop]; omega
 generalize l.drop 1 = r at *
 subst hc; rw [if_neg (by decide), if_neg (by decide), if_neg (by decide), if_neg (by decide), if_pos rfl] at hcons
 have HCONS := yh hcons
 clear hb h1 h hcons hc0
 go_enter Tryz.func71, Tryz.ntmps71
 ·have HN0 := yh hv
  clear hv
  cases hr : Kas (rdVal d) r with
  | none =>
    have HDN := yh (HCONS.out.trans (show _ = none by rw [hr]; rfl))
    clear HCONS
    go_wp2_with (first
     | (go_at_call 105; refine (Kap _).mono ?_; rintro e W2 ⟨rfl, rfl⟩)
     | (go_at_call 110; refine HC.out.mono ?_; rintro e W1 ⟨rfl, s1, t1⟩
        (
         obtain ⟨hfs, hv3, st3⟩ := Kbq hq t1 s1 #[.int .i64 4, .bool false, .int .i64 0, .string ⟨#[]⟩, .slice none 0 0, .slice none 0 0]
         have c50 := Kab (o := 0) hv3.p5 rfl
         have c2 := Kab (o := 0) hv3.p2 rfl
         have HFS := yh hfs
         have HV3 := yh (And.intro hv3 st3)
         have HN := yh (rrowsV_any (a1 := some ⟨W.heap.size, 0, none⟩) (a2 := some ⟨W.heap.size + 1, 0, none⟩) Kdj (rdVal d) (kv0 := .slice none 0 0) hrl st3 (fun _ W' kv => VS W q ((d : Int) + 1) W1.heap.size #[.int .i64 4, .bool false, .int .i64 0, .string ⟨#[]⟩, .slice none 0 0, .slice none 0 0] W' ∧ kv = .slice none 0 0) (fun W' => RTo q W W')
         ⟨fun {m Wx Wy kv} hj hsz hbw hk => ⟨hj.1.keep hsz fun b hb1 hq1 => hk b (by have := hj.1.lt; have := hj.1.tr.size; have := hj.1.lo; omega) hq1 (.inl (by have := hv3.lt; have := hv3.tr.size; have := hv3.lo; omega)), hj.2⟩, fun {m Wx kv} hj b hb1 => (by rw [hj.2] at hb1; simp [Value.ownBlock] at hb1)⟩
         (fun m W' kv hj => hj.1.tr) ⟨hv3, rfl⟩ (fun m Wx kv l' hj hsz hstx hlx _ => (rinner_any HN0.out (by omega) hj.1 hstx hlx).mono fun e W' hres => by
           cases hdx : rdVal d l' with
           | none => rw [hdx] at hres; obtain ⟨ta, hba, hea⟩ := hres.none; exact ⟨hea, hj.1.tr.trans ta, hba⟩
           | some px =>
             obtain ⟨vx, sx⟩ := px
             rw [hdx] at hres
             obtain ⟨ta, hba, vv, hea, ⟨csx, hcx, hox⟩, hsx⟩ := hres.some
             subst hcx
             have hle : sx.length ≤ l'.length := by
              obtain ⟨e1, _⟩ := (rt_val d).sound _ _ _ hdx
              have := congrArg List.length e1
              rw [List.length_append] at this
              omega
             exact ⟨csx, .slice none 0 0, hea, ⟨ta.size, fun b hb1 hq1 _ _ => ta.keep b hb1 hq1, hox.imp fun b _ hb1 => ⟨hb1, by simp [Value.ownBlock]⟩, hsx, ⟨hj.1.step ta, rfl⟩, .inl (by rw [hj.2])⟩, hle⟩))
         rw [hr] at HN
         have HIN := yh (Kah (P := Tryz.prog) Tryz.underlying170 rfl (Kab (o := 0) hv3.p6 rfl))
         clear hfs hv3 st3 s1 t1 HC))
     | ((with_reducible apply Kad); exact HFS.out; exact rfl; exact rfl; clear HFS; generalize hW3 : World.setRow _ _ _ = W3 at *; clear hW3)
     | ((with_reducible apply Kal); exact HIN.out; exact rfl; clear HIN)
     | (go_at_call 124; refine HN.out.mono ?_; rintro e W5 ⟨rfl, h5⟩; have H5 := yh h5; clear h5))
    exact ⟨rfl, Reads.of HDN.out ⟨H5.out.1, H5.out.2, rfl⟩⟩
  | some p =>
    obtain ⟨xs, s⟩ := p
    have HDS := yh (HCONS.out.trans (show _ = some (.mk 4 false 0 [] [] xs, s) by rw [hr]; rfl))
    clear HCONS
    have HCONS := HDS
    clear HDS
    go_wp2_with (first
     | (go_at_call 105; refine (Kap _).mono ?_; rintro e W2 ⟨rfl, rfl⟩)
     | (go_at_call 110; refine HC.out.mono ?_; rintro e W1 ⟨rfl, s1, t1⟩
        (
         obtain ⟨hfs, hv3, st3⟩ := Kbq hq t1 s1 #[.int .i64 4, .bool false, .int .i64 0, .string ⟨#[]⟩, .slice none 0 0, .slice none 0 0]
         have c50 := Kab (o := 0) hv3.p5 rfl
         have c2 := Kab (o := 0) hv3.p2 rfl
         have HFS := yh hfs
         have HV3 := yh (And.intro hv3 st3)
         have HN := yh (rrowsV_any (a1 := some ⟨W.heap.size, 0, none⟩) (a2 := some ⟨W.heap.size + 1, 0, none⟩) Kdj (rdVal d) (kv0 := .slice none 0 0) hrl st3 (fun _ W' kv => VS W q ((d : Int) + 1) W1.heap.size #[.int .i64 4, .bool false, .int .i64 0, .string ⟨#[]⟩, .slice none 0 0, .slice none 0 0] W' ∧ kv = .slice none 0 0) (fun W' => RTo q W W')
         ⟨fun {m Wx Wy kv} hj hsz hbw hk => ⟨hj.1.keep hsz fun b hb1 hq1 => hk b (by have := hj.1.lt; have := hj.1.tr.size; have := hj.1.lo; omega) hq1 (.inl (by have := hv3.lt; have := hv3.tr.size; have := hv3.lo; omega)), hj.2⟩, fun {m Wx kv} hj b hb1 => (by rw [hj.2] at hb1; simp [Value.ownBlock] at hb1)⟩
         (fun m W' kv hj => hj.1.tr) ⟨hv3, rfl⟩ (fun m Wx kv l' hj hsz hstx hlx _ => (rinner_any HN0.out (by omega) hj.1 hstx hlx).mono fun e W' hres => by
           cases hdx : rdVal d l' with
           | none => rw [hdx] at hres; obtain ⟨ta, hba, hea⟩ := hres.none; exact ⟨hea, hj.1.tr.trans ta, hba⟩
           | some px =>
             obtain ⟨vx, sx⟩ := px
             rw [hdx] at hres
             obtain ⟨ta, hba, vv, hea, ⟨csx, hcx, hox⟩, hsx⟩ := hres.some
             subst hcx
             have hle : sx.length ≤ l'.length := by
              obtain ⟨e1, _⟩ := (rt_val d).sound _ _ _ hdx
              have := congrArg List.length e1
              rw [List.length_append] at this
              omega
             exact ⟨csx, .slice none 0 0, hea, ⟨ta.size, fun b hb1 hq1 _ _ => ta.keep b hb1 hq1, hox.imp fun b _ hb1 => ⟨hb1, by simp [Value.ownBlock]⟩, hsx, ⟨hj.1.step ta, rfl⟩, .inl (by rw [hj.2])⟩, hle⟩))
         rw [hr] at HN
         have HIN := yh (Kah (P := Tryz.prog) Tryz.underlying170 rfl (Kab (o := 0) hv3.p6 rfl))
         clear hfs hv3 st3 s1 t1 HC))
     | ((with_reducible apply Kad); exact HFS.out; exact rfl; exact rfl; clear HFS; generalize hW3 : World.setRow _ _ _ = W3 at *; clear hW3)
     | ((with_reducible apply Kal); exact HIN.out; exact rfl; clear HIN)
     | (go_at_call 124; refine HN.out.mono ?_; rintro e W5 ⟨vr, kv, rfl, hinv, _⟩
        (
         obtain ⟨pl, cl, rfl⟩ := hinv.row.slice
         have hV5 := hinv.j.1
         have howns : VOwn ((W5.setCell ⟨W1.heap.size, 5, none⟩ (.slice pl xs.length cl))) (fun b => W.heap.size + 3 ≤ b) (.mk 4 false 0 [] [] xs) #[.int .i64 4, .bool false, .int .i64 0, .string ⟨#[]⟩, .slice none 0 0, .slice pl xs.length cl] := by
          have hg := hinv.row.own Kdj
          have hlow := GOwn.low (f := fun v => v) hg
          rw [List.map_id'] at hlow
          have hset : ∀ b, b ≠ W1.heap.size → (W5.setCell ⟨W1.heap.size, 5, none⟩ (.slice pl xs.length cl)).heap[b]? = W5.heap[b]? := fun b hb1 => Below.heap_setCell _ _ _ _ hb1
          have hx : VOwn W5 (fun b => W3.heap.size ≤ b) (.mk 4 false 0 [] [] xs) #[.int .i64 4, .bool false, .int .i64 0, .string ⟨#[]⟩, .slice none 0 0, .slice pl xs.length cl] :=
           Kck.2 ⟨_, _, rfl, ⟨⟨by simp, .inl ⟨rfl, rfl⟩⟩, fun g hg => by simp [Value.ownBlock] at hg⟩, hlow.imp fun b _ hb1 => hb1.1⟩
          exact (hx.keep (w' := W5.setCell ⟨W1.heap.size, 5, none⟩ (.slice pl xs.length cl)) fun b hb1 _ => hset b (by have := HV3.out.1.lt; omega)).imp fun b _ hb1 => by have := HV3.out.1.lt; have := HV3.out.1.lo; omega
         generalize xs.length = nl at *
         have hVn : VS W q ((d : Int) + 1) W1.heap.size #[.int .i64 4, .bool false, .int .i64 0, .string ⟨#[]⟩, .slice none 0 0, .slice pl nl cl] (W5.setCell ⟨W1.heap.size, 5, none⟩ (.slice pl nl cl)) := by simpa using hV5.set 5 (.slice pl nl cl)
         have hstn := hV5.setR hinv.st 5 (.slice pl nl cl)
         have HST := yh (put_vas (p := pl) (n := nl) (c := cl) (Kab (o := 5) hV5.p5 rfl) (Kav (o := 5) hV5.p5))
         obtain ⟨f1, f2, f3, f4, f5, f6, f7⟩ := hVn.fin rfl (ones6 _ _ _ _ rfl rfl) hstn
         have HL5 := yh f1
         have HS4 := yh f2
         have HLD := yh f3
         have HF := yh (And.intro f4 (And.intro f5 (And.intro f6 f7)))
         clear f1 f2 f3 f4 f5 f6 f7
         have HO := yh howns
         clear hV5 hVn hstn howns HN))
     | ((with_reducible apply Kad); exact HST.out; exact rfl; exact rfl; clear HST)
     | ((with_reducible apply Kal); exact HL5.out; exact rfl)
     | ((with_reducible apply Kad); exact HS4.out; exact rfl; exact rfl))
    refine bodyPost_ret (Kaj rfl _ _ ⟨W.heap.size + 2, 0, none⟩ _ rfl HLD.out) rfl ?_
    exact Reads.of HCONS.out ⟨HF.out.2.1, HF.out.2.2.1, _, rfl, ⟨_, rfl, HF.out.2.2.2 (fun b => W.heap.size + 3 ≤ b) _ (fun b hb => hb) HO.out⟩, HF.out.1⟩
theorem rvalue_map {w : World} {d : Nat} (hv : RVal w d) (hd : d + 1 ≤ 64) {W : World} {q : Nat} {l : List UInt8} (h : RSt 141 w W q l) (hl : l.length ≤ 1000000) (hlp : 0 < l.length) {c : Nat} (hc0 : (l[0]).toNat = c) (hc : c = 5) :
 Calls Tryz.prog 71 #[.pointer (some ⟨q, 0, none⟩), .int .i64 ((d : Int) + 1)] W (Reads w W q (rdVal (d + 1) l) (okVal W)) := by
 have zd : (d : Int) ≤ 63 := by omega
 have hb : Below W.heap.size W (((W.alloc (.cells #[.pointer (some ⟨q, 0, none⟩)] 95)).alloc (.cells #[.int .i64 ((d : Int) + 1)] 3)).alloc (.cells #[.int .i64 0, .bool false, .int .i64 0, .string ⟨#[]⟩, .slice none 0 0, .slice none 0 0] 48)) := ((Kac _).alloc (by simp) _).alloc (by simp; omega) _
 have h1 := h.below hb
 have hq := h.lt
 have hcons := Kcd (d := d) hlp
 have hc256 := (l[0]).toNat_lt
 have HC := yh (Kcb h1 hlp)
 rw [hc0] at hcons hc256 HC
 have hrl : (l.drop 1).length ≤ 1000000 := by rw [List.length_drop]; omega
 generalize l.drop 1 = r at *
 subst hc; rw [if_neg (by decide), if_neg (by decide), if_neg (by decide), if_neg (by decide), if_neg (by decide), if_pos rfl] at hcons
 have HCONS := yh hcons
 clear hb h1 h hcons hc0
 go_enter Tryz.func71, Tryz.ntmps71
 ·have HN0 := yh hv
  clear hv
  cases hr : Kas (Dec.seq Ka4 (rdVal d)) r with
  | none =>
    have HDN := yh (HCONS.out.trans (show _ = none by rw [hr]; rfl))
    clear HCONS
    go_wp2_with (first
     | (go_at_call 105; refine (Kap _).mono ?_; rintro e W2 ⟨rfl, rfl⟩)
     | (go_at_call 110; refine HC.out.mono ?_; rintro e W1 ⟨rfl, s1, t1⟩
        (
         obtain ⟨hfs, hv3, st3⟩ := Kbq hq t1 s1 #[.int .i64 5, .bool false, .int .i64 0, .string ⟨#[]⟩, .slice none 0 0, .slice none 0 0]
         have c50 := Kab (o := 0) hv3.p5 rfl
         have c2 := Kab (o := 0) hv3.p2 rfl
         have HFS := yh hfs
         have HV3 := yh (And.intro hv3 st3)
         have HN := yh (rrowsM_any (a1 := some ⟨W.heap.size, 0, none⟩) (a2 := some ⟨W1.heap.size, 0, none⟩) (a3 := some ⟨W1.heap.size + 1, 0, none⟩) el_pair (Dec.seq Ka4 (rdVal d)) (kv0 := .slice none 0 0) hrl st3 (MapR W (((W1.alloc (.cells #[.int .i64 5, .bool false, .int .i64 0, .string ⟨#[]⟩, .slice none 0 0, .slice none 0 0] 48)).alloc (.cells #[.nilFunc] 170)).setRow (W1.heap.size + 1) #[innerV W.heap.size]) q d W1.heap.size) (fun W' => RTo q W W')
         (MapR.keepJ hv3.lt hv3.lo) (fun m W' kv hj => hj.1.tr) ⟨hv3, ⟨⟨by simp, .inl ⟨rfl, rfl⟩⟩, fun g hg => by simp [Value.ownBlock] at hg⟩⟩
         (fun m Wx kv l' hj hsz hstx hlx hmx => (rkv_any HN0.out (by omega) hv3.lt hj hsz hstx hlx hmx).mono fun e W' hres => by
           cases hdx : Dec.seq Ka4 (rdVal d) l' with
           | none => rw [hdx] at hres; exact hres
           | some px => rw [hdx] at hres; exact hres))
         rw [hr] at HN
         have HIN := yh (Kah (P := Tryz.prog) Tryz.underlying170 rfl (Kab (o := 0) hv3.p6 rfl))
         clear hfs hv3 st3 s1 t1 HC))
     | ((with_reducible apply Kad); exact HFS.out; exact rfl; exact rfl; clear HFS; generalize hW3 : World.setRow _ _ _ = W3 at *; clear hW3)
     | ((with_reducible apply Kal); exact HIN.out; exact rfl; clear HIN)
     | (go_at_call 124; refine HN.out.mono ?_; rintro e W5 ⟨rfl, h5⟩; have H5 := yh h5; clear h5))
    exact ⟨rfl, Reads.of HDN.out ⟨H5.out.1, H5.out.2, rfl⟩⟩
  | some p =>
    obtain ⟨xs, s⟩ := p
    have HDS := yh (HCONS.out.trans (show _ = some (.mk 5 false 0 [] (xs.map Prod.fst) (xs.map Prod.snd), s) by rw [hr]; rfl))
    clear HCONS
    have HCONS := HDS
    clear HDS
    go_wp2_with (first
     | (go_at_call 105; refine (Kap _).mono ?_; rintro e W2 ⟨rfl, rfl⟩)
     | (go_at_call 110; refine HC.out.mono ?_; rintro e W1 ⟨rfl, s1, t1⟩
        (
         obtain ⟨hfs, hv3, st3⟩ := Kbq hq t1 s1 #[.int .i64 5, .bool false, .int .i64 0, .string ⟨#[]⟩, .slice none 0 0, .slice none 0 0]
         have c50 := Kab (o := 0) hv3.p5 rfl
         have c2 := Kab (o := 0) hv3.p2 rfl
         have HFS := yh hfs
         have HV3 := yh (And.intro hv3 st3)
         have HN := yh (rrowsM_any (a1 := some ⟨W.heap.size, 0, none⟩) (a2 := some ⟨W1.heap.size, 0, none⟩) (a3 := some ⟨W1.heap.size + 1, 0, none⟩) el_pair (Dec.seq Ka4 (rdVal d)) (kv0 := .slice none 0 0) hrl st3 (MapR W (((W1.alloc (.cells #[.int .i64 5, .bool false, .int .i64 0, .string ⟨#[]⟩, .slice none 0 0, .slice none 0 0] 48)).alloc (.cells #[.nilFunc] 170)).setRow (W1.heap.size + 1) #[innerV W.heap.size]) q d W1.heap.size) (fun W' => RTo q W W')
         (MapR.keepJ hv3.lt hv3.lo) (fun m W' kv hj => hj.1.tr) ⟨hv3, ⟨⟨by simp, .inl ⟨rfl, rfl⟩⟩, fun g hg => by simp [Value.ownBlock] at hg⟩⟩
         (fun m Wx kv l' hj hsz hstx hlx hmx => (rkv_any HN0.out (by omega) hv3.lt hj hsz hstx hlx hmx).mono fun e W' hres => by
           cases hdx : Dec.seq Ka4 (rdVal d) l' with
           | none => rw [hdx] at hres; exact hres
           | some px => rw [hdx] at hres; exact hres))
         rw [hr] at HN
         have HIN := yh (Kah (P := Tryz.prog) Tryz.underlying170 rfl (Kab (o := 0) hv3.p6 rfl))
         clear hfs hv3 st3 s1 t1 HC))
     | ((with_reducible apply Kad); exact HFS.out; exact rfl; exact rfl; clear HFS; generalize hW3 : World.setRow _ _ _ = W3 at *; clear hW3)
     | ((with_reducible apply Kal); exact HIN.out; exact rfl; clear HIN)
     | (go_at_call 124; refine HN.out.mono ?_; rintro e W5 ⟨vr, kv, rfl, hinv, _⟩
        (
         obtain ⟨pl, cl, rfl⟩ := hinv.row.slice
         have hV5 := hinv.j.1
         obtain ⟨pk, nk, ck, rfl⟩ : ∃ pk nk ck, kv = .slice pk nk ck := by
          rcases hinv.j.2.1.2 with ⟨h, _⟩ | ⟨g, cap, cur, h, _⟩ <;> exact ⟨_, _, _, h⟩
         have howns : VOwn ((W5.setCell ⟨W1.heap.size, 5, none⟩ (.slice pl xs.length cl))) (fun b => W.heap.size + 3 ≤ b) (.mk 5 false 0 [] (xs.map Prod.fst) (xs.map Prod.snd)) #[.int .i64 5, .bool false, .int .i64 0, .string ⟨#[]⟩, .slice pk nk ck, .slice pl xs.length cl] := by
          have hlow := GOwn.low (f := fun p : List UInt8 × V => p.2) (hinv.row.own el_pair)
          have hset : ∀ b, b ≠ W1.heap.size → (W5.setCell ⟨W1.heap.size, 5, none⟩ (.slice pl xs.length cl)).heap[b]? = W5.heap[b]? := fun b hb1 => Below.heap_setCell _ _ _ _ hb1
          have hx : VOwn W5 (fun b => W3.heap.size ≤ b) (.mk 5 false 0 [] (xs.map Prod.fst) (xs.map Prod.snd)) #[.int .i64 5, .bool false, .int .i64 0, .string ⟨#[]⟩, .slice pk nk ck, .slice pl xs.length cl] :=
           Kck.2 ⟨_, _, rfl, by have hk := hinv.j.2; rw [List.length_map, List.map_map]; exact hk, hlow.imp fun b _ hb1 => hb1.1⟩
          exact (hx.keep (w' := W5.setCell ⟨W1.heap.size, 5, none⟩ (.slice pl xs.length cl)) fun b hb1 _ => hset b (by have := HV3.out.1.lt; omega)).imp fun b _ hb1 => by have := HV3.out.1.lt; have := HV3.out.1.lo; omega
         generalize xs.length = nl at *
         have hVn : VS W q ((d : Int) + 1) W1.heap.size #[.int .i64 5, .bool false, .int .i64 0, .string ⟨#[]⟩, .slice pk nk ck, .slice pl nl cl] (W5.setCell ⟨W1.heap.size, 5, none⟩ (.slice pl nl cl)) := by simpa using hV5.set 5 (.slice pl nl cl)
         have hstn := hV5.setR hinv.st 5 (.slice pl nl cl)
         have HST := yh (put_vas (p := pl) (n := nl) (c := cl) (Kab (o := 5) hV5.p5 rfl) (Kav (o := 5) hV5.p5))
         obtain ⟨f1, f2, f3, f4, f5, f6, f7⟩ := hVn.fin rfl (ones6 _ _ _ _ rfl rfl) hstn
         have HL5 := yh f1
         have HS4 := yh f2
         have HLD := yh f3
         have HF := yh (And.intro f4 (And.intro f5 (And.intro f6 f7)))
         clear f1 f2 f3 f4 f5 f6 f7
         have HO := yh howns
         clear hV5 hVn hstn howns HN))
     | ((with_reducible apply Kad); exact HST.out; exact rfl; exact rfl; clear HST)
     | ((with_reducible apply Kal); exact HL5.out; exact rfl)
     | ((with_reducible apply Kad); exact HS4.out; exact rfl; exact rfl))
    refine bodyPost_ret (Kaj rfl _ _ ⟨W.heap.size + 2, 0, none⟩ _ rfl HLD.out) rfl ?_
    exact Reads.of HCONS.out ⟨HF.out.2.1, HF.out.2.2.1, _, rfl, ⟨_, rfl, HF.out.2.2.2 (fun b => W.heap.size + 3 ≤ b) _ (fun b hb => hb) HO.out⟩, HF.out.1⟩
theorem rvalue_end {w : World} {d : Nat} (hd : d + 1 ≤ 64) {W : World} {q : Nat} (h : RSt 141 w W q []) :
 Calls Tryz.prog 71 #[.pointer (some ⟨q, 0, none⟩), .int .i64 ((d : Int) + 1)] W (Reads w W q (rdVal (d + 1) []) (okVal W)) := by
 have zd : (d : Int) ≤ 63 := by omega
 have hb : Below W.heap.size W (((W.alloc (.cells #[.pointer (some ⟨q, 0, none⟩)] 95)).alloc (.cells #[.int .i64 ((d : Int) + 1)] 3)).alloc (.cells #[.int .i64 0, .bool false, .int .i64 0, .string ⟨#[]⟩, .slice none 0 0, .slice none 0 0] 48)) := ((Kac _).alloc (by simp) _).alloc (by simp; omega) _
 have HC := yh (byte_bad (h.below hb))
 have HB := yh (And.intro hb (Kaa h.b hb))
 clear hb h
 rw [rdVal_nil]
 go_enter Tryz.func71, Tryz.ntmps71
 go_wp2_with (first
  | (go_at_call 105; refine (Kap _).mono ?_; rintro e W2 ⟨rfl, rfl⟩)
  | (go_at_call 110; refine HC.out.mono ?_; rintro e W1 ⟨rfl, rfl⟩))
 exact ⟨rfl, RTo.of_below HB.out.1, HB.out.2, rfl⟩
theorem rvalue_any (w : World) : ∀ d, d ≤ 64 → RVal w d
 | 0, _ => rvalue_zero w
 | d + 1, hd => by
   have hv := rvalue_any w d (by omega)
   intro W q l h hl
   have zc : (((d + 1 : Nat) : Int)) = (d : Int) + 1 := by omega
   rw [zc]
   by_cases hlp : 0 < l.length
   ·have hc : (l[0]).toNat = 0 ∨ (l[0]).toNat = 1 ∨ (l[0]).toNat = 2 ∨ (l[0]).toNat = 3 ∨ (l[0]).toNat = 4 ∨ (l[0]).toNat = 5 ∨ (l[0]).toNat = 6 ∨ (l[0]).toNat = 7 ∨ 8 ≤ (l[0]).toNat := by omega
    rcases hc with hc | hc | hc | hc | hc | hc | hc | hc | hc
    ·exact rvalue_nul hv hd h hl hlp hc rfl
    ·exact rvalue_boo hv hd h hl hlp hc rfl
    ·exact rvalue_int hv hd h hl hlp hc rfl
    ·exact rvalue_txt hv hd h hl hlp hc rfl
    ·exact rvalue_lst hv hd h hl hlp hc rfl
    ·exact rvalue_map hv hd h hl hlp hc rfl
    ·exact rvalue_nod hv hd h hl hlp hc rfl
    ·exact rvalue_rel hv hd h hl hlp hc rfl
    ·exact rvalue_bad hv hd h hl hlp rfl hc
   ·obtain rfl : l = [] := List.eq_nil_of_length_eq_zero (by omega)
    exact rvalue_end hd h
structure BX (T : TypeId) (W : World) (q : Nat) (z : Array Value) (B : Nat) (cs : Array Value) (W' : World) : Prop where
 p2 : W'.heap[W.heap.size]? = some (.cells z T (0, 0))
 p3 : W'.heap[B]? = some (.cells cs T (0, 0))
 lo : W.heap.size + 1 ≤ B
 ql : q < W.heap.size
 tr : RTo q W W'
section
variable {T t : TypeId} {K k : Nat} {z cs : Array Value} {w W W1 W' W'' : World} {q B : Nat} {l' : List UInt8}
theorem BX.lt (h : BX T W q z B cs W') : B < W'.heap.size := (Array.getElem?_eq_some_iff.1 h.p3).1
theorem BX.step (h : BX T W q z B cs W') (t : RTo q W' W'') : BX T W q z B cs W'' := by
 have h1 := h.lt
 have h2 := h.lo
 have h3 := h.ql
 exact ⟨(t.keep _ (by omega) (by omega)).trans h.p2, (t.keep _ h1 (by omega)).trans h.p3, h.lo, h.ql, h.tr.trans t⟩
theorem BX.start (hq : q < W.heap.size) (t1 : RTo q (W.alloc (.cells z T)) W1) : BX T W q z W1.heap.size cs (W1.alloc (.cells cs T)) := by
 have hs : (W.alloc (.cells z T)).heap.size = W.heap.size + 1 := by simp
 have h1 := t1.size
 have hb := Kac (w := W1) (.cells cs T)
 have hb0 := Kac (w := W) (.cells z T)
 exact ⟨(hb.block _ (by omega)).trans ((t1.keep _ (by omega) (by omega)).trans (heap_alloc_new W _)), heap_alloc_new W1 _, by omega, hq,
  ⟨by have := hb.size; omega, fun b hb1 hq1 => (hb.block _ (by omega)).trans ((t1.keep _ (by omega) hq1).trans (hb0.block b hb1))⟩⟩
theorem BX.turn (h : BX T W q z B cs W') {cs' : Array Value} (hB : W''.heap[B]? = some (.cells cs' T (0, 0))) (ho : ∀ b, b ≠ B → W''.heap[b]? = W'.heap[b]?) (hs : W''.heap.size = W'.heap.size) : BX T W q z B cs' W'' := by
 have h2 := h.lo
 exact ⟨(ho _ (by omega)).trans h.p2, hB, h.lo, h.ql, ⟨by rw [hs]; exact h.tr.size, fun b hb1 hq1 => (ho _ (by omega)).trans (h.tr.keep b hb1 hq1)⟩⟩
theorem BX.set (h : BX T W q z B cs W') (i : Nat) (u : Value) : BX T W q z B (cs.setIfInBounds i u) (W'.setCell ⟨B, i, none⟩ u) :=
 h.turn (Kcw u h.p3) (fun b hb => Below.heap_setCell _ _ _ _ hb) (by simp [World.setCell])
theorem BX.other (h : BX T W q z B cs W') (g : RSt 141 w W' q l') (ho : ∀ b, b ≠ B → W''.heap[b]? = W'.heap[b]?) (hB : Below w.heap.size w W'') : RSt 141 w W'' q l' :=
 g.other hB (ho q (by have := h.lo; have := h.ql; omega))
theorem BX.setR (h : BX T W q z B cs W') (g : RSt 141 w W' q l') (i : Nat) (u : Value) : RSt 141 w (W'.setCell ⟨B, i, none⟩ u) q l' :=
 h.other g (fun b hb => Below.heap_setCell _ _ _ _ hb) (Kbf g.b (by have := g.base; have := h.lo; have := h.ql; omega) u)
theorem Kch (h : Below w.heap.size w W') (hB : w.heap.size ≤ B) (x : Array Value) : Below w.heap.size w (W'.setRow B x) := by
 have hs : (W'.setRow B x).heap.size = W'.heap.size := by simp
 have hgs := h.size
 obtain ⟨b1, b2, b3, b4, b5⟩ := h
 exact ⟨b1, b2, b3, by rw [hs]; exact hgs, fun b hb => (setRow_other W' B b x (by omega)).trans (b5 b hb)⟩
theorem BX.fin (hT : StT Tryz.prog T K) (h : BX T W q z B cs W') (hs : cs.size = K) (hz : z.size = K) (h1 : ∀ u ∈ cs.toList, u.oneCell' = true) (g : RSt 141 w W' q l') :
 (loadVar T ⟨B, 0, none⟩).run Tryz.prog W' = .ok (.agg cs) W' ∧ (storeVar T ⟨W.heap.size, 0, none⟩ (.agg cs)).run Tryz.prog W' = .ok () (W'.setRow W.heap.size cs) ∧
 (loadVar T ⟨W.heap.size, 0, none⟩).run Tryz.prog (W'.setRow W.heap.size cs) = .ok (.agg cs) (W'.setRow W.heap.size cs) ∧ RSt 141 w (W'.setRow W.heap.size cs) q l' ∧ RTo q W (W'.setRow W.heap.size cs) ∧ Below w.heap.size w (W'.setRow W.heap.size cs) ∧
 (∀ b, b ≠ W.heap.size → (W'.setRow W.heap.size cs).heap[b]? = W'.heap[b]?) := by
 have ho : ∀ b, b ≠ W.heap.size → (W'.setRow W.heap.size cs).heap[b]? = W'.heap[b]? := fun b hb => setRow_other W' _ b cs hb
 have hq := h.ql
 have hbase := g.base
 have hsz : (W'.setRow W.heap.size cs).heap.size = W'.heap.size := by simp
 have hB : Below w.heap.size w (W'.setRow W.heap.size cs) := Kch g.b (by omega) cs
 exact ⟨hT.get hs h.p3, hT.put hs h1 h.p2 hz, hT.get hs (setRow_heap W' _ z cs _ _ h.p2), g.other hB (ho q (by omega)), ⟨by rw [hsz]; exact h.tr.size, fun b hb hqb => (ho b (by omega)).trans (h.tr.keep b hb hqb)⟩, hB, ho⟩
end
theorem put_props {w : World} {ad : Addr} {p : Option Addr} {n c : Nat} {u : Value} (hc : w.cell? ad = some u) (hf : w.frozen? ad = false) : (storeVar 68 ad (.slice p n c)).run Tryz.prog w = .ok () (w.setCell ad (.slice p n c)) := by
 simp [storeVar, go_sem, hc, hf]
theorem rrowsS_any {α : Type} {E : World → (Nat → Prop) → α → Array Value → Prop} (hE : EL E 1) (hstr : ∀ w P x a, E w P x a → ∃ s : List UInt8, a = #[.string (strB s)]) (d : Dec α) {w W : World} {q : Nat} {l : List UInt8} {kv0 : Value} (hl : l.length ≤ 1000000)
 (h : RSt 141 w W q l) (J : List α → World → Value → Prop) (Jx : World → Prop) (hJ : KeepJ w W q J) (hx : ∀ m W' kv, J m W' kv → Jx W') (h0 : J [] W kv0)
 (one : ∀ m W1 kv l', J m W1 kv → W.heap.size ≤ W1.heap.size → RSt 141 w W1 q l' → l'.length ≤ 1000000 → m.length ≤ 1000000 → Calls Tryz.prog 107 #[.pointer (some ⟨q, 0, none⟩)] W1 fun e W2 => match d l' with
   | some (x, s) => ∃ cs kv', e = .returned (cs.getD 0 undef) ∧ ROne 141 E w W q J m W1 kv x s cs kv' W2 ∧ s.length ≤ l'.length
   | none => e = given ∧ Jx W2 ∧ Below w.heap.size w W2) :
 Calls Tryz.prog 106 #[.pointer (some ⟨q, 0, none⟩), .func (.func 107) #[.pointer (some ⟨q, 0, none⟩)] #[]] W (RPost 141 E 9 1 w W q J Jx l.length (Kas d l)) := by
 have hqW := h.lt
 have HN := yh (Kat h)
 have HO := yh one
 have HJ := yh hJ
 have HX := yh hx
 have H0 := yh h0
 clear one hJ hx h0 h
 cases hr : rdN 0 0 l with
 | none =>
   rw [hr] at HN
   clear HO
   go_enter Tryz.func106, Tryz.ntmps106
   go_wp2_with (go_at_call 55; refine HN.out.mono ?_; rintro e W1 h1; obtain ⟨t1, hb1, rfl⟩ := h1.none; have H1 := yh (And.intro t1 hb1); clear h1 t1 hb1)
   exact ⟨rfl, RPost.of_none (Kcl hr) ⟨HX.out _ _ _ (HJ.out.keep H0.out H1.out.1.size H1.out.2 (fun b hb hq _ => H1.out.1.keep b hb hq)), H1.out.2⟩⟩
 | some p =>
   obtain ⟨n, r⟩ := p
   rw [hr] at HN
   have hn := Kde hr
   have hrl : r.length ≤ l.length := by
    obtain ⟨h1, _⟩ := Kb8.sound _ _ _ hr
    rw [h1, List.length_append]; omega
   have z1 : (n : Int) < 18446744073709551616 := by omega
   have z2 : (r.length : Int) ≤ 1000000 := by omega
   by_cases hnr : n ≤ r.length
   ·have HRO := yh (Kdf (d := d) hr hnr)
    have g1 : (n : Int) ≤ (r.length : Int) := by omega
    go_enter Tryz.func106, Tryz.ntmps106
    go_wp2_with (first
     | (go_at_call 55; refine HN.out.mono ?_; rintro e W1 h1
        (
         obtain ⟨t1, hb1, v1, rfl, rfl, s1⟩ := h1.some
         obtain ⟨p1, c1, hbx, _⟩ := s1.box
         have hcq := Kab (o := 0) hbx rfl
         have H1 := yh (And.intro t1 (And.intro hb1 s1))
         clear h1 s1 t1 hb1 hbx))
     | (go_at_call 105; refine (Kap _).mono ?_; rintro e W2 ⟨rfl, rfl⟩))
    go_loopw [6, 21] (fun ov i wr => ∃ (m : List α) (a : Option Addr) (n1 c1 : Nat), m.length ≤ n ∧ i = .int .u64 (m.length : Int) ∧ ov = .slice a n1 c1 ∧ Hid (∃ kv l', RInv 141 E 9 1 w W q J m wr kv (.slice a n1 c1) l' ∧ RepAt d n r m l' ∧ l'.length ≤ r.length)) (fun _ i _ => n - (intOf i).toNat)
    case atStart => exact ⟨[], none, 0, 0, Nat.zero_le _, rfl, rfl, yh ⟨kv0, r, ⟨H1.out.2.2, HJ.out.keep H0.out H1.out.1.size H1.out.2.1 (fun b hb hq _ => H1.out.1.keep b hb hq), GIn.start, H1.out.1.size, hqW⟩, RepAt.start _ _ _, Nat.le_refl _⟩⟩
    case round =>
     obtain ⟨m, a, n1, c1, hm, rfl, rfl, HI⟩ := hrel
     obtain ⟨kv, l', hinv, hrep, hll⟩ := HI.out
     clear HI H1 HN H0 hcq
     by_cases hlt : m.length < n
     ·have g2 : (m.length : Int) < (n : Int) := by omega
      have hone := HO.out m wr kv l' hinv.j hinv.size hinv.st (by omega) (by omega)
      cases hd : d l' with
      | none =>
        rw [hd] at hone
        have hfail := hrep.fail hlt hd
        have HC := yh hone
        have HFL := yh (HRO.out.trans hfail)
        clear hone hinv hrep hfail
        go_wp2_with (go_at_call 107; refine HC.out.mono ?_; rintro e W2 ⟨rfl, hg, hbw⟩; have HG := yh (And.intro hg hbw); clear hg hbw HC)
        exact ⟨rfl, RPost.of_none HFL.out HG.out⟩
      | some p =>
        obtain ⟨x, s⟩ := p
        rw [hd] at hone
        have hstep := hrep.step hlt hd
        have HC := yh hone
        have HV := yh (And.intro hinv hstep)
        have hlt1 : m.length + 1 ≤ n := hlt
        have hm1 : m.length ≤ 1000000 := by omega
        clear hone hinv hrep hstep
        go_wp2_with (first
         | (go_at_call 107; refine HC.out.mono ?_; rintro e W2 ⟨cs, kv2, rfl, hone, hsl⟩
            (
             obtain ⟨s0, rfl⟩ := hstr _ _ _ _ hone.it
             obtain ⟨v4, W4, ha, hinv4⟩ := HV.out.1.step hE gt_str HJ.out hone hm1 45 (Below.refl _ _)
             obtain ⟨a4, n4, c4, rfl⟩ : ∃ a4 n4 c4, v4 = .slice a4 n4 c4 := by obtain ⟨p, c, e⟩ := hinv4.row.slice; exact ⟨_, _, _, e⟩
             have HA := yh ha
             have HR := yh (And.intro hinv4 (show s.length ≤ r.length by omega))
             clear ha hinv4
             clear hone HC))
         | ((with_reducible apply Kbc); exact HA.out; exact rfl; exact rfl))
        go_roundw
        case rel => exact ⟨m ++ [x], a4, n4, c4, by rw [List.length_append]; exact hlt1, by rw [List.length_append]; go_num, rfl, yh ⟨kv2, s, HR.out.1, HV.out.2, HR.out.2⟩⟩
        case measure => simp [intOf]; omega
     ·have hme : m.length = n := by omega
      have g2 : ¬ ((m.length : Int) < (n : Int)) := by omega
      have hdone := hrep.done hme
      have HD := yh (HRO.out.trans hdone)
      have HF := yh (And.intro hinv (show l'.length ≤ l.length by omega))
      clear hinv hrep hdone
      go_wp2
      go_ret
      exact RPost.of_some HD.out HF.out.1 HF.out.2
   ·have HRO := yh (Kca (d := d) hr hnr)
    have g1 : ¬ ((n : Int) ≤ (r.length : Int)) := by omega
    clear HO
    go_enter Tryz.func106, Tryz.ntmps106
    go_wp2_with (first
     | (go_at_call 55; refine HN.out.mono ?_; rintro e W1 h1
        (
         obtain ⟨t1, hb1, v1, rfl, rfl, s1⟩ := h1.some
         obtain ⟨p1, c1, hbx, _⟩ := s1.box
         have hcq := Kab (o := 0) hbx rfl
         have H1 := yh (And.intro t1 hb1)
         clear h1 s1 t1 hb1 hbx))
     | (go_at_call 105; refine (Ka1 _).mono ?_; rintro e W2 ⟨rfl, rfl⟩))
    exact ⟨rfl, RPost.of_none HRO.out ⟨HX.out _ _ _ (HJ.out.keep H0.out H1.out.1.size H1.out.2 (fun b hb hq _ => H1.out.1.keep b hb hq)), H1.out.2⟩⟩
theorem rrowsS_reads {α : Type} {E : World → (Nat → Prop) → α → Array Value → Prop} (hE : EL E 1) (hstr : ∀ w P x a, E w P x a → ∃ s : List UInt8, a = #[.string (strB s)]) (d : Dec α) {w W : World} {q : Nat} {l : List UInt8} (hl : l.length ≤ 1000000)
 (h : RSt 141 w W q l)
 (one : ∀ W1 l', RSt 141 w W1 q l' → l'.length ≤ 1000000 → Calls Tryz.prog 107 #[.pointer (some ⟨q, 0, none⟩)] W1 (Reads w W1 q (d l') fun x v W2 => ∃ cs, v = cs.getD 0 undef ∧ E W2 (fun b => W1.heap.size ≤ b) x cs))
 (hsh : ∀ l' x s, d l' = some (x, s) → s.length ≤ l'.length) :
 Calls Tryz.prog 106 #[.pointer (some ⟨q, 0, none⟩), .func (.func 107) #[.pointer (some ⟨q, 0, none⟩)] #[]] W (Reads w W q (Kas d l) fun xs v W' => GOwn E 9 1 W' (fun b => W.heap.size ≤ b) v xs) := by
 have hq := h.lt
 refine (rrowsS_any hE hstr d (kv0 := .slice none 0 0) hl h (fun _ W' kv => RTo q W W' ∧ kv = .slice none 0 0) (fun W' => RTo q W W') ⟨?_, ?_⟩ (fun m W' kv hj => hj.1) ⟨RTo.refl _ _, rfl⟩ ?_).mono ?_
 ·rintro m W1 W2 kv ⟨h1, rfl⟩ h2 h3 h4
  exact ⟨⟨by have := h1.size; omega, fun b hb hqb => (h4 b (by have := h1.size; omega) hqb (.inl hb)).trans (h1.keep b hb hqb)⟩, rfl⟩
 ·rintro m W1 kv ⟨h1, rfl⟩ b hb
  simp [Value.ownBlock] at hb
 ·rintro m W1 kv l' ⟨h1, rfl⟩ hsz h2 h3 _
  refine (one W1 l' h2 h3).mono ?_
  intro e W2 hr
  cases hd : d l' with
  | none =>
    rw [hd] at hr
    obtain ⟨t, hb, he⟩ := hr.none
    exact ⟨he, h1.trans t, hb⟩
  | some p =>
    obtain ⟨x, s⟩ := p
    rw [hd] at hr
    obtain ⟨t, hb, v, he, ⟨cs, rfl, hit⟩, hst⟩ := hr.some
    exact ⟨cs, .slice none 0 0, he, ⟨t.size, fun b hb hqb _ _ => t.keep b hb hqb, hE.imp (fun b _ hp => ⟨hp, by simp [Value.ownBlock]⟩) hit, hst, ⟨h1.trans t, rfl⟩, .inl rfl⟩, hsh _ _ _ hd⟩
 ·intro e W' hr
  rcases hr.cases with ⟨h1, rfl, h2, h3⟩ | ⟨xs, s, v, kv, h1, rfl, hi, _⟩
  ·rw [h1]
   exact ⟨h2, h3, rfl⟩
  ·rw [h1]
   exact ⟨hi.j.1, hi.st.b, v, rfl, (hi.row.own hE).imp hE fun b _ hp => hp.1, hi.st⟩
theorem rrowsP_any {α : Type} {E : World → (Nat → Prop) → α → Array Value → Prop} (hE : EL E 7) (d : Dec α) {w W : World} {q : Nat} {l : List UInt8} {kv0 : Value} (hl : l.length ≤ 1000000)
 (h : RSt 141 w W q l) (J : List α → World → Value → Prop) (Jx : World → Prop) (hJ : KeepJ w W q J) (hx : ∀ m W' kv, J m W' kv → Jx W') (h0 : J [] W kv0)
 (one : ∀ m W1 kv l', J m W1 kv → W.heap.size ≤ W1.heap.size → RSt 141 w W1 q l' → l'.length ≤ 1000000 → m.length ≤ 1000000 → Calls Tryz.prog 109 #[.pointer (some ⟨q, 0, none⟩)] W1 fun e W2 => match d l' with
   | some (x, s) => ∃ cs kv', e = .returned (.agg cs) ∧ ROne 141 E w W q J m W1 kv x s cs kv' W2 ∧ s.length ≤ l'.length
   | none => e = given ∧ Jx W2 ∧ Below w.heap.size w W2) :
 Calls Tryz.prog 108 #[.pointer (some ⟨q, 0, none⟩), .func (.func 109) #[.pointer (some ⟨q, 0, none⟩)] #[]] W (RPost 141 E 136 7 w W q J Jx l.length (Kas d l)) := by
 have hqW := h.lt
 have HN := yh (Kat h)
 have HO := yh one
 have HJ := yh hJ
 have HX := yh hx
 have H0 := yh h0
 clear one hJ hx h0 h
 cases hr : rdN 0 0 l with
 | none =>
   rw [hr] at HN
   clear HO
   go_enter Tryz.func108, Tryz.ntmps108
   go_wp2_with (go_at_call 55; refine HN.out.mono ?_; rintro e W1 h1; obtain ⟨t1, hb1, rfl⟩ := h1.none; have H1 := yh (And.intro t1 hb1); clear h1 t1 hb1)
   exact ⟨rfl, RPost.of_none (Kcl hr) ⟨HX.out _ _ _ (HJ.out.keep H0.out H1.out.1.size H1.out.2 (fun b hb hq _ => H1.out.1.keep b hb hq)), H1.out.2⟩⟩
 | some p =>
   obtain ⟨n, r⟩ := p
   rw [hr] at HN
   have hn := Kde hr
   have hrl : r.length ≤ l.length := by
    obtain ⟨h1, _⟩ := Kb8.sound _ _ _ hr
    rw [h1, List.length_append]; omega
   have z1 : (n : Int) < 18446744073709551616 := by omega
   have z2 : (r.length : Int) ≤ 1000000 := by omega
   by_cases hnr : n ≤ r.length
   ·have HRO := yh (Kdf (d := d) hr hnr)
    have g1 : (n : Int) ≤ (r.length : Int) := by omega
    go_enter Tryz.func108, Tryz.ntmps108
    go_wp2_with (first
     | (go_at_call 55; refine HN.out.mono ?_; rintro e W1 h1
        (
         obtain ⟨t1, hb1, v1, rfl, rfl, s1⟩ := h1.some
         obtain ⟨p1, c1, hbx, _⟩ := s1.box
         have hcq := Kab (o := 0) hbx rfl
         have H1 := yh (And.intro t1 (And.intro hb1 s1))
         clear h1 s1 t1 hb1 hbx))
     | (go_at_call 105; refine (Kap _).mono ?_; rintro e W2 ⟨rfl, rfl⟩))
    go_loopw [6, 21] (fun ov i wr => ∃ (m : List α) (a : Option Addr) (n1 c1 : Nat), m.length ≤ n ∧ i = .int .u64 (m.length : Int) ∧ ov = .slice a n1 c1 ∧ Hid (∃ kv l', RInv 141 E 136 7 w W q J m wr kv (.slice a n1 c1) l' ∧ RepAt d n r m l' ∧ l'.length ≤ r.length)) (fun _ i _ => n - (intOf i).toNat)
    case atStart => exact ⟨[], none, 0, 0, Nat.zero_le _, rfl, rfl, yh ⟨kv0, r, ⟨H1.out.2.2, HJ.out.keep H0.out H1.out.1.size H1.out.2.1 (fun b hb hq _ => H1.out.1.keep b hb hq), GIn.start, H1.out.1.size, hqW⟩, RepAt.start _ _ _, Nat.le_refl _⟩⟩
    case round =>
     obtain ⟨m, a, n1, c1, hm, rfl, rfl, HI⟩ := hrel
     obtain ⟨kv, l', hinv, hrep, hll⟩ := HI.out
     clear HI H1 HN H0 hcq
     by_cases hlt : m.length < n
     ·have g2 : (m.length : Int) < (n : Int) := by omega
      have hone := HO.out m wr kv l' hinv.j hinv.size hinv.st (by omega) (by omega)
      cases hd : d l' with
      | none =>
        rw [hd] at hone
        have hfail := hrep.fail hlt hd
        have HC := yh hone
        have HFL := yh (HRO.out.trans hfail)
        clear hone hinv hrep hfail
        go_wp2_with (go_at_call 109; refine HC.out.mono ?_; rintro e W2 ⟨rfl, hg, hbw⟩; have HG := yh (And.intro hg hbw); clear hg hbw HC)
        exact ⟨rfl, RPost.of_none HFL.out HG.out⟩
      | some p =>
        obtain ⟨x, s⟩ := p
        rw [hd] at hone
        have hstep := hrep.step hlt hd
        have HC := yh hone
        have HV := yh (And.intro hinv hstep)
        have hlt1 : m.length + 1 ≤ n := hlt
        have hm1 : m.length ≤ 1000000 := by omega
        clear hone hinv hrep hstep
        go_wp2_with (first
         | (go_at_call 109; refine HC.out.mono ?_; rintro e W2 ⟨cs, kv2, rfl, hone, hsl⟩
            (
             have hs := hE.size hone.it
             have hones := hE.ones hone.it
             have hbs := Kao (P := Tryz.prog) (w := W2.alloc (.cells cs 136)) (v := .agg cs) Tryz.underlying68 Tryz.sizeOf136 Tryz.zeroValue136 hs (by omega) (by omega)
             obtain ⟨v4, W4, ha, hinv4⟩ := HV.out.1.step hE gt_prop HJ.out hone hm1 68 (Kac (w := W2) (.cells cs 136))
             obtain ⟨a4, n4, c4, rfl⟩ : ∃ a4 n4 c4, v4 = .slice a4 n4 c4 := by obtain ⟨p, c, e⟩ := hinv4.row.slice; exact ⟨_, _, _, e⟩
             have HS := yh (StT.fresh Kdk hs hones (W := W2))
             have HL := yh (StT.get Kdk hs (heap_alloc_new W2 (.cells cs 136)))
             have HB := yh hbs
             have HA := yh ha
             have HR := yh (And.intro hinv4 (show s.length ≤ r.length by omega))
             clear hs hones hbs ha hinv4
             clear hone HC))
         | ((with_reducible apply Kad); exact HS.out _ rfl; exact rfl; exact rfl; clear HS)
         | ((with_reducible apply Kal); exact HL.out; exact rfl; clear HL)
         | ((with_reducible apply op_bs1); exact HB.out; exact rfl; clear HB)
         | ((with_reducible apply Kbc); exact HA.out; exact rfl; exact rfl))
        go_roundw
        case rel => exact ⟨m ++ [x], a4, n4, c4, by rw [List.length_append]; exact hlt1, by rw [List.length_append]; go_num, rfl, yh ⟨kv2, s, HR.out.1, HV.out.2, HR.out.2⟩⟩
        case measure => simp [intOf]; omega
     ·have hme : m.length = n := by omega
      have g2 : ¬ ((m.length : Int) < (n : Int)) := by omega
      have hdone := hrep.done hme
      have HD := yh (HRO.out.trans hdone)
      have HF := yh (And.intro hinv (show l'.length ≤ l.length by omega))
      clear hinv hrep hdone
      go_wp2
      go_ret
      exact RPost.of_some HD.out HF.out.1 HF.out.2
   ·have HRO := yh (Kca (d := d) hr hnr)
    have g1 : ¬ ((n : Int) ≤ (r.length : Int)) := by omega
    clear HO
    go_enter Tryz.func108, Tryz.ntmps108
    go_wp2_with (first
     | (go_at_call 55; refine HN.out.mono ?_; rintro e W1 h1
        (
         obtain ⟨t1, hb1, v1, rfl, rfl, s1⟩ := h1.some
         obtain ⟨p1, c1, hbx, _⟩ := s1.box
         have hcq := Kab (o := 0) hbx rfl
         have H1 := yh (And.intro t1 hb1)
         clear h1 s1 t1 hb1 hbx))
     | (go_at_call 105; refine (Ka1 _).mono ?_; rintro e W2 ⟨rfl, rfl⟩))
    exact ⟨rfl, RPost.of_none HRO.out ⟨HX.out _ _ _ (HJ.out.keep H0.out H1.out.1.size H1.out.2 (fun b hb hq _ => H1.out.1.keep b hb hq)), H1.out.2⟩⟩
theorem rrowsP_reads {α : Type} {E : World → (Nat → Prop) → α → Array Value → Prop} (hE : EL E 7) (d : Dec α) {w W : World} {q : Nat} {l : List UInt8} (hl : l.length ≤ 1000000)
 (h : RSt 141 w W q l)
 (one : ∀ W1 l', RSt 141 w W1 q l' → l'.length ≤ 1000000 → Calls Tryz.prog 109 #[.pointer (some ⟨q, 0, none⟩)] W1 (Reads w W1 q (d l') fun x v W2 => ∃ cs, v = .agg cs ∧ E W2 (fun b => W1.heap.size ≤ b) x cs))
 (hsh : ∀ l' x s, d l' = some (x, s) → s.length ≤ l'.length) :
 Calls Tryz.prog 108 #[.pointer (some ⟨q, 0, none⟩), .func (.func 109) #[.pointer (some ⟨q, 0, none⟩)] #[]] W (Reads w W q (Kas d l) fun xs v W' => GOwn E 136 7 W' (fun b => W.heap.size ≤ b) v xs) := by
 have hq := h.lt
 refine (rrowsP_any hE d (kv0 := .slice none 0 0) hl h (fun _ W' kv => RTo q W W' ∧ kv = .slice none 0 0) (fun W' => RTo q W W') ⟨?_, ?_⟩ (fun m W' kv hj => hj.1) ⟨RTo.refl _ _, rfl⟩ ?_).mono ?_
 ·rintro m W1 W2 kv ⟨h1, rfl⟩ h2 h3 h4
  exact ⟨⟨by have := h1.size; omega, fun b hb hqb => (h4 b (by have := h1.size; omega) hqb (.inl hb)).trans (h1.keep b hb hqb)⟩, rfl⟩
 ·rintro m W1 kv ⟨h1, rfl⟩ b hb
  simp [Value.ownBlock] at hb
 ·rintro m W1 kv l' ⟨h1, rfl⟩ hsz h2 h3 _
  refine (one W1 l' h2 h3).mono ?_
  intro e W2 hr
  cases hd : d l' with
  | none =>
    rw [hd] at hr
    obtain ⟨t, hb, he⟩ := hr.none
    exact ⟨he, h1.trans t, hb⟩
  | some p =>
    obtain ⟨x, s⟩ := p
    rw [hd] at hr
    obtain ⟨t, hb, v, he, ⟨cs, rfl, hit⟩, hst⟩ := hr.some
    exact ⟨cs, .slice none 0 0, he, ⟨t.size, fun b hb hqb _ _ => t.keep b hb hqb, hE.imp (fun b _ hp => ⟨hp, by simp [Value.ownBlock]⟩) hit, hst, ⟨h1.trans t, rfl⟩, .inl rfl⟩, hsh _ _ _ hd⟩
 ·intro e W' hr
  rcases hr.cases with ⟨h1, rfl, h2, h3⟩ | ⟨xs, s, v, kv, h1, rfl, hi, _⟩
  ·rw [h1]
   exact ⟨h2, h3, rfl⟩
  ·rw [h1]
   exact ⟨hi.j.1, hi.st.b, v, rfl, (hi.row.own hE).imp hE fun b _ hp => hp.1, hi.st⟩
theorem rrowsN_any {α : Type} {E : World → (Nat → Prop) → α → Array Value → Prop} (hE : EL E 3) (d : Dec α) {w W : World} {q : Nat} {l : List UInt8} {kv0 : Value} (hl : l.length ≤ 1000000)
 (h : RSt 141 w W q l) (J : List α → World → Value → Prop) (Jx : World → Prop) (hJ : KeepJ w W q J) (hx : ∀ m W' kv, J m W' kv → Jx W') (h0 : J [] W kv0)
 (one : ∀ m W1 kv l', J m W1 kv → W.heap.size ≤ W1.heap.size → RSt 141 w W1 q l' → l'.length ≤ 1000000 → m.length ≤ 1000000 → Calls Tryz.prog 52 #[.pointer (some ⟨q, 0, none⟩)] W1 fun e W2 => match d l' with
   | some (x, s) => ∃ cs kv', e = .returned (.agg cs) ∧ ROne 141 E w W q J m W1 kv x s cs kv' W2 ∧ s.length ≤ l'.length
   | none => e = given ∧ Jx W2 ∧ Below w.heap.size w W2) :
 Calls Tryz.prog 51 #[.pointer (some ⟨q, 0, none⟩), .func (.func 52) #[.pointer (some ⟨q, 0, none⟩)] #[]] W (RPost 141 E 70 3 w W q J Jx l.length (Kas d l)) := by
 have hqW := h.lt
 have HN := yh (Kat h)
 have HO := yh one
 have HJ := yh hJ
 have HX := yh hx
 have H0 := yh h0
 clear one hJ hx h0 h
 cases hr : rdN 0 0 l with
 | none =>
   rw [hr] at HN
   clear HO
   go_enter Tryz.func51, Tryz.ntmps51
   go_wp2_with (go_at_call 55; refine HN.out.mono ?_; rintro e W1 h1; obtain ⟨t1, hb1, rfl⟩ := h1.none; have H1 := yh (And.intro t1 hb1); clear h1 t1 hb1)
   exact ⟨rfl, RPost.of_none (Kcl hr) ⟨HX.out _ _ _ (HJ.out.keep H0.out H1.out.1.size H1.out.2 (fun b hb hq _ => H1.out.1.keep b hb hq)), H1.out.2⟩⟩
 | some p =>
   obtain ⟨n, r⟩ := p
   rw [hr] at HN
   have hn := Kde hr
   have hrl : r.length ≤ l.length := by
    obtain ⟨h1, _⟩ := Kb8.sound _ _ _ hr
    rw [h1, List.length_append]; omega
   have z1 : (n : Int) < 18446744073709551616 := by omega
   have z2 : (r.length : Int) ≤ 1000000 := by omega
   by_cases hnr : n ≤ r.length
   ·have HRO := yh (Kdf (d := d) hr hnr)
    have g1 : (n : Int) ≤ (r.length : Int) := by omega
    go_enter Tryz.func51, Tryz.ntmps51
    go_wp2_with (first
     | (go_at_call 55; refine HN.out.mono ?_; rintro e W1 h1
        (
         obtain ⟨t1, hb1, v1, rfl, rfl, s1⟩ := h1.some
         obtain ⟨p1, c1, hbx, _⟩ := s1.box
         have hcq := Kab (o := 0) hbx rfl
         have H1 := yh (And.intro t1 (And.intro hb1 s1))
         clear h1 s1 t1 hb1 hbx))
     | (go_at_call 105; refine (Kap _).mono ?_; rintro e W2 ⟨rfl, rfl⟩))
    go_loopw [6, 21] (fun ov i wr => ∃ (m : List α) (a : Option Addr) (n1 c1 : Nat), m.length ≤ n ∧ i = .int .u64 (m.length : Int) ∧ ov = .slice a n1 c1 ∧ Hid (∃ kv l', RInv 141 E 70 3 w W q J m wr kv (.slice a n1 c1) l' ∧ RepAt d n r m l' ∧ l'.length ≤ r.length)) (fun _ i _ => n - (intOf i).toNat)
    case atStart => exact ⟨[], none, 0, 0, Nat.zero_le _, rfl, rfl, yh ⟨kv0, r, ⟨H1.out.2.2, HJ.out.keep H0.out H1.out.1.size H1.out.2.1 (fun b hb hq _ => H1.out.1.keep b hb hq), GIn.start, H1.out.1.size, hqW⟩, RepAt.start _ _ _, Nat.le_refl _⟩⟩
    case round =>
     obtain ⟨m, a, n1, c1, hm, rfl, rfl, HI⟩ := hrel
     obtain ⟨kv, l', hinv, hrep, hll⟩ := HI.out
     clear HI H1 HN H0 hcq
     by_cases hlt : m.length < n
     ·have g2 : (m.length : Int) < (n : Int) := by omega
      have hone := HO.out m wr kv l' hinv.j hinv.size hinv.st (by omega) (by omega)
      cases hd : d l' with
      | none =>
        rw [hd] at hone
        have hfail := hrep.fail hlt hd
        have HC := yh hone
        have HFL := yh (HRO.out.trans hfail)
        clear hone hinv hrep hfail
        go_wp2_with (go_at_call 52; refine HC.out.mono ?_; rintro e W2 ⟨rfl, hg, hbw⟩; have HG := yh (And.intro hg hbw); clear hg hbw HC)
        exact ⟨rfl, RPost.of_none HFL.out HG.out⟩
      | some p =>
        obtain ⟨x, s⟩ := p
        rw [hd] at hone
        have hstep := hrep.step hlt hd
        have HC := yh hone
        have HV := yh (And.intro hinv hstep)
        have hlt1 : m.length + 1 ≤ n := hlt
        have hm1 : m.length ≤ 1000000 := by omega
        clear hone hinv hrep hstep
        go_wp2_with (first
         | (go_at_call 52; refine HC.out.mono ?_; rintro e W2 ⟨cs, kv2, rfl, hone, hsl⟩
            (
             have hs := hE.size hone.it
             have hones := hE.ones hone.it
             have hbs := Kao (P := Tryz.prog) (w := W2.alloc (.cells cs 70)) (v := .agg cs) Tryz.underlying22 Tryz.sizeOf70 Tryz.zeroValue70 hs (by omega) (by omega)
             obtain ⟨v4, W4, ha, hinv4⟩ := HV.out.1.step hE gt_node HJ.out hone hm1 22 (Kac (w := W2) (.cells cs 70))
             obtain ⟨a4, n4, c4, rfl⟩ : ∃ a4 n4 c4, v4 = .slice a4 n4 c4 := by obtain ⟨p, c, e⟩ := hinv4.row.slice; exact ⟨_, _, _, e⟩
             have HS := yh (StT.fresh Kct hs hones (W := W2))
             have HL := yh (StT.get Kct hs (heap_alloc_new W2 (.cells cs 70)))
             have HB := yh hbs
             have HA := yh ha
             have HR := yh (And.intro hinv4 (show s.length ≤ r.length by omega))
             clear hs hones hbs ha hinv4
             clear hone HC))
         | ((with_reducible apply Kad); exact HS.out _ rfl; exact rfl; exact rfl; clear HS)
         | ((with_reducible apply Kal); exact HL.out; exact rfl; clear HL)
         | ((with_reducible apply op_bs1); exact HB.out; exact rfl; clear HB)
         | ((with_reducible apply Kbc); exact HA.out; exact rfl; exact rfl))
        go_roundw
        case rel => exact ⟨m ++ [x], a4, n4, c4, by rw [List.length_append]; exact hlt1, by rw [List.length_append]; go_num, rfl, yh ⟨kv2, s, HR.out.1, HV.out.2, HR.out.2⟩⟩
        case measure => simp [intOf]; omega
     ·have hme : m.length = n := by omega
      have g2 : ¬ ((m.length : Int) < (n : Int)) := by omega
      have hdone := hrep.done hme
      have HD := yh (HRO.out.trans hdone)
      have HF := yh (And.intro hinv (show l'.length ≤ l.length by omega))
      clear hinv hrep hdone
      go_wp2
      go_ret
      exact RPost.of_some HD.out HF.out.1 HF.out.2
   ·have HRO := yh (Kca (d := d) hr hnr)
    have g1 : ¬ ((n : Int) ≤ (r.length : Int)) := by omega
    clear HO
    go_enter Tryz.func51, Tryz.ntmps51
    go_wp2_with (first
     | (go_at_call 55; refine HN.out.mono ?_; rintro e W1 h1
        (
         obtain ⟨t1, hb1, v1, rfl, rfl, s1⟩ := h1.some
         obtain ⟨p1, c1, hbx, _⟩ := s1.box
         have hcq := Kab (o := 0) hbx rfl
         have H1 := yh (And.intro t1 hb1)
         clear h1 s1 t1 hb1 hbx))
     | (go_at_call 105; refine (Ka1 _).mono ?_; rintro e W2 ⟨rfl, rfl⟩))
    exact ⟨rfl, RPost.of_none HRO.out ⟨HX.out _ _ _ (HJ.out.keep H0.out H1.out.1.size H1.out.2 (fun b hb hq _ => H1.out.1.keep b hb hq)), H1.out.2⟩⟩
theorem rrowsN_reads {α : Type} {E : World → (Nat → Prop) → α → Array Value → Prop} (hE : EL E 3) (d : Dec α) {w W : World} {q : Nat} {l : List UInt8} (hl : l.length ≤ 1000000)
 (h : RSt 141 w W q l)
 (one : ∀ W1 l', RSt 141 w W1 q l' → l'.length ≤ 1000000 → Calls Tryz.prog 52 #[.pointer (some ⟨q, 0, none⟩)] W1 (Reads w W1 q (d l') fun x v W2 => ∃ cs, v = .agg cs ∧ E W2 (fun b => W1.heap.size ≤ b) x cs))
 (hsh : ∀ l' x s, d l' = some (x, s) → s.length ≤ l'.length) :
 Calls Tryz.prog 51 #[.pointer (some ⟨q, 0, none⟩), .func (.func 52) #[.pointer (some ⟨q, 0, none⟩)] #[]] W (Reads w W q (Kas d l) fun xs v W' => GOwn E 70 3 W' (fun b => W.heap.size ≤ b) v xs) := by
 have hq := h.lt
 refine (rrowsN_any hE d (kv0 := .slice none 0 0) hl h (fun _ W' kv => RTo q W W' ∧ kv = .slice none 0 0) (fun W' => RTo q W W') ⟨?_, ?_⟩ (fun m W' kv hj => hj.1) ⟨RTo.refl _ _, rfl⟩ ?_).mono ?_
 ·rintro m W1 W2 kv ⟨h1, rfl⟩ h2 h3 h4
  exact ⟨⟨by have := h1.size; omega, fun b hb hqb => (h4 b (by have := h1.size; omega) hqb (.inl hb)).trans (h1.keep b hb hqb)⟩, rfl⟩
 ·rintro m W1 kv ⟨h1, rfl⟩ b hb
  simp [Value.ownBlock] at hb
 ·rintro m W1 kv l' ⟨h1, rfl⟩ hsz h2 h3 _
  refine (one W1 l' h2 h3).mono ?_
  intro e W2 hr
  cases hd : d l' with
  | none =>
    rw [hd] at hr
    obtain ⟨t, hb, he⟩ := hr.none
    exact ⟨he, h1.trans t, hb⟩
  | some p =>
    obtain ⟨x, s⟩ := p
    rw [hd] at hr
    obtain ⟨t, hb, v, he, ⟨cs, rfl, hit⟩, hst⟩ := hr.some
    exact ⟨cs, .slice none 0 0, he, ⟨t.size, fun b hb hqb _ _ => t.keep b hb hqb, hE.imp (fun b _ hp => ⟨hp, by simp [Value.ownBlock]⟩) hit, hst, ⟨h1.trans t, rfl⟩, .inl rfl⟩, hsh _ _ _ hd⟩
 ·intro e W' hr
  rcases hr.cases with ⟨h1, rfl, h2, h3⟩ | ⟨xs, s, v, kv, h1, rfl, hi, _⟩
  ·rw [h1]
   exact ⟨h2, h3, rfl⟩
  ·rw [h1]
   exact ⟨hi.j.1, hi.st.b, v, rfl, (hi.row.own hE).imp hE fun b _ hp => hp.1, hi.st⟩
theorem rdProp_eq (l : List UInt8) : Kdo l = match Ka4 l with
 | none => none
 | some (s, r) => match rdVal 64 r with
   | none => none
   | some (v, t) => some (⟨s, v⟩, t) := by
 unfold Kdo Dec.map Dec.seq
 cases Ka4 l with
 | none => rfl
 | some p =>
   obtain ⟨s, r⟩ := p
   simp only
   cases rdVal 64 r with
   | none => rfl
   | some x => rfl
theorem rdText_le {l r s : List UInt8} (h : Ka4 l = some (s, r)) : r.length ≤ l.length := by
 obtain ⟨e1, _⟩ := Kd5.sound _ _ _ h
 rw [e1, List.length_append]; omega
def okProp (W : World) (p : PropD) (x : Value) (W' : World) : Prop := ∃ cs, x = .agg cs ∧ POwn W' (fun b => W.heap.size ≤ b) p cs
def okNode (W : World) (p : NodeD) (x : Value) (W' : World) : Prop := ∃ cs, x = .agg cs ∧ NOwn W' (fun b => W.heap.size ≤ b) p cs
def okRel (W : World) (p : RelD) (x : Value) (W' : World) : Prop := ∃ cs, x = .agg cs ∧ ROwn W' (fun b => W.heap.size ≤ b) p cs
def Kdt (W : World) (p : ChangeD) (x : Value) (W' : World) : Prop := ∃ cs, x = .agg cs ∧ COwn W' (fun b => W.heap.size ≤ b) p cs
theorem rprop_any {w W : World} {q : Nat} {l : List UInt8} (h : RSt 141 w W q l) (hl : l.length ≤ 1000000) :
 Calls Tryz.prog 109 #[.pointer (some ⟨q, 0, none⟩)] W (Reads w W q (Kdo l) (okProp W)) := by
 have hq := h.lt
 have hbase := h.base
 have hb := Kac (w := W) (.cells #[.string ⟨#[]⟩, .int .i64 0, .bool false, .int .i64 0, .string ⟨#[]⟩, .slice none 0 0, .slice none 0 0] 136)
 have hbx : (W.alloc (.cells #[.string ⟨#[]⟩, .int .i64 0, .bool false, .int .i64 0, .string ⟨#[]⟩, .slice none 0 0, .slice none 0 0] 136)).heap[W.heap.size]? = some (.cells #[.string ⟨#[]⟩, .int .i64 0, .bool false, .int .i64 0, .string ⟨#[]⟩, .slice none 0 0, .slice none 0 0] 136 (0, 0)) := heap_alloc_new W _
 have hlt : W.heap.size < (W.alloc (.cells #[.string ⟨#[]⟩, .int .i64 0, .bool false, .int .i64 0, .string ⟨#[]⟩, .slice none 0 0, .slice none 0 0] 136)).heap.size := by simp
 have HT := yh (Kdy (h.below hb) hl)
 have HB := yh (And.intro hb (And.intro hbx hlt))
 have hv := rvalue_any w 64 (Nat.le_refl _)
 have HV := yh hv
 clear hb hbx hlt h hv
 have he := rdProp_eq l
 cases hr : Ka4 l with
 | none =>
   rw [hr] at HT he
   have HE := yh he
   clear he
   go_enter Tryz.func109, Tryz.ntmps109
   go_wp2_with (go_at_call 107; refine HT.out.mono ?_; rintro e W5 h5; obtain ⟨t5, hb5, rfl⟩ := h5.none; have H5 := yh (And.intro t5 hb5); clear h5 t5 hb5)
   exact ⟨rfl, Reads.of HE.out ⟨(RTo.of_below HB.out.1).trans H5.out.1, H5.out.2, rfl⟩⟩
 | some p =>
   obtain ⟨s, r⟩ := p
   have hrl := rdText_le hr
   rw [hr] at HT he
   simp only at he
   cases hr2 : rdVal 64 r with
   | none =>
     rw [hr2] at he
     have HE := yh he
     clear he
     go_enter Tryz.func109, Tryz.ntmps109
     go_wp2_with (first
      | (go_at_call 107; refine HT.out.mono ?_; rintro e W5 h5
         (
          obtain ⟨t5, hb5, x5, rfl, rfl, s5⟩ := h5.some
          have HC := yh (HV.out W5 q r s5 (by omega))
          rw [hr2] at HC
          have H5 := yh t5
          clear h5 t5 hb5 s5 HT))
      | (go_at_call 71; refine HC.out.mono ?_; rintro e W6 h6; obtain ⟨t6, hb6, rfl⟩ := h6.none; have H6 := yh (And.intro t6 hb6); clear h6 t6 hb6))
     exact ⟨rfl, Reads.of HE.out ⟨((RTo.of_below HB.out.1).trans H5.out).trans H6.out.1, H6.out.2, rfl⟩⟩
   | some p2 =>
     obtain ⟨v, t⟩ := p2
     rw [hr2] at he
     have HE := yh he
     clear he
     go_enter Tryz.func109, Tryz.ntmps109
     go_wp2_with (first
      | (go_at_call 107; refine HT.out.mono ?_; rintro e W5 h5
         (
          obtain ⟨t5, hb5, x5, rfl, rfl, s5⟩ := h5.some
          have HC := yh (HV.out W5 q r s5 (by omega))
          rw [hr2] at HC
          have H5 := yh t5
          clear h5 t5 hb5 s5 HT))
      | (go_at_call 71; refine HC.out.mono ?_; rintro e W6 h6
         (
          obtain ⟨t6, hb6, x6, rfl, ⟨cs, rfl, hown⟩, s6⟩ := h6.some
          obtain ⟨vk, vl, hcs, hk, hlw⟩ := hown.open
          obtain ⟨pk, ck, rfl⟩ := Kbx hk
          obtain ⟨pl, cl, rfl⟩ : ∃ pl cl, vl = .slice pl v.list.length cl := by obtain ⟨xs, hx, _⟩ := hlw; exact Kbx hx
          subst hcs
          have t56 := H5.out.trans t6
          have hbx6 := (t56.keep _ HB.out.2.2 (by omega)).trans HB.out.2.1
          have HST := yh (StT.put Kdk (cs := #[.string (strB s), .int .i64 v.kind, .bool v.b, .int .i64 v.n, .string (strB v.text), .slice pk v.keys.length ck, .slice pl v.list.length cl]) rfl (by simp [Value.oneCell']) hbx6 rfl)
          have HLD := yh (StT.get Kdk (cs := #[.string (strB s), .int .i64 v.kind, .bool v.b, .int .i64 v.n, .string (strB v.text), .slice pk v.keys.length ck, .slice pl v.list.length cl]) rfl (setRow_heap W6 W.heap.size _ _ _ _ hbx6))
          have ho : ∀ b, b ≠ W.heap.size → (W6.setRow W.heap.size #[.string (strB s), .int .i64 v.kind, .bool v.b, .int .i64 v.n, .string (strB v.text), .slice pk v.keys.length ck, .slice pl v.list.length cl]).heap[b]? = W6.heap[b]? := fun b hb => setRow_other W6 _ b _ hb
          have hsz : (W6.setRow W.heap.size #[.string (strB s), .int .i64 v.kind, .bool v.b, .int .i64 v.n, .string (strB v.text), .slice pk v.keys.length ck, .slice pl v.list.length cl]).heap.size = W6.heap.size := by simp
          have hB6 := Kch (B := W.heap.size) hb6 (by omega) #[.string (strB s), .int .i64 v.kind, .bool v.b, .int .i64 v.n, .string (strB v.text), .slice pk v.keys.length ck, .slice pl v.list.length cl]
          have h56 := H5.out.size
          have hto : RTo q W (W6.setRow W.heap.size #[.string (strB s), .int .i64 v.kind, .bool v.b, .int .i64 v.n, .string (strB v.text), .slice pk v.keys.length ck, .slice pl v.list.length cl]) :=
           ⟨by rw [hsz]; have := t6.size; have := HB.out.2.2; omega, fun b hb1 hq1 => (ho b (by omega)).trans ((t56.keep b (by have := HB.out.2.2; omega) hq1).trans (HB.out.1.block b hb1))⟩
          have hpo : POwn (W6.setRow W.heap.size #[.string (strB s), .int .i64 v.kind, .bool v.b, .int .i64 v.n, .string (strB v.text), .slice pk v.keys.length ck, .slice pl v.list.length cl]) (fun b => W.heap.size ≤ b) ⟨s, v⟩ #[.string (strB s), .int .i64 v.kind, .bool v.b, .int .i64 v.n, .string (strB v.text), .slice pk v.keys.length ck, .slice pl v.list.length cl] :=
           ⟨_, rfl, (hown.keep (w' := W6.setRow W.heap.size #[.string (strB s), .int .i64 v.kind, .bool v.b, .int .i64 v.n, .string (strB v.text), .slice pk v.keys.length ck, .slice pl v.list.length cl]) fun b hb1 _ => ho b (by have := HB.out.2.2; omega)).imp fun b _ hb1 => by have := HB.out.2.2; omega⟩
          have HF := yh (And.intro hto (And.intro hB6 (And.intro hpo (s6.other hB6 (ho q (by omega))))))
          clear h6 t6 hb6 hown hk hlw s6 t56 hbx6 ho hsz hB6 hto hpo HC))
      | ((with_reducible apply Kad); exact HST.out; exact rfl; exact rfl))
     refine bodyPost_ret (Kaj rfl _ _ ⟨W.heap.size, 0, none⟩ _ rfl HLD.out) rfl ?_
     exact Reads.of HE.out ⟨HF.out.1, HF.out.2.1, _, rfl, ⟨_, rfl, HF.out.2.2.1⟩, HF.out.2.2.2⟩
section
variable {α β : Type} {d : Dec α} {f : Dec β} {u : α → β} {b r s : List UInt8} {x : α} {y : β}
theorem map_n (h : d b = none) : Dec.map u d b = none := by unfold Dec.map; rw [h]; rfl
theorem map_s (h : d b = some (x, r)) : Dec.map u d b = some (u x, r) := by unfold Dec.map; rw [h]; rfl
theorem seq_n1 (h : d b = none) : Dec.seq d f b = none := by unfold Dec.seq; rw [h]
theorem Kcm (h : d b = some (x, r)) (g : f r = none) : Dec.seq d f b = none := by unfold Dec.seq; rw [h]; simp only; rw [g]
theorem seq_s (h : d b = some (x, r)) (g : f r = some (y, s)) : Dec.seq d f b = some ((x, y), s) := by unfold Dec.seq; rw [h]; simp only; rw [g]
end
theorem rdNode_eq (l : List UInt8) : Kdx l = match rdN 0 0 l with
 | none => none
 | some (n, r) => match Kas Ka4 r with
   | none => none
   | some (ls, t) => match Kas Kdo t with
     | none => none
     | some (ps, s) => some (⟨toI n, ls, ps⟩, s) := by
 unfold Kdx rdProps
 cases hr : rdN 0 0 l with
 | none => exact map_n (seq_n1 (map_n hr))
 | some p =>
   obtain ⟨n, r⟩ := p
   simp only
   cases h2 : Kas Ka4 r with
   | none => exact map_n (Kcm (map_s hr) (seq_n1 h2))
   | some p =>
     obtain ⟨ls, t⟩ := p
     simp only
     cases h3 : Kas Kdo t with
     | none => exact map_n (Kcm (map_s hr) (Kcm h2 h3))
     | some x =>
       obtain ⟨ps, s⟩ := x
       exact map_s (seq_s (map_s hr) (seq_s h2 h3))
theorem rdN_le {l s : List UInt8} {n : Nat} (h : rdN 0 0 l = some (n, s)) : s.length ≤ l.length := by
 obtain ⟨e1, _⟩ := Kb8.sound _ _ _ h
 rw [e1, List.length_append]; omega
theorem RT.le {α : Type} {d : Dec α} {e : α → List UInt8} {P : α → Prop} (h : RT d e P) {l s : List UInt8} {x : α} (hd : d l = some (x, s)) : s.length ≤ l.length := by
 obtain ⟨e1, _⟩ := h.sound _ _ _ hd
 rw [e1, List.length_append]; omega
theorem rtexts_any {w W : World} {q : Nat} {l : List UInt8} (h : RSt 141 w W q l) (hl : l.length ≤ 1000000) :
 Calls Tryz.prog 106 #[.pointer (some ⟨q, 0, none⟩), .func (.func 107) #[.pointer (some ⟨q, 0, none⟩)] #[]] W (Reads w W q (Kas Ka4 l) fun xs v W' => OwnsP W' (fun b => W.heap.size ≤ b) 9 1 v xs.length (xs.map strV)) := by
 refine (rrowsS_reads el_str (fun w P x a h => ⟨x, h⟩) Ka4 hl h (fun W1 l' h1 h2 => (Kdy h1 h2).mono fun e W' hr => ?_) (fun l' x s hd => Kd5.le hd)).mono ?_
 ·cases hd : Ka4 l' with
  | none => rw [hd] at hr; exact hr
  | some p =>
    obtain ⟨x, s⟩ := p
    rw [hd] at hr
    obtain ⟨t, hb, v, rfl, rfl, hs⟩ := hr.some
    exact ⟨t, hb, _, rfl, ⟨#[.string (strB x)], rfl, rfl⟩, hs⟩
 ·intro e W' hr
  cases hd : Kas Ka4 l with
  | none => rw [hd] at hr; exact hr
  | some p =>
    obtain ⟨xs, s⟩ := p
    rw [hd] at hr
    obtain ⟨t, hb, v, rfl, ⟨ys, ho, hg⟩, hs⟩ := hr.some
    refine ⟨t, hb, v, rfl, ?_, hs⟩
    have e : ys.flatMap Array.toList = xs.map strV := by
     clear ho hd hr
     obtain ⟨h1, h2⟩ := hg
     induction xs generalizing ys with
     | nil => have : ys = [] := List.eq_nil_of_length_eq_zero h1; subst this; rfl
     | cons a r ih =>
       cases ys with
       | nil => simp at h1
       | cons y q' =>
         obtain ⟨z, g1, g2⟩ := h2 0 a rfl
         cases g1
         rw [List.flatMap_cons, List.map_cons, show y = #[.string (strB a)] from g2]
         have := ih q' (by simpa using h1) fun j v hv => by
          have := h2 (j + 1) v (by simpa using hv)
          simpa using this
         rw [this]; rfl
    rw [e] at ho
    exact ho
theorem rprops_any {w W : World} {q : Nat} {l : List UInt8} (h : RSt 141 w W q l) (hl : l.length ≤ 1000000) :
 Calls Tryz.prog 108 #[.pointer (some ⟨q, 0, none⟩), .func (.func 109) #[.pointer (some ⟨q, 0, none⟩)] #[]] W (Reads w W q (Kas Kdo l) fun xs v W' => GOwn POwn 136 7 W' (fun b => W.heap.size ≤ b) v xs) :=
 rrowsP_reads Kcr Kdo hl h (fun W1 l' h1 h2 => rprop_any h1 h2) (fun l' x s hd => rt_prop.le hd)
theorem rnode_any {w W : World} {q : Nat} {l : List UInt8} (h : RSt 141 w W q l) (hl : l.length ≤ 1000000) :
 Calls Tryz.prog 52 #[.pointer (some ⟨q, 0, none⟩)] W (Reads w W q (Kdx l) (okNode W)) := by
 have hq := h.lt
 have hb := Kac (w := W) (.cells #[.int .i64 0, .slice none 0 0, .slice none 0 0] 70)
 have HN := yh (Kat (h.below hb))
 have HB := yh hb
 clear hb h
 have he := rdNode_eq l
 cases hr : rdN 0 0 l with
 | none =>
   rw [hr] at HN he
   have HE := yh he
   clear he
   go_enter Tryz.func52, Tryz.ntmps52
   go_wp2_with (go_at_call 55; refine HN.out.mono ?_; rintro e W5 h5; obtain ⟨t5, hb5, rfl⟩ := h5.none; have H5 := yh (And.intro t5 hb5); clear h5 t5 hb5)
   exact ⟨rfl, Reads.of HE.out ⟨(RTo.of_below HB.out).trans H5.out.1, H5.out.2, rfl⟩⟩
 | some p =>
   obtain ⟨n, r⟩ := p
   have hrl := rdN_le hr
   rw [hr] at HN he
   simp only at he
   have HCV := yh (fun W' : World => conv_i64 (Kde hr) W')
   cases hr1 : Kas Ka4 r with
   | none =>
     rw [hr1] at he
     have HE := yh he
     clear he
     go_enter Tryz.func52, Tryz.ntmps52
     go_wp2_with (first
      | (go_at_call 55; refine HN.out.mono ?_; rintro e W5 h5
         (
          obtain ⟨t5, hb5, x5, rfl, rfl, s5⟩ := h5.some
          have hx5 : BX 70 W q #[.int .i64 0, .slice none 0 0, .slice none 0 0] W5.heap.size #[.int .i64 (toI n), .slice none 0 0, .slice none 0 0] (W5.alloc (.cells #[.int .i64 (toI n), .slice none 0 0, .slice none 0 0] 70)) := BX.start hq t5
          have st5 := s5.below (Kac (w := W5) (.cells #[.int .i64 (toI n), .slice none 0 0, .slice none 0 0] 70))
          have HR1 := yh (rtexts_any st5 (by omega))
          have HX5 := yh hx5
          rw [hr1] at HR1
          clear h5 t5 hb5 s5 hx5 st5 HN))
      | ((with_reducible apply Kby); exact HCV.out _; exact rfl)
      | (go_at_call 106; refine HR1.out.mono ?_; rintro e W6 h6; obtain ⟨t6, hb6, rfl⟩ := h6.none; have H6 := yh (And.intro t6 hb6); clear h6 t6 hb6))
     exact ⟨rfl, Reads.of HE.out ⟨HX5.out.tr.trans H6.out.1, H6.out.2, rfl⟩⟩
   | some p1 =>
     obtain ⟨ls, t⟩ := p1
     have hrl1 := rt_labels.le hr1
     rw [hr1] at he
     simp only at he
     cases hr2 : Kas Kdo t with
     | none =>
       rw [hr2] at he
       have HE := yh he
       clear he
       go_enter Tryz.func52, Tryz.ntmps52
       go_wp2_with (first
        | (go_at_call 55; refine HN.out.mono ?_; rintro e W5 h5
           (
            obtain ⟨t5, hb5, x5, rfl, rfl, s5⟩ := h5.some
            have hx5 : BX 70 W q #[.int .i64 0, .slice none 0 0, .slice none 0 0] W5.heap.size #[.int .i64 (toI n), .slice none 0 0, .slice none 0 0] (W5.alloc (.cells #[.int .i64 (toI n), .slice none 0 0, .slice none 0 0] 70)) := BX.start hq t5
            have st5 := s5.below (Kac (w := W5) (.cells #[.int .i64 (toI n), .slice none 0 0, .slice none 0 0] 70))
            have HR1 := yh (rtexts_any st5 (by omega))
            have HX5 := yh hx5
            rw [hr1] at HR1
            clear h5 t5 hb5 s5 hx5 st5 HN))
        | ((with_reducible apply Kby); exact HCV.out _; exact rfl)
        | (go_at_call 106; refine HR1.out.mono ?_; rintro e W6 h6
           (
            obtain ⟨t6, hb6, x6, rfl, hown6, s6⟩ := h6.some
            obtain ⟨p6, c6, rfl⟩ : ∃ p c, x6 = .slice p ls.length c := Kbx hown6
            have hx6 := HX5.out.step t6
            have hx7 : BX 70 W q #[.int .i64 0, .slice none 0 0, .slice none 0 0] W5.heap.size #[.int .i64 (toI n), .slice p6 ls.length c6, .slice none 0 0] (W6.setCell ⟨W5.heap.size, 1, none⟩ (.slice p6 ls.length c6)) := by simpa using hx6.set 1 (.slice p6 ls.length c6)
            have st7 := hx6.setR s6 1 (.slice p6 ls.length c6)
            have HS1 := yh (put_strs (p := p6) (n := ls.length) (c := c6) (Kab (o := 1) hx6.p3 rfl) (Kav (o := 1) hx6.p3))
            have how7 : OwnsP (W6.setCell ⟨W5.heap.size, 1, none⟩ (.slice p6 ls.length c6)) (fun b => W5.heap.size + 1 ≤ b) 9 1 (.slice p6 ls.length c6) ls.length (ls.map strV) := by
             have hs5 : (W5.alloc (.cells #[.int .i64 (toI n), .slice none 0 0, .slice none 0 0] 70)).heap.size = W5.heap.size + 1 := by simp
             rw [hs5] at hown6
             exact hown6.keep fun b hb1 _ => Below.heap_setCell _ _ _ _ (by show b ≠ W5.heap.size; omega)
            have HX7 := yh (And.intro hx7 how7)
            have HR2 := yh (rprops_any st7 (by omega))
            rw [hr2] at HR2
            clear h6 t6 hb6 hown6 s6 hx6 hx7 st7 HR1))
        | ((with_reducible apply Kad); exact HS1.out; exact rfl; exact rfl; clear HS1)
        | (go_at_call 108; refine HR2.out.mono ?_; rintro e W8 h8; obtain ⟨t8, hb8, rfl⟩ := h8.none; have H8 := yh (And.intro t8 hb8); clear h8 t8 hb8))
       exact ⟨rfl, Reads.of HE.out ⟨HX7.out.1.tr.trans H8.out.1, H8.out.2, rfl⟩⟩
     | some p2 =>
       obtain ⟨ps, s⟩ := p2
       rw [hr2] at he
       have HE := yh he
       clear he
       go_enter Tryz.func52, Tryz.ntmps52
       go_wp2_with (first
        | (go_at_call 55; refine HN.out.mono ?_; rintro e W5 h5
           (
            obtain ⟨t5, hb5, x5, rfl, rfl, s5⟩ := h5.some
            have hx5 : BX 70 W q #[.int .i64 0, .slice none 0 0, .slice none 0 0] W5.heap.size #[.int .i64 (toI n), .slice none 0 0, .slice none 0 0] (W5.alloc (.cells #[.int .i64 (toI n), .slice none 0 0, .slice none 0 0] 70)) := BX.start hq t5
            have st5 := s5.below (Kac (w := W5) (.cells #[.int .i64 (toI n), .slice none 0 0, .slice none 0 0] 70))
            have HR1 := yh (rtexts_any st5 (by omega))
            have HX5 := yh hx5
            rw [hr1] at HR1
            clear h5 t5 hb5 s5 hx5 st5 HN))
        | ((with_reducible apply Kby); exact HCV.out _; exact rfl)
        | (go_at_call 106; refine HR1.out.mono ?_; rintro e W6 h6
           (
            obtain ⟨t6, hb6, x6, rfl, hown6, s6⟩ := h6.some
            obtain ⟨p6, c6, rfl⟩ : ∃ p c, x6 = .slice p ls.length c := Kbx hown6
            have hx6 := HX5.out.step t6
            have hx7 : BX 70 W q #[.int .i64 0, .slice none 0 0, .slice none 0 0] W5.heap.size #[.int .i64 (toI n), .slice p6 ls.length c6, .slice none 0 0] (W6.setCell ⟨W5.heap.size, 1, none⟩ (.slice p6 ls.length c6)) := by simpa using hx6.set 1 (.slice p6 ls.length c6)
            have st7 := hx6.setR s6 1 (.slice p6 ls.length c6)
            have HS1 := yh (put_strs (p := p6) (n := ls.length) (c := c6) (Kab (o := 1) hx6.p3 rfl) (Kav (o := 1) hx6.p3))
            have how7 : OwnsP (W6.setCell ⟨W5.heap.size, 1, none⟩ (.slice p6 ls.length c6)) (fun b => W5.heap.size + 1 ≤ b) 9 1 (.slice p6 ls.length c6) ls.length (ls.map strV) := by
             have hs5 : (W5.alloc (.cells #[.int .i64 (toI n), .slice none 0 0, .slice none 0 0] 70)).heap.size = W5.heap.size + 1 := by simp
             rw [hs5] at hown6
             exact hown6.keep fun b hb1 _ => Below.heap_setCell _ _ _ _ (by show b ≠ W5.heap.size; omega)
            have HX7 := yh (And.intro hx7 how7)
            have HR2 := yh (rprops_any st7 (by omega))
            rw [hr2] at HR2
            clear h6 t6 hb6 hown6 s6 hx6 hx7 st7 HR1))
        | ((with_reducible apply Kad); exact HS1.out; exact rfl; exact rfl; clear HS1)
        | (go_at_call 108; refine HR2.out.mono ?_; rintro e W8 h8
           (
            obtain ⟨t8, hb8, x8, rfl, hown8, s8⟩ := h8.some
            obtain ⟨p8, c8, rfl⟩ := hown8.slice
            have hx8 := HX7.out.1.step t8
            have hx9 : BX 70 W q #[.int .i64 0, .slice none 0 0, .slice none 0 0] W5.heap.size #[.int .i64 (toI n), .slice p6 ls.length c6, .slice p8 ps.length c8] (W8.setCell ⟨W5.heap.size, 2, none⟩ (.slice p8 ps.length c8)) := by simpa using hx8.set 2 (.slice p8 ps.length c8)
            have st9 := hx8.setR s8 2 (.slice p8 ps.length c8)
            have HS2 := yh (put_props (p := p8) (n := ps.length) (c := c8) (Kab (o := 2) hx8.p3 rfl) (Kav (o := 2) hx8.p3))
            obtain ⟨f1, f2, f3, f4, f5, f6, f7⟩ := hx9.fin Kct rfl rfl (by simp [Value.oneCell']) st9
            have HL5 := yh f1
            have HS4 := yh f2
            have HLD := yh f3
            have hlo := hx9.lo
            have hno : NOwn (((W8.setCell ⟨W5.heap.size, 2, none⟩ (.slice p8 ps.length c8))).setRow W.heap.size #[.int .i64 (toI n), .slice p6 ls.length c6, .slice p8 ps.length c8]) (fun b => W.heap.size ≤ b) ⟨toI n, ls, ps⟩ #[.int .i64 (toI n), .slice p6 ls.length c6, .slice p8 ps.length c8] := by
             have hk : ∀ b, b ≠ W5.heap.size → b ≠ W.heap.size → (((W8.setCell ⟨W5.heap.size, 2, none⟩ (.slice p8 ps.length c8))).setRow W.heap.size #[.int .i64 (toI n), .slice p6 ls.length c6, .slice p8 ps.length c8]).heap[b]? = W8.heap[b]? := fun b h1 h2 => (f7 b h2).trans (Below.heap_setCell _ _ _ _ h1)
             refine ⟨_, _, rfl, ?_, ?_⟩
             ·have h7 := HX7.out.2
              refine (h7.keep fun b hb1 hl => ?_).imp fun b _ hb1 => by omega
              exact (hk b (by omega) (by omega)).trans (t8.keep b hl (by have := hx9.ql; omega))
             ·exact (hown8.keep Kcr fun b hb1 hl => hk b (by have := HX7.out.1.lt; omega) (by have := HX7.out.1.lt; omega)).imp Kcr fun b _ hb1 => by have := HX7.out.1.lt; omega
            have HF := yh (And.intro f4 (And.intro f5 (And.intro f6 hno)))
            clear h8 t8 hb8 hown8 s8 hx8 hx9 st9 f1 f2 f3 f4 f5 f6 f7 hlo hno HR2))
        | ((with_reducible apply Kad); exact HS2.out; exact rfl; exact rfl; clear HS2)
        | ((with_reducible apply Kal); exact HL5.out; exact rfl)
        | ((with_reducible apply Kad); exact HS4.out; exact rfl; exact rfl))
       refine bodyPost_ret (Kaj rfl _ _ ⟨W.heap.size, 0, none⟩ _ rfl HLD.out) rfl ?_
       exact Reads.of HE.out ⟨HF.out.2.1, HF.out.2.2.1, _, rfl, ⟨_, rfl, HF.out.2.2.2⟩, HF.out.1⟩
section
variable {P : Program} {ops : Array Oper}
structure GivS (ops : Array Oper) (M : List Nat) (V : Nat → Value) (a0 : Act) (i : Nat) (a : Act) : Prop where
 new : ∀ j, (afters ops i).contains j = true → M.contains j = true → a.eval (.tmp (dstOf ops j)) = V j
 old : ∀ d u, (M.all fun j => dstOf ops j != d) = true → a0.tmps[d]? = some u → a.eval (.tmp d) = u
theorem region_gives {id : Nat} {Q : Exit → Act → World → Prop} {a0 : Act} {w : World} (hm : P.follows .mixedOrders = true) (k : Nat) (M : List Nat) (V : Nat → Value)
 (hk : k < ops.size) (hkM : k ∉ M) (hfw : forward ops = true) (hd : dstsOk ops M a0.tmps.size = true)
 (hM : ((List.range ops.size).all fun i => M.contains i || i == k || (afters ops i).any fun j => !M.contains j) = true)
 (hstep : ∀ i ∈ M, ∀ a, GivS ops M V a0 i a → ∃ o, ops[i]? = some o ∧ Region.wanted o (yielded ops a.tmps) = true ∧ (execOp a.eval o).run P w.drew = .ok (.value (V i)) w.drew)
 (hend : ∀ a, a.defers = a0.defers → GivS ops M V a0 k a → ∃ o f vs, ops[k]? = some o ∧ Region.wanted o (yielded ops a.tmps) = true ∧ (execOp a.eval o).run P w.drew = .ok (.enter f vs) w.drew ∧ Calls P f vs w.drew fun e w' => ∃ c, e = .panicked c ∧ ∀ a, a.defers = a0.defers → Q (.panic c) a w') :
 (Code.region id ops true).wp P Q a0 w := by
 have key : ∀ (fuel : Nat) (listed : Array Bool) (a : Act), leftN ops listed ≤ fuel → listed.size = ops.size → a.defers = a0.defers → a.tmps.size = a0.tmps.size → (∀ i, listed.getD i false = true → i ∈ M) →
  (∀ j ∈ M, listed.getD j false = true → a.tmps[dstOf ops j]? = some (V j)) → (∀ d, (∀ j ∈ M, dstOf ops j ≠ d) → a.tmps[d]? = a0.tmps[d]?) → wpAny P .any ops Q fuel listed a w.drew := by
  intro fuel
  induction fuel with
  | zero =>
    intro listed a hl hsz _ _ hsub _ _
    exfalso
    have hkl : listed.getD k false ≠ true := fun h => hkM (hsub k h)
    have : k ∈ (List.range ops.size).filter fun i => !listed.getD i true := by
     refine List.mem_filter.2 ⟨List.mem_range.2 hk, ?_⟩
     have hlt : k < listed.size := by omega
     simp [hlt] at hkl ⊢; exact hkl
    have h0 : ((List.range ops.size).filter fun i => !listed.getD i true) = [] := List.length_eq_zero_iff.1 (Nat.le_zero.1 hl)
    rw [h0] at this; cases this
  | succ fuel ih =>
    intro listed a hl hsz hde hts hsub hnew hold
    refine ⟨fun hr => absurd (hsub k (all_done hfw hsz hr k hk)) hkM, fun i hr => ?_⟩
    obtain ⟨hl0, o, ho, _⟩ := mem_ready.1 hr
    have hi1 : i < ops.size := (Array.getElem?_eq_some_iff.1 ho).1
    have hS : GivS ops M V a0 i a := by
     refine ⟨fun j hj hjM => ?_, fun d u hdd hu => ?_⟩
     ·have hjM' : j ∈ M := by simpa using hjM
      exact eval_slot (hnew j hjM' (Kc8 hr j (by simpa using hj)))
     ·refine eval_slot ((hold d fun j hj e => ?_).trans hu)
      have := List.all_eq_true.1 hdd j hj
      simp only [bne_iff_ne, ne_eq] at this
      exact this e
    by_cases hik : i = k
    ·subst hik
     obtain ⟨o', f, vs, h1, h2, h3, h4⟩ := hend a hde hS
     unfold wpOp
     simp only [h1, h2, if_true]
     left
     unfold Oper.wp
     rw [h3, Oper.upon_enter]
     refine h4.mono ?_
     rintro e w' ⟨c, rfl, hc⟩
     exact hc a hde
    ·have him : i ∈ M := by
      have h1 := List.all_eq_true.1 hM i (List.mem_range.2 hi1)
      simp only [Bool.or_eq_true, List.contains_eq_mem, decide_eq_true_eq, beq_iff_eq] at h1
      rcases h1 with (h1 | h1) | h1
      ·exact h1
      ·exact absurd h1 hik
      ·obtain ⟨j, hj, hjM⟩ := List.any_eq_true.1 h1
       have := hsub j (Kc8 hr j hj)
       simp [this] at hjM
     obtain ⟨o', h1, h2, h3⟩ := hstep i him a hS
     obtain ⟨o2, g1, g2, g3⟩ := dstsOk_lt hd him
     have e12 : o2 = o' := by rw [g1] at h1; exact Option.some.inj h1
     subst e12
     unfold wpOp
     simp only [h1, h2, if_true]
     left
     unfold Oper.wp
     rw [h3, Oper.upon_value, g2]
     have hlt : i < listed.size := by omega
     refine ih _ _ (by have := leftN_set hr; omega) (by simpa using hsz) hde (by simpa [Act.put] using hts) (fun j hj => ?_) (fun j hj hj1 => ?_) (fun d hdd => ?_)
     ·rcases Nat.decEq j i with h | h
      ·rw [getD_set_ne false (Ne.symm h)] at hj; exact hsub j hj
      ·subst h; exact him
     ·show (a.tmps.setIfInBounds (dstOf ops i) (V i))[dstOf ops j]? = _
      rcases Nat.decEq j i with h | h
      ·rw [getD_set_ne false (Ne.symm h)] at hj1
       rw [Array.getElem?_setIfInBounds, if_neg fun e => h (dstsOk_inj hd hj him e.symm)]
       exact hnew j hj hj1
      ·subst h
       rw [Array.getElem?_setIfInBounds, if_pos rfl, if_pos (by rw [hts]; exact g3)]
     ·show (a.tmps.setIfInBounds (dstOf ops i) (V i))[d]? = _
      rw [Array.getElem?_setIfInBounds, if_neg (hdd i him)]
      exact hold d hdd
 refine wp_region_any hm (key ops.size _ _ ?_ (by simp) rfl rfl (fun i hi => ?_) (fun j _ hj => ?_) (fun d _ => rfl))
 ·unfold leftN
  exact Nat.le_trans (List.length_filter_le _ _) (by simp)
 ·rcases Nat.lt_or_ge i ops.size with h | h
  ·simp [h] at hi
  ·simp [h] at hi
 ·rcases Nat.lt_or_ge j ops.size with h | h
  ·simp [h] at hj
  ·simp [h] at hj
end
end Go.Proofs.YthdfedfholmbmaaGreatDoor
