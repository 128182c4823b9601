/- Texts that the proof shares (each declaration is a lemma of this layer). -/
import Derived.Test.YthdfedfholmbmaaGreatDoorZCdna
import Derived.Test.YthdfedfholmbmaaGreatDoorZCdnb
import Derived.Test.YthdfedfholmbmaaGreatDoorZCdnc
import Derived.Shelf.SlicesE.Compact
import Derived.Ground.SlgnProg
import Derived.Test.YthdfedfholmbmaaGreatDoorProg
import Derived.Lib.SlicesCompact
import Derived.Recover
set_option linter.unusedSimpArgs false
set_option linter.unusedVariables false
set_option maxRecDepth 100000
set_option maxHeartbeats 64000000
namespace Go.Proofs.YthdfedfholmbmaaGreatDoor
open Go.RowKit
theorem node_id {w : World} {n : NodeD} {cs : Array Value} (h : NRd w n cs) : cs[0]? = some (.int .i64 n.id):=by
 obtain ⟨pl,cl,pp,cp,rfl,_⟩:=h;rfl
def okAt (g : GraphD) (n : NodeD) : Bool:=okN n && decide (n.id < g.nextNode)
theorem Kei {w w' : World} {B o : Nat} {cs : Array Value} {T t : TypeId} {d : TypeDesc} {v : Value} (hu : Tryz.prog.underlying t = some d) (hd : isAggD d = false) (g : Below w.heap.size w w') (h : w.heap[B]? = some (.cells cs T (0,0))) (hv : cs[o]? = some v) : (loadVar t ⟨B,o,none⟩).run Tryz.prog w' = .ok v w' :=
 box_load (w:=w) hu hd (Kai g (Array.getElem?_eq_some_iff.1 h).1 h) hv
theorem dec_lt (a b : Int) : decide (a < b) = !decide (b ≤ a):=by rw [Bool.eq_iff_iff];simp
theorem okNs_eq (g : GraphD) : okNs g = (g.nodes.all (okAt g) && Kch (g.nodes.map NodeD.id)):=rfl
theorem okNs_no {g : GraphD} {j : Nat} (hj : j < g.nodes.length) (h : okAt g g.nodes[j] = false) : okNs g = false:=by
 rw [okNs_eq]
 have : g.nodes.all (okAt g) = false:=by
  rw [List.all_eq_false]
  exact ⟨g.nodes[j],List.getElem_mem hj,by simp [h]⟩
 rw [this,Bool.false_and]
theorem okNs_fall {g : GraphD} {k j : Nat} (hk : k + 1 = j) (hj : j < g.nodes.length) (h : g.nodes[j].id ≤ g.nodes[k].id) : okNs g = false:=by
 rw [okNs_eq]
 cases hr : Kch (g.nodes.map NodeD.id) with
 | false=>rw [Bool.and_false]
 | true =>
   have:=Ke1 hr (a:=k) (b:=j) (by simpa using hj) (by omega)
   rw [List.getElem_map,List.getElem_map] at this
   omega
def NsInv (g : GraphD) (j : Nat) : Prop:=(g.nodes.take j).all (okAt g) = true ∧ Kch ((g.nodes.map NodeD.id).take j) = true
theorem NsInv.zero (g : GraphD) : NsInv g 0:=⟨by simp,by simp [Kch]⟩
theorem NsInv.one {g : GraphD} {j : Nat} (h0 : j = 0) (hj : j < g.nodes.length) (h : okAt g g.nodes[j] = true) : NsInv g (j + 1):=by
 subst h0
 exact ⟨all_snoc hj (by simp) h,risesI_one _⟩
theorem NsInv.snoc {g : GraphD} {k j : Nat} (hk : k + 1 = j) (hj : j < g.nodes.length) (hi : NsInv g j) (h : okAt g g.nodes[j] = true) (hlt : ¬ g.nodes[j].id ≤ g.nodes[k].id) : NsInv g (j + 1):=by
 subst hk
 refine ⟨all_snoc hj hi.1 h,?_⟩
 rw [risesI_step (by simpa using hj),hi.2,Bool.true_and]
 simp only [List.getElem_map,decide_eq_true_eq];omega
theorem NsInv.last {g : GraphD} (h : NsInv g g.nodes.length) : okNs g = true:=by
 rw [okNs_eq]
 have h1:=h.1
 have h2:=h.2
 rw [List.take_length] at h1
 rw [List.take_of_length_le (by simp)] at h2
 rw [h1,h2];rfl
theorem gnodes_any {w : World} (hE : Env w) {g : GraphD} {x : Array Value} (h : GrRd w g x) (ht : totG g ≤ 1000000) : Calls Tryz.prog 44 #[.agg x] w fun e w'=>e = .returned (.bool (okNs g)) ∧ Below w.heap.size w w':=by
 have hgr:=h
 obtain ⟨pn,cn,pr,cr,rfl,hn,hrl⟩:=h
 have z1 : (g.nodes.length : Int) ≤ 140737488355328:=by have:=hn.1.2.1;omega
 have htn : ∀ n ∈ g.nodes,totN n ≤ 1000000:=fun n hm=>by
  have h1:=Kbb totN hm
  unfold totG at ht;omega
 have hb:=Kac (w:=w) (.cells #[.slice pn g.nodes.length cn,.slice pr g.rels.length cr,.int .i64 g.nextNode,.int .i64 g.nextRel] 25)
 have hg:=heap_alloc_new w (.cells #[.slice pn g.nodes.length cn,.slice pr g.rels.length cr,.int .i64 g.nextNode,.int .i64 g.nextRel] 25)
 have hn1:=hn.below (fun h=>h.below hb) hb
 have hE1:=hE.b hb
 have hgr1:=hgr.below hb
 have hlt0:=Array.getElem?_eq_some_iff.1 hg |>.1
 have H:=yh (And.intro hn1 (And.intro hE1 (And.intro hg (And.intro hgr1 hlt0))))
 have HB0:=yh hb
 have HT:=yh htn
 clear hn hrl hb hg hn1 hE1 hE ht htn hgr hgr1 hlt0
 go_enter Tryz.func44,Tryz.ntmps44
 go_wp2
 generalize w.alloc (.cells #[.slice pn g.nodes.length cn,.slice pr g.rels.length cr,.int .i64 g.nextNode,.int .i64 g.nextRel] 25) = w1 at *
 go_loopw [8] (fun i W=>∃ j : Nat,j ≤ g.nodes.length ∧ i = .int .i64 (j : Int) ∧ Hid (NsInv g j ∧ Below w1.heap.size w1 W)) (fun i _=>g.nodes.length - (intOf i).toNat)
 case atStart=>exact ⟨0,Nat.zero_le _,rfl,yh ⟨NsInv.zero g,Below.refl _ _⟩⟩
 case round =>
  obtain ⟨j,hj,rfl,HI⟩:=hrel
  by_cases hlt : j < g.nodes.length
  ·have hlt1 : j + 1 ≤ g.nodes.length:=hlt
   obtain ⟨hn1,hE1,hg,hgr1,hlt0⟩:=H.out
   have hnr:=hn1.below (fun h=>h.below HI.out.2) HI.out.2
   obtain ⟨b,of,cs,rfl,hs,hc,hv⟩:=hnr.get hlt
   have hones:=Kek.ones hv
   have hnof : okAt g g.nodes[j] = false → okNs g = false:=okNs_no hlt
   have hfaf : ∀ k,k + 1 = j → ∀ hk : k < g.nodes.length,g.nodes[j].id ≤ g.nodes[k].id → okNs g = false:=fun k hk _ h=>okNs_fall hk hlt h
   have honf : j = 0 → okAt g g.nodes[j] = true → NsInv g (j + 1):=fun h0 h=>NsInv.one h0 hlt h
   have hsnf : ∀ k,k + 1 = j → ∀ hk : k < g.nodes.length,okAt g g.nodes[j] = true → ¬ g.nodes[j].id ≤ g.nodes[k].id → NsInv g (j + 1):=fun k hk _ h h'=>NsInv.snoc hk hlt HI.out.1 h h'
   have hoaf : okAt g g.nodes[j] = (okN g.nodes[j] && !decide (g.nextNode ≤ g.nodes[j].id)):=by rw [← dec_lt];rfl
   have htot : totN g.nodes[j] ≤ 1000000:=HT.out _ (List.getElem_mem hlt)
   generalize g.nodes[j] = nj at *
   have hbn:=Kac (w:=wr) (.cells cs 70)
   have hb2:=Kaa HI.out.2 hbn
   have hB:=heap_alloc_new wr (.cells cs 70)
   have HL1:=yh (Kbo.load hs hc)
   have HS:=yh (Kbo.fresh hs hones (W:=wr))
   have hl4 : ∀ W,Below (wr.alloc (.cells cs 70)).heap.size (wr.alloc (.cells cs 70)) W → (loadVar 70 ⟨wr.heap.size,0,none⟩).run Tryz.prog W = .ok (.agg cs) W:=fun W q=>Kbo.get hs (Kai q (Array.getElem?_eq_some_iff.1 hB).1 hB)
   have hidl : ∀ W,Below (wr.alloc (.cells cs 70)).heap.size (wr.alloc (.cells cs 70)) W → (loadVar 2 ⟨wr.heap.size,0,none⟩).run Tryz.prog W = .ok (.int .i64 nj.id) W:=fun W q=>Kei Tryz.underlying2 rfl q hB (node_id hv)
   have hnx : ∀ W,Below (wr.alloc (.cells cs 70)).heap.size (wr.alloc (.cells cs 70)) W → (loadVar 2 ⟨w.heap.size,2,none⟩).run Tryz.prog W = .ok (.int .i64 g.nextNode) W:=fun W q=>Kei Tryz.underlying2 rfl (Kaa hb2 q) hg rfl
   have hls : ∀ W,Below (wr.alloc (.cells cs 70)).heap.size (wr.alloc (.cells cs 70)) W → (loadVar 22 ⟨w.heap.size,0,none⟩).run Tryz.prog W = .ok (.slice (some ⟨b,of,none⟩) g.nodes.length cn) W:=fun W q=>Kei Tryz.underlying22 rfl (Kaa hb2 q) hg rfl
   have hia : ∀ W' : World,(Instr.indexAt 22 (.slice (some ⟨b,of,none⟩) g.nodes.length cn) (.int .i64 (j : Int))).run Tryz.prog W' = .ok (.pointer (some ⟨b,of + j * 3,none⟩)) W':=by intro W';simp [go_sem,hlt]
   have hf0 : ∀ W' : World,(Instr.fieldAt 70 (.pointer (some ⟨wr.heap.size,0,none⟩)) 0).run Tryz.prog W' = .ok (.pointer (some ⟨wr.heap.size,0,none⟩)) W':=by intro W';simp [go_sem]
   have hfn : ∀ W' : World,(Instr.fieldAt 25 (.pointer (some ⟨w.heap.size,0,none⟩)) 2).run Tryz.prog W' = .ok (.pointer (some ⟨w.heap.size,2,none⟩)) W':=by intro W';simp [go_sem]
   have hfl : ∀ W' : World,(Instr.fieldAt 25 (.pointer (some ⟨w.heap.size,0,none⟩)) 0).run Tryz.prog W' = .ok (.pointer (some ⟨w.heap.size,0,none⟩)) W':=by intro W';simp [go_sem]
   have hge : ∀ bb,decide (g.nextNode ≤ nj.id) = bb → ∀ W' : World,(binOp .geq 2 (.int .i64 nj.id) (.int .i64 g.nextNode)).run Tryz.prog W' = .ok (.bool bb) W':=by intro bb hbb W';subst hbb;simp [go_sem]
   have hgt : ∀ bb,decide (0 < j) = bb → ∀ W' : World,(binOp .gtr 3 (.int .i64 (j : Int)) (.int .i64 0)).run Tryz.prog W' = .ok (.bool bb) W':=by intro bb hbb W';subst hbb;simp [go_sem]
   have hokc : ∀ bb,okN nj = bb → ∀ W',Below (wr.alloc (.cells cs 70)).heap.size (wr.alloc (.cells cs 70)) W' → Calls Tryz.prog 100 #[.agg cs] W' fun e w'=>e = .returned (.bool bb) ∧ Below W'.heap.size W' w':=fun bb hbb W' q=>hbb ▸ gnode_any (hE1.b (Kaa hb2 q)) (hv.below (Kaa hbn q)) htot
   have hkp : ∀ k,k + 1 = j → ∀ hk : k < g.nodes.length,(∀ W' : World,(binOp .sub 3 (.int .i64 (j : Int)) (.int .i64 1)).run Tryz.prog W' = .ok (.int .i64 (k : Int)) W') ∧ (∀ W' : World,(Instr.indexAt 22 (.slice (some ⟨b,of,none⟩) g.nodes.length cn) (.int .i64 (k : Int))).run Tryz.prog W' = .ok (.pointer (some ⟨b,of + k * 3,none⟩)) W') ∧
    (∀ W' : World,(Instr.fieldAt 70 (.pointer (some ⟨b,of + k * 3,none⟩)) 0).run Tryz.prog W' = .ok (.pointer (some ⟨b,of + k * 3,none⟩)) W') ∧ (∀ W,Below (wr.alloc (.cells cs 70)).heap.size (wr.alloc (.cells cs 70)) W → (loadVar 2 ⟨b,of + k * 3,none⟩).run Tryz.prog W = .ok (.int .i64 g.nodes[k].id) W) ∧
    (∀ bb,decide (nj.id ≤ g.nodes[k].id) = bb → ∀ W' : World,(binOp .geq 2 (.int .i64 g.nodes[k].id) (.int .i64 nj.id)).run Tryz.prog W' = .ok (.bool bb) W'):=by
    intro k hk hkl
    obtain ⟨b',of',cs',e',hs',hc',hv'⟩:=hnr.get hkl
    cases e'
    refine ⟨fun W'=>?_,fun W'=>by simp [go_sem,hkl],fun W'=>by simp [go_sem],fun W q=>?_,fun bb hbb W'=>by subst hbb;simp [go_sem]⟩
    ·rw [← hk]
     exact_mod_cast sub_one (j:=k) (by omega) W'
    ·have hc0:=hc' 0 _ (node_id hv')
     exact Kag Tryz.underlying2 rfl (Kak (Kaa hbn q) (ltOf hc0) hc0)
   have HX:=yh (And.intro hl4 (And.intro hidl (And.intro hnx (And.intro hls (And.intro hf0 (And.intro hfn hfl))))))
   have HKP:=yh hkp
   have HBN:=yh (Kaa HB0.out hb2)
   have HSB:=yh ((Below.refl (wr.alloc (.cells cs 70)).heap.size (wr.alloc (.cells cs 70))).drew)
   have HGE0:=yh hge
   have HGT0:=yh hgt
   have HOK0:=yh hokc
   have HLW:=yh (And.intro hnof (And.intro hfaf (And.intro honf (And.intro hsnf hoaf))))
   clear hl4 hidl hnx hls hf0 hfn hfl hge hgt hokc hkp htot hnof hfaf honf hsnf hoaf hb2 hB hones hs hc hv hbn hnr hn1 hE1 hg hgr1 hlt0
   go_wp2_with (first
    | ((with_reducible apply Kal);exact HL1.out;exact rfl)
    | ((with_reducible apply Kae);exact HS.out _ rfl;exact rfl;exact rfl))
   obtain ⟨hl4,hidl,hnx,hls,hf0,hfn,hfl⟩:=HX.out
   have hS0:=HSB.out
   refine Kaj (fun W=>Below (wr.alloc (.cells cs 70)).heap.size (wr.alloc (.cells cs 70)) W) (by kernel_rfl) hS0 (fun hS=>?_)
   refine tk 0 13 (v:=.agg cs) rfl rfl (fun W hW=>Kaf rfl rfl (hl4 W hW)) ?_
   simp only [Act.put,sA,sZ,sS]
   cases hok : okN nj with
   | false =>
     have HOKC:=yh (HOK0.out _ hok)
     refine Kau 1 14 rfl rfl (by kernel_rfl) rfl (Kaq [.agg cs] rfl rfl Tryz.func100 (by kernel_rfl) (by kernel_rfl)) ?_
     refine (HOKC.out _ hS).mono ?_
     rintro e w1 ⟨rfl,hb1⟩
     have hS1:=Kaa hS hb1
     refine ⟨_,rfl,.inr hS1,?_⟩
     simp only [Act.put,sA,sZ,sS]
     refine tk 2 15 (v:=.bool true) rfl rfl (fun W hW=>Kb5 (b:=false) rfl rfl) ?_
     simp only [Act.put,sA,sZ,sS]
     refine tk 3 16 (v:=.bool true) rfl rfl (fun W hW=>Kah rfl rfl) ?_
     simp only [Act.put,sA,sZ,sS]
     refine tn 4 17 rfl rfl ?_
     simp only [Act.put,sA,sZ,sS]
     refine tn 5 18 rfl rfl ?_
     simp only [Act.put,sA,sZ,sS]
     refine tn 6 19 rfl rfl ?_
     simp only [Act.put,sA,sZ,sS]
     refine tn 7 20 rfl rfl ?_
     simp only [Act.put,sA,sZ,sS]
     refine tn 8 21 rfl rfl ?_
     simp only [Act.put,sA,sZ,sS]
     refine tk 9 22 (v:=.bool true) rfl rfl (fun W hW=>rfl) ?_
     simp only [Act.put,sA,sZ,sS]
     refine tk 10 23 (v:=.bool true) rfl rfl (fun W hW=>Kah rfl rfl) ?_
     simp only [Act.put,sA,sZ,sS]
     refine tn 11 24 rfl rfl ?_
     simp only [Act.put,sA,sZ,sS]
     refine tn 12 25 rfl rfl ?_
     simp only [Act.put,sA,sZ,sS]
     refine tn 13 26 rfl rfl ?_
     simp only [Act.put,sA,sZ,sS]
     refine tn 14 27 rfl rfl ?_
     simp only [Act.put,sA,sZ,sS]
     refine tn 15 28 rfl rfl ?_
     simp only [Act.put,sA,sZ,sS]
     refine tn 16 29 rfl rfl ?_
     simp only [Act.put,sA,sZ,sS]
     refine tn 17 30 rfl rfl ?_
     simp only [Act.put,sA,sZ,sS]
     refine tn 18 31 rfl rfl ?_
     simp only [Act.put,sA,sZ,sS]
     refine tn 19 32 rfl rfl ?_
     simp only [Act.put,sA,sZ,sS]
     refine tn 20 33 rfl rfl ?_
     simp only [Act.put,sA,sZ,sS]
     refine tn 21 34 rfl rfl ?_
     simp only [Act.put,sA,sZ,sS]
     refine tn 22 35 rfl rfl ?_
     simp only [Act.put,sA,sZ,sS]
     refine tn 23 36 rfl rfl ?_
     simp only [Act.put,sA,sZ,sS]
     refine tn 24 37 rfl rfl ?_
     simp only [Act.put,sA,sZ,sS]
     refine tk 25 38 (v:=.bool true) rfl rfl (fun W hW=>rfl) ?_
     simp only [Act.put,sA,sZ,sS]
     refine done (by kernel_rfl) ?_ _
     obtain ⟨hnof,hfaf,honf,hsnf,hoaf⟩:=HLW.out
     have HFIN:=yh (hnof (by rw [hoaf,hok];rfl))
     have HBF:=yh (Kaa HBN.out hS1)
     clear hnof hfaf honf hsnf hoaf hl4 hidl hnx hls hf0 hfn hfl hS0 hS hS1 hb1 hok
     go_wp2
     go_ret
     exact ⟨by rw [HFIN.out];rfl,HBF.out⟩
   | true =>
     have HOKC:=yh (HOK0.out _ hok)
     refine Kau 1 14 rfl rfl (by kernel_rfl) rfl (Kaq [.agg cs] rfl rfl Tryz.func100 (by kernel_rfl) (by kernel_rfl)) ?_
     refine (HOKC.out _ hS).mono ?_
     rintro e w1 ⟨rfl,hb1⟩
     have hS1:=Kaa hS hb1
     refine ⟨_,rfl,.inr hS1,?_⟩
     simp only [Act.put,sA,sZ,sS]
     refine tk 2 15 (v:=.bool false) rfl rfl (fun W hW=>Kb5 (b:=true) rfl rfl) ?_
     simp only [Act.put,sA,sZ,sS]
     refine tk 3 16 (v:=.bool false) rfl rfl (fun W hW=>Kah rfl rfl) ?_
     simp only [Act.put,sA,sZ,sS]
     refine tk 4 17 (v:=.pointer (some ⟨wr.heap.size,0,none⟩)) rfl rfl (fun W hW=>Kad rfl rfl (hf0 W)) ?_
     simp only [Act.put,sA,sZ,sS]
     refine tk 5 18 (v:=.int .i64 nj.id) rfl rfl (fun W hW=>Kaf rfl rfl (hidl W hW)) ?_
     simp only [Act.put,sA,sZ,sS]
     refine tk 6 19 (v:=.pointer (some ⟨w.heap.size,2,none⟩)) rfl rfl (fun W hW=>Kad rfl rfl (hfn W)) ?_
     simp only [Act.put,sA,sZ,sS]
     refine tk 7 20 (v:=.int .i64 g.nextNode) rfl rfl (fun W hW=>Kaf rfl rfl (hnx W hW)) ?_
     simp only [Act.put,sA,sZ,sS]
     cases hnxd : decide (g.nextNode ≤ nj.id) with
     | false =>
       have HGE:=yh (HGE0.out _ hnxd)
       refine tk 8 21 (v:=.bool false) rfl rfl (fun W hW=>Kar rfl rfl rfl (HGE.out W)) ?_
       simp only [Act.put,sA,sZ,sS]
       refine tk 9 22 (v:=.bool false) rfl rfl (fun W hW=>rfl) ?_
       simp only [Act.put,sA,sZ,sS]
       refine tk 10 23 (v:=.bool false) rfl rfl (fun W hW=>Kah rfl rfl) ?_
       simp only [Act.put,sA,sZ,sS]
       refine tk 11 24 (v:=.int .i64 (j : Int)) rfl rfl (fun W hW=>Kah rfl rfl) ?_
       simp only [Act.put,sA,sZ,sS]
       cases hj0 : decide (0 < j) with
       | false =>
         have HGT:=yh (HGT0.out _ hj0)
         refine tk 12 25 (v:=.bool false) rfl rfl (fun W hW=>Kar rfl rfl rfl (HGT.out W)) ?_
         simp only [Act.put,sA,sZ,sS]
         refine tk 13 26 (v:=.bool false) rfl rfl (fun W hW=>Kah rfl rfl) ?_
         simp only [Act.put,sA,sZ,sS]
         refine tn 14 27 rfl rfl ?_
         simp only [Act.put,sA,sZ,sS]
         refine tn 15 28 rfl rfl ?_
         simp only [Act.put,sA,sZ,sS]
         refine tn 16 29 rfl rfl ?_
         simp only [Act.put,sA,sZ,sS]
         refine tn 17 30 rfl rfl ?_
         simp only [Act.put,sA,sZ,sS]
         refine tn 18 31 rfl rfl ?_
         simp only [Act.put,sA,sZ,sS]
         refine tn 19 32 rfl rfl ?_
         simp only [Act.put,sA,sZ,sS]
         refine tn 20 33 rfl rfl ?_
         simp only [Act.put,sA,sZ,sS]
         refine tn 21 34 rfl rfl ?_
         simp only [Act.put,sA,sZ,sS]
         refine tn 22 35 rfl rfl ?_
         simp only [Act.put,sA,sZ,sS]
         refine tn 23 36 rfl rfl ?_
         simp only [Act.put,sA,sZ,sS]
         refine tk 24 37 (v:=.bool false) rfl rfl (fun W hW=>rfl) ?_
         simp only [Act.put,sA,sZ,sS]
         refine tk 25 38 (v:=.bool false) rfl rfl (fun W hW=>rfl) ?_
         simp only [Act.put,sA,sZ,sS]
         refine done (by kernel_rfl) ?_ _
         obtain ⟨hnof,hfaf,honf,hsnf,hoaf⟩:=HLW.out
         have HFIN:=yh (honf (by simp only [decide_eq_false_iff_not] at hj0;omega) (by rw [hoaf,hok,hnxd];rfl))
         have HBX:=yh (Kaa (Kaa HI.out.2 (Kac (w:=wr) (.cells cs 70))) hS1)
         clear hnof hfaf honf hsnf hoaf hl4 hidl hnx hls hf0 hfn hfl hS0 hS hS1 hb1 hok hnxd hj0
         go_wp2
         go_roundw
         case rel=>exact ⟨j + 1,hlt1,by go_num,yh ⟨HFIN.out,HBX.out⟩⟩
         case measure=>simp [intOf];omega
       | true =>
         have HGT:=yh (HGT0.out _ hj0)
         obtain ⟨k,hke⟩ : ∃ k,k + 1 = j:=⟨j - 1,by simp only [decide_eq_true_eq] at hj0;omega⟩
         have hkl : k < g.nodes.length:=by omega
         have HK:=yh (HKP.out k hke hkl)
         have hfk:=HLW.out.2.1 k hke hkl
         have hsk:=HLW.out.2.2.2.1 k hke hkl
         clear hke HKP
         generalize g.nodes[k] = nk at *
         obtain ⟨hsb,hix,hfp,hpv,_⟩:=HK.out
         refine tk 12 25 (v:=.bool true) rfl rfl (fun W hW=>Kar rfl rfl rfl (HGT.out W)) ?_
         simp only [Act.put,sA,sZ,sS]
         refine tk 13 26 (v:=.bool true) rfl rfl (fun W hW=>Kah rfl rfl) ?_
         simp only [Act.put,sA,sZ,sS]
         refine tk 14 27 (v:=.pointer (some ⟨w.heap.size,0,none⟩)) rfl rfl (fun W hW=>Kad rfl rfl (hfl W)) ?_
         simp only [Act.put,sA,sZ,sS]
         refine tk 15 28 (v:=.slice (some ⟨b,of,none⟩) g.nodes.length cn) rfl rfl (fun W hW=>Kaf rfl rfl (hls W hW)) ?_
         simp only [Act.put,sA,sZ,sS]
         refine tk 16 29 (v:=.int .i64 (j : Int)) rfl rfl (fun W hW=>Kah rfl rfl) ?_
         simp only [Act.put,sA,sZ,sS]
         refine tk 17 30 (v:=.int .i64 (k : Int)) rfl rfl (fun W hW=>Kar rfl rfl rfl (hsb W)) ?_
         simp only [Act.put,sA,sZ,sS]
         refine tk 18 31 (v:=.pointer (some ⟨b,of + k * 3,none⟩)) rfl rfl (fun W hW=>Kao rfl rfl rfl (hix W)) ?_
         simp only [Act.put,sA,sZ,sS]
         refine tk 19 32 (v:=.pointer (some ⟨b,of + k * 3,none⟩)) rfl rfl (fun W hW=>Kad rfl rfl (hfp W)) ?_
         simp only [Act.put,sA,sZ,sS]
         refine tk 20 33 (v:=.int .i64 nk.id) rfl rfl (fun W hW=>Kaf rfl rfl (hpv W hW)) ?_
         simp only [Act.put,sA,sZ,sS]
         refine tk 21 34 (v:=.pointer (some ⟨wr.heap.size,0,none⟩)) rfl rfl (fun W hW=>Kad rfl rfl (hf0 W)) ?_
         simp only [Act.put,sA,sZ,sS]
         refine tk 22 35 (v:=.int .i64 nj.id) rfl rfl (fun W hW=>Kaf rfl rfl (hidl W hW)) ?_
         simp only [Act.put,sA,sZ,sS]
         cases hpd : decide (nj.id ≤ nk.id) with
         | false =>
           have HG2:=yh (HK.out.2.2.2.2 _ hpd)
           refine tk 23 36 (v:=.bool false) rfl rfl (fun W hW=>Kar rfl rfl rfl (HG2.out W)) ?_
           simp only [Act.put,sA,sZ,sS]
           refine tk 24 37 (v:=.bool false) rfl rfl (fun W hW=>rfl) ?_
           simp only [Act.put,sA,sZ,sS]
           refine tk 25 38 (v:=.bool false) rfl rfl (fun W hW=>rfl) ?_
           simp only [Act.put,sA,sZ,sS]
           refine done (by kernel_rfl) ?_ _
           obtain ⟨hnof,hfaf,honf,hsnf,hoaf⟩:=HLW.out
           have HFIN:=yh (hsk (by rw [hoaf,hok,hnxd];rfl) (by simpa using hpd))
           have HBX:=yh (Kaa (Kaa HI.out.2 (Kac (w:=wr) (.cells cs 70))) hS1)
           clear hnof hfaf honf hsnf hoaf hl4 hidl hnx hls hf0 hfn hfl hS0 hS hS1 hsb hix hfp hpv hfk hsk hb1 hok hnxd hj0 hpd
           go_wp2
           go_roundw
           case rel=>exact ⟨j + 1,hlt1,by go_num,yh ⟨HFIN.out,HBX.out⟩⟩
           case measure=>simp [intOf];omega
         | true =>
           have HG2:=yh (HK.out.2.2.2.2 _ hpd)
           refine tk 23 36 (v:=.bool true) rfl rfl (fun W hW=>Kar rfl rfl rfl (HG2.out W)) ?_
           simp only [Act.put,sA,sZ,sS]
           refine tk 24 37 (v:=.bool true) rfl rfl (fun W hW=>rfl) ?_
           simp only [Act.put,sA,sZ,sS]
           refine tk 25 38 (v:=.bool true) rfl rfl (fun W hW=>rfl) ?_
           simp only [Act.put,sA,sZ,sS]
           refine done (by kernel_rfl) ?_ _
           obtain ⟨hnof,hfaf,honf,hsnf,hoaf⟩:=HLW.out
           have HFIN:=yh (hfk (by simpa using hpd))
           have HBF:=yh (Kaa HBN.out hS1)
           clear hnof hfaf honf hsnf hoaf hl4 hidl hnx hls hf0 hfn hfl hS0 hS hS1 hsb hix hfp hpv hfk hsk hb1 hok hnxd hj0 hpd
           go_wp2
           go_ret
           exact ⟨by rw [HFIN.out];rfl,HBF.out⟩
     | true =>
       have HGE:=yh (HGE0.out _ hnxd)
       refine tk 8 21 (v:=.bool true) rfl rfl (fun W hW=>Kar rfl rfl rfl (HGE.out W)) ?_
       simp only [Act.put,sA,sZ,sS]
       refine tk 9 22 (v:=.bool true) rfl rfl (fun W hW=>rfl) ?_
       simp only [Act.put,sA,sZ,sS]
       refine tk 10 23 (v:=.bool true) rfl rfl (fun W hW=>Kah rfl rfl) ?_
       simp only [Act.put,sA,sZ,sS]
       refine tn 11 24 rfl rfl ?_
       simp only [Act.put,sA,sZ,sS]
       refine tn 12 25 rfl rfl ?_
       simp only [Act.put,sA,sZ,sS]
       refine tn 13 26 rfl rfl ?_
       simp only [Act.put,sA,sZ,sS]
       refine tn 14 27 rfl rfl ?_
       simp only [Act.put,sA,sZ,sS]
       refine tn 15 28 rfl rfl ?_
       simp only [Act.put,sA,sZ,sS]
       refine tn 16 29 rfl rfl ?_
       simp only [Act.put,sA,sZ,sS]
       refine tn 17 30 rfl rfl ?_
       simp only [Act.put,sA,sZ,sS]
       refine tn 18 31 rfl rfl ?_
       simp only [Act.put,sA,sZ,sS]
       refine tn 19 32 rfl rfl ?_
       simp only [Act.put,sA,sZ,sS]
       refine tn 20 33 rfl rfl ?_
       simp only [Act.put,sA,sZ,sS]
       refine tn 21 34 rfl rfl ?_
       simp only [Act.put,sA,sZ,sS]
       refine tn 22 35 rfl rfl ?_
       simp only [Act.put,sA,sZ,sS]
       refine tn 23 36 rfl rfl ?_
       simp only [Act.put,sA,sZ,sS]
       refine tn 24 37 rfl rfl ?_
       simp only [Act.put,sA,sZ,sS]
       refine tk 25 38 (v:=.bool true) rfl rfl (fun W hW=>rfl) ?_
       simp only [Act.put,sA,sZ,sS]
       refine done (by kernel_rfl) ?_ _
       obtain ⟨hnof,hfaf,honf,hsnf,hoaf⟩:=HLW.out
       have HFIN:=yh (hnof (by rw [hoaf,hok,hnxd];rfl))
       have HBF:=yh (Kaa HBN.out hS1)
       clear hnof hfaf honf hsnf hoaf hl4 hidl hnx hls hf0 hfn hfl hS0 hS hS1 hb1 hok hnxd
       go_wp2
       go_ret
       exact ⟨by rw [HFIN.out];rfl,HBF.out⟩
  ·obtain rfl : j = g.nodes.length:=by omega
   have HF:=yh (And.intro HI.out.1.last (Kaa HB0.out HI.out.2))
   clear HI
   go_wp2
   go_ret
   exact ⟨by rw [HF.out.1];rfl,HF.out.2⟩
theorem rel_id {w : World} {n : RelD} {cs : Array Value} (h : RRd w n cs) : cs[0]? = some (.int .i64 n.id) ∧ cs[1]? = some (.int .i64 n.src) ∧ cs[2]? = some (.int .i64 n.dst):=by
 obtain ⟨pp,cp,rfl,_⟩:=h;exact ⟨rfl,rfl,rfl⟩
def okAtR (g : GraphD) (r : RelD) : Bool:=okR r && decide (r.id < g.nextRel) && hasN g r.src && hasN g r.dst
theorem okRs_eq (g : GraphD) : okRs g = (g.rels.all (okAtR g) && Kch (g.rels.map RelD.id)):=rfl
theorem okRs_no {g : GraphD} {j : Nat} (hj : j < g.rels.length) (h : okAtR g g.rels[j] = false) : okRs g = false:=by
 rw [okRs_eq]
 have : g.rels.all (okAtR g) = false:=by
  rw [List.all_eq_false]
  exact ⟨g.rels[j],List.getElem_mem hj,by simp [h]⟩
 rw [this,Bool.false_and]
theorem okRs_fall {g : GraphD} {k j : Nat} (hk : k + 1 = j) (hj : j < g.rels.length) (h : g.rels[j].id ≤ g.rels[k].id) : okRs g = false:=by
 rw [okRs_eq]
 cases hr : Kch (g.rels.map RelD.id) with
 | false=>rw [Bool.and_false]
 | true =>
   have:=Ke1 hr (a:=k) (b:=j) (by simpa using hj) (by omega)
   rw [List.getElem_map,List.getElem_map] at this
   omega
def RsInv (g : GraphD) (j : Nat) : Prop:=(g.rels.take j).all (okAtR g) = true ∧ Kch ((g.rels.map RelD.id).take j) = true
theorem RsInv.zero (g : GraphD) : RsInv g 0:=⟨by simp,by simp [Kch]⟩
theorem RsInv.one {g : GraphD} {j : Nat} (h0 : j = 0) (hj : j < g.rels.length) (h : okAtR g g.rels[j] = true) : RsInv g (j + 1):=by
 subst h0
 exact ⟨all_snoc hj (by simp) h,risesI_one _⟩
theorem RsInv.snoc {g : GraphD} {k j : Nat} (hk : k + 1 = j) (hj : j < g.rels.length) (hi : RsInv g j) (h : okAtR g g.rels[j] = true) (hlt : ¬ g.rels[j].id ≤ g.rels[k].id) : RsInv g (j + 1):=by
 subst hk
 refine ⟨all_snoc hj hi.1 h,?_⟩
 rw [risesI_step (by simpa using hj),hi.2,Bool.true_and]
 simp only [List.getElem_map,decide_eq_true_eq];omega
theorem RsInv.last {g : GraphD} (h : RsInv g g.rels.length) : okRs g = true:=by
 rw [okRs_eq]
 have h1:=h.1
 have h2:=h.2
 rw [List.take_length] at h1
 rw [List.take_of_length_le (by simp)] at h2
 rw [h1,h2];rfl
theorem grels_any {w : World} (hE : Env w) {g : GraphD} {x : Array Value} (h : GrRd w g x) (hri : Kch (g.nodes.map NodeD.id) = true) (ht : totG g ≤ 1000000) : Calls Tryz.prog 45 #[.agg x] w fun e w'=>e = .returned (.bool (okRs g)) ∧ Below w.heap.size w w':=by
 have hgr:=h
 obtain ⟨pn,cn,pr,cr,rfl,hn,hrl⟩:=h
 have z1 : (g.rels.length : Int) ≤ 140737488355328:=by have:=hrl.1.2.1;omega
 have htn : ∀ n ∈ g.rels,totR n ≤ 1000000:=fun n hm=>by
  have h1:=Kbb totR hm
  unfold totG at ht;omega
 have hb:=Kac (w:=w) (.cells #[.slice pn g.nodes.length cn,.slice pr g.rels.length cr,.int .i64 g.nextNode,.int .i64 g.nextRel] 25)
 have hg:=heap_alloc_new w (.cells #[.slice pn g.nodes.length cn,.slice pr g.rels.length cr,.int .i64 g.nextNode,.int .i64 g.nextRel] 25)
 have hn1:=hrl.below (fun h=>h.below hb) hb
 have hE1:=hE.b hb
 have hgr1:=hgr.below hb
 have hlt0:=Array.getElem?_eq_some_iff.1 hg |>.1
 have H:=yh (And.intro hn1 (And.intro hE1 (And.intro hg (And.intro hgr1 hlt0))))
 have HB0:=yh hb
 have HRI:=yh hri
 clear hri
 have HT:=yh htn
 clear hn hrl hb hg hn1 hE1 hE ht htn hgr hgr1 hlt0
 go_enter Tryz.func45,Tryz.ntmps45
 go_wp2
 generalize w.alloc (.cells #[.slice pn g.nodes.length cn,.slice pr g.rels.length cr,.int .i64 g.nextNode,.int .i64 g.nextRel] 25) = w1 at *
 go_loopw [8] (fun i W=>∃ j : Nat,j ≤ g.rels.length ∧ i = .int .i64 (j : Int) ∧ Hid (RsInv g j ∧ Below w1.heap.size w1 W)) (fun i _=>g.rels.length - (intOf i).toNat)
 case atStart=>exact ⟨0,Nat.zero_le _,rfl,yh ⟨RsInv.zero g,Below.refl _ _⟩⟩
 case round =>
  obtain ⟨j,hj,rfl,HI⟩:=hrel
  by_cases hlt : j < g.rels.length
  ·have hlt1 : j + 1 ≤ g.rels.length:=hlt
   obtain ⟨hn1,hE1,hg,hgr1,hlt0⟩:=H.out
   have hnr:=hn1.below (fun h=>h.below HI.out.2) HI.out.2
   obtain ⟨b,of,cs,rfl,hs,hc,hv⟩:=hnr.get hlt
   have hones:=ef_rel.ones hv
   have hnof : okAtR g g.rels[j] = false → okRs g = false:=okRs_no hlt
   have hfaf : ∀ k,k + 1 = j → ∀ hk : k < g.rels.length,g.rels[j].id ≤ g.rels[k].id → okRs g = false:=fun k hk _ h=>okRs_fall hk hlt h
   have honf : j = 0 → okAtR g g.rels[j] = true → RsInv g (j + 1):=fun h0 h=>RsInv.one h0 hlt h
   have hsnf : ∀ k,k + 1 = j → ∀ hk : k < g.rels.length,okAtR g g.rels[j] = true → ¬ g.rels[j].id ≤ g.rels[k].id → RsInv g (j + 1):=fun k hk _ h h'=>RsInv.snoc hk hlt HI.out.1 h h'
   have hoaf : okAtR g g.rels[j] = (okR g.rels[j] && !decide (g.nextRel ≤ g.rels[j].id) && hasN g g.rels[j].src && hasN g g.rels[j].dst):=by rw [← dec_lt];rfl
   have htot : totR g.rels[j] ≤ 1000000:=HT.out _ (List.getElem_mem hlt)
   generalize g.rels[j] = nj at *
   have hbn:=Kac (w:=wr) (.cells cs 72)
   have hb2:=Kaa HI.out.2 hbn
   have hB:=heap_alloc_new wr (.cells cs 72)
   have HL1:=yh (Kcf.load hs hc)
   have HS:=yh (Kcf.fresh hs hones (W:=wr))
   have hl4 : ∀ W,Below (wr.alloc (.cells cs 72)).heap.size (wr.alloc (.cells cs 72)) W → (loadVar 72 ⟨wr.heap.size,0,none⟩).run Tryz.prog W = .ok (.agg cs) W:=fun W q=>Kcf.get hs (Kai q (Array.getElem?_eq_some_iff.1 hB).1 hB)
   have hidl : ∀ W,Below (wr.alloc (.cells cs 72)).heap.size (wr.alloc (.cells cs 72)) W → (loadVar 2 ⟨wr.heap.size,0,none⟩).run Tryz.prog W = .ok (.int .i64 nj.id) W:=fun W q=>Kei Tryz.underlying2 rfl q hB (rel_id hv).1
   have hnx : ∀ W,Below (wr.alloc (.cells cs 72)).heap.size (wr.alloc (.cells cs 72)) W → (loadVar 2 ⟨w.heap.size,3,none⟩).run Tryz.prog W = .ok (.int .i64 g.nextRel) W:=fun W q=>Kei Tryz.underlying2 rfl (Kaa hb2 q) hg rfl
   have hls : ∀ W,Below (wr.alloc (.cells cs 72)).heap.size (wr.alloc (.cells cs 72)) W → (loadVar 23 ⟨w.heap.size,1,none⟩).run Tryz.prog W = .ok (.slice (some ⟨b,of,none⟩) g.rels.length cr) W:=fun W q=>Kei Tryz.underlying23 rfl (Kaa hb2 q) hg rfl
   have hia : ∀ W' : World,(Instr.indexAt 23 (.slice (some ⟨b,of,none⟩) g.rels.length cr) (.int .i64 (j : Int))).run Tryz.prog W' = .ok (.pointer (some ⟨b,of + j * 5,none⟩)) W':=by intro W';simp [go_sem,hlt]
   have hf0 : ∀ W' : World,(Instr.fieldAt 72 (.pointer (some ⟨wr.heap.size,0,none⟩)) 0).run Tryz.prog W' = .ok (.pointer (some ⟨wr.heap.size,0,none⟩)) W':=by intro W';simp [go_sem]
   have hfn : ∀ W' : World,(Instr.fieldAt 25 (.pointer (some ⟨w.heap.size,0,none⟩)) 3).run Tryz.prog W' = .ok (.pointer (some ⟨w.heap.size,3,none⟩)) W':=by intro W';simp [go_sem]
   have hfl : ∀ W' : World,(Instr.fieldAt 25 (.pointer (some ⟨w.heap.size,0,none⟩)) 1).run Tryz.prog W' = .ok (.pointer (some ⟨w.heap.size,1,none⟩)) W':=by intro W';simp [go_sem]
   have hge : ∀ bb,decide (g.nextRel ≤ nj.id) = bb → ∀ W' : World,(binOp .geq 2 (.int .i64 nj.id) (.int .i64 g.nextRel)).run Tryz.prog W' = .ok (.bool bb) W':=by intro bb hbb W';subst hbb;simp [go_sem]
   have hgt : ∀ bb,decide (0 < j) = bb → ∀ W' : World,(binOp .gtr 3 (.int .i64 (j : Int)) (.int .i64 0)).run Tryz.prog W' = .ok (.bool bb) W':=by intro bb hbb W';subst hbb;simp [go_sem]
   have hokc : ∀ bb,okR nj = bb → ∀ W',Below (wr.alloc (.cells cs 72)).heap.size (wr.alloc (.cells cs 72)) W' → Calls Tryz.prog 101 #[.agg cs] W' fun e w'=>e = .returned (.bool bb) ∧ Below W'.heap.size W' w':=fun bb hbb W' q=>hbb ▸ grel_any (hE1.b (Kaa hb2 q)) (hv.below (Kaa hbn q)) htot
   have hgl : ∀ W,Below (wr.alloc (.cells cs 72)).heap.size (wr.alloc (.cells cs 72)) W → (loadVar 25 ⟨w.heap.size,0,none⟩).run Tryz.prog W = .ok (.agg #[.slice pn g.nodes.length cn,.slice (some ⟨b,of,none⟩) g.rels.length cr,.int .i64 g.nextNode,.int .i64 g.nextRel]) W:=fun W q=>Kay.get rfl (Kai (Kaa hb2 q) hlt0 hg)
   have hf1 : ∀ W' : World,(Instr.fieldAt 72 (.pointer (some ⟨wr.heap.size,0,none⟩)) 1).run Tryz.prog W' = .ok (.pointer (some ⟨wr.heap.size,1,none⟩)) W':=by intro W';simp [go_sem]
   have hf2 : ∀ W' : World,(Instr.fieldAt 72 (.pointer (some ⟨wr.heap.size,0,none⟩)) 2).run Tryz.prog W' = .ok (.pointer (some ⟨wr.heap.size,2,none⟩)) W':=by intro W';simp [go_sem]
   have hsl : ∀ W,Below (wr.alloc (.cells cs 72)).heap.size (wr.alloc (.cells cs 72)) W → (loadVar 2 ⟨wr.heap.size,1,none⟩).run Tryz.prog W = .ok (.int .i64 nj.src) W:=fun W q=>Kei Tryz.underlying2 rfl q hB (rel_id hv).2.1
   have hdl : ∀ W,Below (wr.alloc (.cells cs 72)).heap.size (wr.alloc (.cells cs 72)) W → (loadVar 2 ⟨wr.heap.size,2,none⟩).run Tryz.prog W = .ok (.int .i64 nj.dst) W:=fun W q=>Kei Tryz.underlying2 rfl q hB (rel_id hv).2.2
   have hhs : ∀ bb,hasN g nj.src = bb → ∀ W',Below (wr.alloc (.cells cs 72)).heap.size (wr.alloc (.cells cs 72)) W' → Calls Tryz.prog 102 #[.agg #[.slice pn g.nodes.length cn,.slice (some ⟨b,of,none⟩) g.rels.length cr,.int .i64 g.nextNode,.int .i64 g.nextRel],.int .i64 nj.src] W' fun e w'=>e = .returned (.bool bb) ∧ Below W'.heap.size W' w':=fun bb hbb W' q=>hbb ▸ has_any (hgr1.below (Kaa hb2 q)) HRI.out _
   have hhd : ∀ bb,hasN g nj.dst = bb → ∀ W',Below (wr.alloc (.cells cs 72)).heap.size (wr.alloc (.cells cs 72)) W' → Calls Tryz.prog 102 #[.agg #[.slice pn g.nodes.length cn,.slice (some ⟨b,of,none⟩) g.rels.length cr,.int .i64 g.nextNode,.int .i64 g.nextRel],.int .i64 nj.dst] W' fun e w'=>e = .returned (.bool bb) ∧ Below W'.heap.size W' w':=fun bb hbb W' q=>hbb ▸ has_any (hgr1.below (Kaa hb2 q)) HRI.out _
   have HY:=yh (And.intro hgl (And.intro hf1 (And.intro hf2 (And.intro hsl hdl))))
   have HHS0:=yh hhs
   have HHD0:=yh hhd
   clear hgl hf1 hf2 hsl hdl hhs hhd
   have hkp : ∀ k,k + 1 = j → ∀ hk : k < g.rels.length,(∀ W' : World,(binOp .sub 3 (.int .i64 (j : Int)) (.int .i64 1)).run Tryz.prog W' = .ok (.int .i64 (k : Int)) W') ∧ (∀ W' : World,(Instr.indexAt 23 (.slice (some ⟨b,of,none⟩) g.rels.length cr) (.int .i64 (k : Int))).run Tryz.prog W' = .ok (.pointer (some ⟨b,of + k * 5,none⟩)) W') ∧
    (∀ W' : World,(Instr.fieldAt 72 (.pointer (some ⟨b,of + k * 5,none⟩)) 0).run Tryz.prog W' = .ok (.pointer (some ⟨b,of + k * 5,none⟩)) W') ∧ (∀ W,Below (wr.alloc (.cells cs 72)).heap.size (wr.alloc (.cells cs 72)) W → (loadVar 2 ⟨b,of + k * 5,none⟩).run Tryz.prog W = .ok (.int .i64 g.rels[k].id) W) ∧
    (∀ bb,decide (nj.id ≤ g.rels[k].id) = bb → ∀ W' : World,(binOp .geq 2 (.int .i64 g.rels[k].id) (.int .i64 nj.id)).run Tryz.prog W' = .ok (.bool bb) W'):=by
    intro k hk hkl
    obtain ⟨b',of',cs',e',hs',hc',hv'⟩:=hnr.get hkl
    cases e'
    refine ⟨fun W'=>?_,fun W'=>by simp [go_sem,hkl],fun W'=>by simp [go_sem],fun W q=>?_,fun bb hbb W'=>by subst hbb;simp [go_sem]⟩
    ·rw [← hk]
     exact_mod_cast sub_one (j:=k) (by omega) W'
    ·have hc0:=hc' 0 _ (rel_id hv').1
     exact Kag Tryz.underlying2 rfl (Kak (Kaa hbn q) (ltOf hc0) hc0)
   have HX:=yh (And.intro hl4 (And.intro hidl (And.intro hnx (And.intro hls (And.intro hf0 (And.intro hfn hfl))))))
   have HKP:=yh hkp
   have HBN:=yh (Kaa HB0.out hb2)
   have HSB:=yh ((Below.refl (wr.alloc (.cells cs 72)).heap.size (wr.alloc (.cells cs 72))).drew)
   have HGE0:=yh hge
   have HGT0:=yh hgt
   have HOK0:=yh hokc
   have HLW:=yh (And.intro hnof (And.intro hfaf (And.intro honf (And.intro hsnf hoaf))))
   clear hl4 hidl hnx hls hf0 hfn hfl hge hgt hokc hkp htot hnof hfaf honf hsnf hoaf hb2 hB hones hs hc hv hbn hnr hn1 hE1 hg hgr1 hlt0
   go_wp2_with (first
    | ((with_reducible apply Kal);exact HL1.out;exact rfl)
    | ((with_reducible apply Kae);exact HS.out _ rfl;exact rfl;exact rfl))
   obtain ⟨hl4,hidl,hnx,hls,hf0,hfn,hfl⟩:=HX.out
   obtain ⟨hgl,hf1,hf2,hsl,hdl⟩:=HY.out
   have hS0:=HSB.out
   refine Kaj (fun W=>Below (wr.alloc (.cells cs 72)).heap.size (wr.alloc (.cells cs 72)) W) (by kernel_rfl) hS0 (fun hS=>?_)
   refine tk 0 13 (v:=.agg cs) rfl rfl (fun W hW=>Kaf rfl rfl (hl4 W hW)) ?_
   simp only [Act.put,sA,sZ,sS]
   cases hok : okR nj with
   | false =>
     have HOKC:=yh (HOK0.out _ hok)
     refine Kau 1 14 rfl rfl (by kernel_rfl) rfl (Kaq [.agg cs] rfl rfl Tryz.func101 (by kernel_rfl) (by kernel_rfl)) ?_
     refine (HOKC.out _ hS).mono ?_
     rintro e w1 ⟨rfl,hb1⟩
     have hS1:=Kaa hS hb1
     refine ⟨_,rfl,.inr hS1,?_⟩
     simp only [Act.put,sA,sZ,sS]
     refine tk 2 15 (v:=.bool true) rfl rfl (fun W hW=>Kb5 (b:=false) rfl rfl) ?_
     simp only [Act.put,sA,sZ,sS]
     refine tk 3 16 (v:=.bool true) rfl rfl (fun W hW=>Kah rfl rfl) ?_
     simp only [Act.put,sA,sZ,sS]
     refine tn 4 17 rfl rfl ?_
     simp only [Act.put,sA,sZ,sS]
     refine tn 5 18 rfl rfl ?_
     simp only [Act.put,sA,sZ,sS]
     refine tn 6 19 rfl rfl ?_
     simp only [Act.put,sA,sZ,sS]
     refine tn 7 20 rfl rfl ?_
     simp only [Act.put,sA,sZ,sS]
     refine tn 8 21 rfl rfl ?_
     simp only [Act.put,sA,sZ,sS]
     refine tk 9 22 (v:=.bool true) rfl rfl (fun W hW=>rfl) ?_
     simp only [Act.put,sA,sZ,sS]
     refine tk 10 23 (v:=.bool true) rfl rfl (fun W hW=>Kah rfl rfl) ?_
     simp only [Act.put,sA,sZ,sS]
     refine tn 11 24 rfl rfl ?_
     simp only [Act.put,sA,sZ,sS]
     refine tn 12 25 rfl rfl ?_
     simp only [Act.put,sA,sZ,sS]
     refine tn 13 26 rfl rfl ?_
     simp only [Act.put,sA,sZ,sS]
     refine tn 14 27 rfl rfl ?_
     simp only [Act.put,sA,sZ,sS]
     refine tn 15 28 rfl rfl ?_
     simp only [Act.put,sA,sZ,sS]
     refine tn 16 29 rfl rfl ?_
     simp only [Act.put,sA,sZ,sS]
     refine tn 17 30 rfl rfl ?_
     simp only [Act.put,sA,sZ,sS]
     refine tn 18 31 rfl rfl ?_
     simp only [Act.put,sA,sZ,sS]
     refine tn 19 32 rfl rfl ?_
     simp only [Act.put,sA,sZ,sS]
     refine tn 20 33 rfl rfl ?_
     simp only [Act.put,sA,sZ,sS]
     refine tn 21 34 rfl rfl ?_
     simp only [Act.put,sA,sZ,sS]
     refine tn 22 35 rfl rfl ?_
     simp only [Act.put,sA,sZ,sS]
     refine tn 23 36 rfl rfl ?_
     simp only [Act.put,sA,sZ,sS]
     refine tn 24 37 rfl rfl ?_
     simp only [Act.put,sA,sZ,sS]
     refine tk 25 38 (v:=.bool true) rfl rfl (fun W hW=>rfl) ?_
     simp only [Act.put,sA,sZ,sS]
     refine tk 26 39 (v:=.bool true) rfl rfl (fun W hW=>Kah rfl rfl) ?_
     simp only [Act.put,sA,sZ,sS]
     refine tn 27 40 rfl rfl ?_
     simp only [Act.put,sA,sZ,sS]
     refine tn 28 41 rfl rfl ?_
     simp only [Act.put,sA,sZ,sS]
     refine tn 29 42 rfl rfl ?_
     simp only [Act.put,sA,sZ,sS]
     refine onlyNot 30 43 rfl rfl (by kernel_rfl) rfl ?_ (.inr (by assumption))
     simp only [Act.put,sA,sZ,sS]
     refine tn 31 44 rfl rfl ?_
     simp only [Act.put,sA,sZ,sS]
     refine tk 32 45 (v:=.bool true) rfl rfl (fun W hW=>rfl) ?_
     simp only [Act.put,sA,sZ,sS]
     refine tk 33 46 (v:=.bool true) rfl rfl (fun W hW=>Kah rfl rfl) ?_
     simp only [Act.put,sA,sZ,sS]
     refine tn 34 47 rfl rfl ?_
     simp only [Act.put,sA,sZ,sS]
     refine tn 35 48 rfl rfl ?_
     simp only [Act.put,sA,sZ,sS]
     refine tn 36 49 rfl rfl ?_
     simp only [Act.put,sA,sZ,sS]
     refine onlyNot 37 50 rfl rfl (by kernel_rfl) rfl ?_ (.inr (by assumption))
     simp only [Act.put,sA,sZ,sS]
     refine tn 38 51 rfl rfl ?_
     simp only [Act.put,sA,sZ,sS]
     refine tk 39 52 (v:=.bool true) rfl rfl (fun W hW=>rfl) ?_
     simp only [Act.put,sA,sZ,sS]
     refine done (by kernel_rfl) ?_ _
     obtain ⟨hnof,hfaf,honf,hsnf,hoaf⟩:=HLW.out
     have HFIN:=yh (hnof (by rw [hoaf,hok];rfl))
     have HBF:=yh (Kaa HBN.out hS1)
     clear hnof hfaf honf hsnf hoaf hl4 hidl hnx hls hf0 hfn hfl hS0 hS hS1 hgl hf1 hf2 hsl hdl hb1 hok
     go_wp2
     go_ret
     exact ⟨by rw [HFIN.out];rfl,HBF.out⟩
   | true =>
     have HOKC:=yh (HOK0.out _ hok)
     refine Kau 1 14 rfl rfl (by kernel_rfl) rfl (Kaq [.agg cs] rfl rfl Tryz.func101 (by kernel_rfl) (by kernel_rfl)) ?_
     refine (HOKC.out _ hS).mono ?_
     rintro e w1 ⟨rfl,hb1⟩
     have hS1:=Kaa hS hb1
     refine ⟨_,rfl,.inr hS1,?_⟩
     simp only [Act.put,sA,sZ,sS]
     refine tk 2 15 (v:=.bool false) rfl rfl (fun W hW=>Kb5 (b:=true) rfl rfl) ?_
     simp only [Act.put,sA,sZ,sS]
     refine tk 3 16 (v:=.bool false) rfl rfl (fun W hW=>Kah rfl rfl) ?_
     simp only [Act.put,sA,sZ,sS]
     refine tk 4 17 (v:=.pointer (some ⟨wr.heap.size,0,none⟩)) rfl rfl (fun W hW=>Kad rfl rfl (hf0 W)) ?_
     simp only [Act.put,sA,sZ,sS]
     refine tk 5 18 (v:=.int .i64 nj.id) rfl rfl (fun W hW=>Kaf rfl rfl (hidl W hW)) ?_
     simp only [Act.put,sA,sZ,sS]
     refine tk 6 19 (v:=.pointer (some ⟨w.heap.size,3,none⟩)) rfl rfl (fun W hW=>Kad rfl rfl (hfn W)) ?_
     simp only [Act.put,sA,sZ,sS]
     refine tk 7 20 (v:=.int .i64 g.nextRel) rfl rfl (fun W hW=>Kaf rfl rfl (hnx W hW)) ?_
     simp only [Act.put,sA,sZ,sS]
     cases hnxd : decide (g.nextRel ≤ nj.id) with
     | false =>
       have HGE:=yh (HGE0.out _ hnxd)
       refine tk 8 21 (v:=.bool false) rfl rfl (fun W hW=>Kar rfl rfl rfl (HGE.out W)) ?_
       simp only [Act.put,sA,sZ,sS]
       refine tk 9 22 (v:=.bool false) rfl rfl (fun W hW=>rfl) ?_
       simp only [Act.put,sA,sZ,sS]
       refine tk 10 23 (v:=.bool false) rfl rfl (fun W hW=>Kah rfl rfl) ?_
       simp only [Act.put,sA,sZ,sS]
       refine tk 11 24 (v:=.int .i64 (j : Int)) rfl rfl (fun W hW=>Kah rfl rfl) ?_
       simp only [Act.put,sA,sZ,sS]
       cases hj0 : decide (0 < j) with
       | false =>
         have HGT:=yh (HGT0.out _ hj0)
         refine tk 12 25 (v:=.bool false) rfl rfl (fun W hW=>Kar rfl rfl rfl (HGT.out W)) ?_
         simp only [Act.put,sA,sZ,sS]
         refine tk 13 26 (v:=.bool false) rfl rfl (fun W hW=>Kah rfl rfl) ?_
         simp only [Act.put,sA,sZ,sS]
         refine tn 14 27 rfl rfl ?_
         simp only [Act.put,sA,sZ,sS]
         refine tn 15 28 rfl rfl ?_
         simp only [Act.put,sA,sZ,sS]
         refine tn 16 29 rfl rfl ?_
         simp only [Act.put,sA,sZ,sS]
         refine tn 17 30 rfl rfl ?_
         simp only [Act.put,sA,sZ,sS]
         refine tn 18 31 rfl rfl ?_
         simp only [Act.put,sA,sZ,sS]
         refine tn 19 32 rfl rfl ?_
         simp only [Act.put,sA,sZ,sS]
         refine tn 20 33 rfl rfl ?_
         simp only [Act.put,sA,sZ,sS]
         refine tn 21 34 rfl rfl ?_
         simp only [Act.put,sA,sZ,sS]
         refine tn 22 35 rfl rfl ?_
         simp only [Act.put,sA,sZ,sS]
         refine tn 23 36 rfl rfl ?_
         simp only [Act.put,sA,sZ,sS]
         refine tk 24 37 (v:=.bool false) rfl rfl (fun W hW=>rfl) ?_
         simp only [Act.put,sA,sZ,sS]
         refine tk 25 38 (v:=.bool false) rfl rfl (fun W hW=>rfl) ?_
         simp only [Act.put,sA,sZ,sS]
         refine tk 26 39 (v:=.bool false) rfl rfl (fun W hW=>Kah rfl rfl) ?_
         simp only [Act.put,sA,sZ,sS]
         refine tk 27 40 (v:=.agg #[.slice pn g.nodes.length cn,.slice (some ⟨b,of,none⟩) g.rels.length cr,.int .i64 g.nextNode,.int .i64 g.nextRel]) rfl rfl (fun W hW=>Kaf rfl rfl (hgl W hW)) ?_
         simp only [Act.put,sA,sZ,sS]
         refine tk 28 41 (v:=.pointer (some ⟨wr.heap.size,1,none⟩)) rfl rfl (fun W hW=>Kad rfl rfl (hf1 W)) ?_
         simp only [Act.put,sA,sZ,sS]
         refine tk 29 42 (v:=.int .i64 nj.src) rfl rfl (fun W hW=>Kaf rfl rfl (hsl W hW)) ?_
         simp only [Act.put,sA,sZ,sS]
         cases hsr : hasN g nj.src with
         | false =>
           have HHS:=yh (HHS0.out _ hsr)
           refine Kau 30 43 rfl rfl (by kernel_rfl) rfl (Kaq [.agg #[.slice pn g.nodes.length cn,.slice (some ⟨b,of,none⟩) g.rels.length cr,.int .i64 g.nextNode,.int .i64 g.nextRel],.int .i64 nj.src] rfl rfl Tryz.func102 (by kernel_rfl) (by kernel_rfl)) ?_
           refine (HHS.out _ hS1).mono ?_
           rintro e w30 ⟨rfl,hb30⟩
           have hS30:=Kaa hS1 hb30
           refine ⟨_,rfl,.inr hS30,?_⟩
           simp only [Act.put,sA,sZ,sS]
           refine tk 31 44 (v:=.bool true) rfl rfl (fun W hW=>Kb5 (b:=false) rfl rfl) ?_
           simp only [Act.put,sA,sZ,sS]
           refine tk 32 45 (v:=.bool true) rfl rfl (fun W hW=>rfl) ?_
           simp only [Act.put,sA,sZ,sS]
           refine tk 33 46 (v:=.bool true) rfl rfl (fun W hW=>Kah rfl rfl) ?_
           simp only [Act.put,sA,sZ,sS]
           refine tn 34 47 rfl rfl ?_
           simp only [Act.put,sA,sZ,sS]
           refine tn 35 48 rfl rfl ?_
           simp only [Act.put,sA,sZ,sS]
           refine tn 36 49 rfl rfl ?_
           simp only [Act.put,sA,sZ,sS]
           refine onlyNot 37 50 rfl rfl (by kernel_rfl) rfl ?_ (.inr (by assumption))
           simp only [Act.put,sA,sZ,sS]
           refine tn 38 51 rfl rfl ?_
           simp only [Act.put,sA,sZ,sS]
           refine tk 39 52 (v:=.bool true) rfl rfl (fun W hW=>rfl) ?_
           simp only [Act.put,sA,sZ,sS]
           refine done (by kernel_rfl) ?_ _
           obtain ⟨hnof,hfaf,honf,hsnf,hoaf⟩:=HLW.out
           have HFIN:=yh (hnof (by rw [hoaf,hok,hnxd,hsr];rfl))
           have HBF:=yh (Kaa HBN.out hS30)
           clear hnof hfaf honf hsnf hoaf hl4 hidl hnx hls hf0 hfn hfl hS0 hS hS1 hS30 hgl hf1 hf2 hsl hdl hb1 hb30 hok hnxd hsr hj0
           go_wp2
           go_ret
           exact ⟨by rw [HFIN.out];rfl,HBF.out⟩
         | true =>
           have HHS:=yh (HHS0.out _ hsr)
           refine Kau 30 43 rfl rfl (by kernel_rfl) rfl (Kaq [.agg #[.slice pn g.nodes.length cn,.slice (some ⟨b,of,none⟩) g.rels.length cr,.int .i64 g.nextNode,.int .i64 g.nextRel],.int .i64 nj.src] rfl rfl Tryz.func102 (by kernel_rfl) (by kernel_rfl)) ?_
           refine (HHS.out _ hS1).mono ?_
           rintro e w30 ⟨rfl,hb30⟩
           have hS30:=Kaa hS1 hb30
           refine ⟨_,rfl,.inr hS30,?_⟩
           simp only [Act.put,sA,sZ,sS]
           refine tk 31 44 (v:=.bool false) rfl rfl (fun W hW=>Kb5 (b:=true) rfl rfl) ?_
           simp only [Act.put,sA,sZ,sS]
           refine tk 32 45 (v:=.bool false) rfl rfl (fun W hW=>rfl) ?_
           simp only [Act.put,sA,sZ,sS]
           refine tk 33 46 (v:=.bool false) rfl rfl (fun W hW=>Kah rfl rfl) ?_
           simp only [Act.put,sA,sZ,sS]
           refine tk 34 47 (v:=.agg #[.slice pn g.nodes.length cn,.slice (some ⟨b,of,none⟩) g.rels.length cr,.int .i64 g.nextNode,.int .i64 g.nextRel]) rfl rfl (fun W hW=>Kaf rfl rfl (hgl W hW)) ?_
           simp only [Act.put,sA,sZ,sS]
           refine tk 35 48 (v:=.pointer (some ⟨wr.heap.size,2,none⟩)) rfl rfl (fun W hW=>Kad rfl rfl (hf2 W)) ?_
           simp only [Act.put,sA,sZ,sS]
           refine tk 36 49 (v:=.int .i64 nj.dst) rfl rfl (fun W hW=>Kaf rfl rfl (hdl W hW)) ?_
           simp only [Act.put,sA,sZ,sS]
           cases hds : hasN g nj.dst with
           | false =>
             have HHD:=yh (HHD0.out _ hds)
             refine Kau 37 50 rfl rfl (by kernel_rfl) rfl (Kaq [.agg #[.slice pn g.nodes.length cn,.slice (some ⟨b,of,none⟩) g.rels.length cr,.int .i64 g.nextNode,.int .i64 g.nextRel],.int .i64 nj.dst] rfl rfl Tryz.func102 (by kernel_rfl) (by kernel_rfl)) ?_
             refine (HHD.out _ hS30).mono ?_
             rintro e w37 ⟨rfl,hb37⟩
             have hS37:=Kaa hS30 hb37
             refine ⟨_,rfl,.inr hS37,?_⟩
             simp only [Act.put,sA,sZ,sS]
             refine tk 38 51 (v:=.bool true) rfl rfl (fun W hW=>Kb5 (b:=false) rfl rfl) ?_
             simp only [Act.put,sA,sZ,sS]
             refine tk 39 52 (v:=.bool true) rfl rfl (fun W hW=>rfl) ?_
             simp only [Act.put,sA,sZ,sS]
             refine done (by kernel_rfl) ?_ _
             obtain ⟨hnof,hfaf,honf,hsnf,hoaf⟩:=HLW.out
             have HFIN:=yh (hnof (by rw [hoaf,hok,hnxd,hsr,hds];rfl))
             have HBF:=yh (Kaa HBN.out hS37)
             clear hnof hfaf honf hsnf hoaf hl4 hidl hnx hls hf0 hfn hfl hS0 hS hS1 hS30 hS37 hgl hf1 hf2 hsl hdl hb1 hb30 hb37 hok hnxd hsr hds hj0
             go_wp2
             go_ret
             exact ⟨by rw [HFIN.out];rfl,HBF.out⟩
           | true =>
             have HHD:=yh (HHD0.out _ hds)
             refine Kau 37 50 rfl rfl (by kernel_rfl) rfl (Kaq [.agg #[.slice pn g.nodes.length cn,.slice (some ⟨b,of,none⟩) g.rels.length cr,.int .i64 g.nextNode,.int .i64 g.nextRel],.int .i64 nj.dst] rfl rfl Tryz.func102 (by kernel_rfl) (by kernel_rfl)) ?_
             refine (HHD.out _ hS30).mono ?_
             rintro e w37 ⟨rfl,hb37⟩
             have hS37:=Kaa hS30 hb37
             refine ⟨_,rfl,.inr hS37,?_⟩
             simp only [Act.put,sA,sZ,sS]
             refine tk 38 51 (v:=.bool false) rfl rfl (fun W hW=>Kb5 (b:=true) rfl rfl) ?_
             simp only [Act.put,sA,sZ,sS]
             refine tk 39 52 (v:=.bool false) rfl rfl (fun W hW=>rfl) ?_
             simp only [Act.put,sA,sZ,sS]
             refine done (by kernel_rfl) ?_ _
             obtain ⟨hnof,hfaf,honf,hsnf,hoaf⟩:=HLW.out
             have HFIN:=yh (honf (by simp only [decide_eq_false_iff_not] at hj0;omega) (by rw [hoaf,hok,hnxd,hsr,hds];rfl))
             have HBX:=yh (Kaa (Kaa HI.out.2 (Kac (w:=wr) (.cells cs 72))) hS37)
             clear hnof hfaf honf hsnf hoaf hl4 hidl hnx hls hf0 hfn hfl hS0 hS hS1 hS30 hS37 hgl hf1 hf2 hsl hdl hb1 hb30 hb37 hok hnxd hsr hds hj0
             go_wp2
             go_roundw
             case rel=>exact ⟨j + 1,hlt1,by go_num,yh ⟨HFIN.out,HBX.out⟩⟩
             case measure=>simp [intOf];omega
       | true =>
         have HGT:=yh (HGT0.out _ hj0)
         obtain ⟨k,hke⟩ : ∃ k,k + 1 = j:=⟨j - 1,by simp only [decide_eq_true_eq] at hj0;omega⟩
         have hkl : k < g.rels.length:=by omega
         have HK:=yh (HKP.out k hke hkl)
         have hfk:=HLW.out.2.1 k hke hkl
         have hsk:=HLW.out.2.2.2.1 k hke hkl
         clear hke HKP
         generalize g.rels[k] = nk at *
         obtain ⟨hsb,hix,hfp,hpv,_⟩:=HK.out
         refine tk 12 25 (v:=.bool true) rfl rfl (fun W hW=>Kar rfl rfl rfl (HGT.out W)) ?_
         simp only [Act.put,sA,sZ,sS]
         refine tk 13 26 (v:=.bool true) rfl rfl (fun W hW=>Kah rfl rfl) ?_
         simp only [Act.put,sA,sZ,sS]
         refine tk 14 27 (v:=.pointer (some ⟨w.heap.size,1,none⟩)) rfl rfl (fun W hW=>Kad rfl rfl (hfl W)) ?_
         simp only [Act.put,sA,sZ,sS]
         refine tk 15 28 (v:=.slice (some ⟨b,of,none⟩) g.rels.length cr) rfl rfl (fun W hW=>Kaf rfl rfl (hls W hW)) ?_
         simp only [Act.put,sA,sZ,sS]
         refine tk 16 29 (v:=.int .i64 (j : Int)) rfl rfl (fun W hW=>Kah rfl rfl) ?_
         simp only [Act.put,sA,sZ,sS]
         refine tk 17 30 (v:=.int .i64 (k : Int)) rfl rfl (fun W hW=>Kar rfl rfl rfl (hsb W)) ?_
         simp only [Act.put,sA,sZ,sS]
         refine tk 18 31 (v:=.pointer (some ⟨b,of + k * 5,none⟩)) rfl rfl (fun W hW=>Kao rfl rfl rfl (hix W)) ?_
         simp only [Act.put,sA,sZ,sS]
         refine tk 19 32 (v:=.pointer (some ⟨b,of + k * 5,none⟩)) rfl rfl (fun W hW=>Kad rfl rfl (hfp W)) ?_
         simp only [Act.put,sA,sZ,sS]
         refine tk 20 33 (v:=.int .i64 nk.id) rfl rfl (fun W hW=>Kaf rfl rfl (hpv W hW)) ?_
         simp only [Act.put,sA,sZ,sS]
         refine tk 21 34 (v:=.pointer (some ⟨wr.heap.size,0,none⟩)) rfl rfl (fun W hW=>Kad rfl rfl (hf0 W)) ?_
         simp only [Act.put,sA,sZ,sS]
         refine tk 22 35 (v:=.int .i64 nj.id) rfl rfl (fun W hW=>Kaf rfl rfl (hidl W hW)) ?_
         simp only [Act.put,sA,sZ,sS]
         cases hpd : decide (nj.id ≤ nk.id) with
         | false =>
           have HG2:=yh (HK.out.2.2.2.2 _ hpd)
           refine tk 23 36 (v:=.bool false) rfl rfl (fun W hW=>Kar rfl rfl rfl (HG2.out W)) ?_
           simp only [Act.put,sA,sZ,sS]
           refine tk 24 37 (v:=.bool false) rfl rfl (fun W hW=>rfl) ?_
           simp only [Act.put,sA,sZ,sS]
           refine tk 25 38 (v:=.bool false) rfl rfl (fun W hW=>rfl) ?_
           simp only [Act.put,sA,sZ,sS]
           refine tk 26 39 (v:=.bool false) rfl rfl (fun W hW=>Kah rfl rfl) ?_
           simp only [Act.put,sA,sZ,sS]
           refine tk 27 40 (v:=.agg #[.slice pn g.nodes.length cn,.slice (some ⟨b,of,none⟩) g.rels.length cr,.int .i64 g.nextNode,.int .i64 g.nextRel]) rfl rfl (fun W hW=>Kaf rfl rfl (hgl W hW)) ?_
           simp only [Act.put,sA,sZ,sS]
           refine tk 28 41 (v:=.pointer (some ⟨wr.heap.size,1,none⟩)) rfl rfl (fun W hW=>Kad rfl rfl (hf1 W)) ?_
           simp only [Act.put,sA,sZ,sS]
           refine tk 29 42 (v:=.int .i64 nj.src) rfl rfl (fun W hW=>Kaf rfl rfl (hsl W hW)) ?_
           simp only [Act.put,sA,sZ,sS]
           cases hsr : hasN g nj.src with
           | false =>
             have HHS:=yh (HHS0.out _ hsr)
             refine Kau 30 43 rfl rfl (by kernel_rfl) rfl (Kaq [.agg #[.slice pn g.nodes.length cn,.slice (some ⟨b,of,none⟩) g.rels.length cr,.int .i64 g.nextNode,.int .i64 g.nextRel],.int .i64 nj.src] rfl rfl Tryz.func102 (by kernel_rfl) (by kernel_rfl)) ?_
             refine (HHS.out _ hS1).mono ?_
             rintro e w30 ⟨rfl,hb30⟩
             have hS30:=Kaa hS1 hb30
             refine ⟨_,rfl,.inr hS30,?_⟩
             simp only [Act.put,sA,sZ,sS]
             refine tk 31 44 (v:=.bool true) rfl rfl (fun W hW=>Kb5 (b:=false) rfl rfl) ?_
             simp only [Act.put,sA,sZ,sS]
             refine tk 32 45 (v:=.bool true) rfl rfl (fun W hW=>rfl) ?_
             simp only [Act.put,sA,sZ,sS]
             refine tk 33 46 (v:=.bool true) rfl rfl (fun W hW=>Kah rfl rfl) ?_
             simp only [Act.put,sA,sZ,sS]
             refine tn 34 47 rfl rfl ?_
             simp only [Act.put,sA,sZ,sS]
             refine tn 35 48 rfl rfl ?_
             simp only [Act.put,sA,sZ,sS]
             refine tn 36 49 rfl rfl ?_
             simp only [Act.put,sA,sZ,sS]
             refine onlyNot 37 50 rfl rfl (by kernel_rfl) rfl ?_ (.inr (by assumption))
             simp only [Act.put,sA,sZ,sS]
             refine tn 38 51 rfl rfl ?_
             simp only [Act.put,sA,sZ,sS]
             refine tk 39 52 (v:=.bool true) rfl rfl (fun W hW=>rfl) ?_
             simp only [Act.put,sA,sZ,sS]
             refine done (by kernel_rfl) ?_ _
             obtain ⟨hnof,hfaf,honf,hsnf,hoaf⟩:=HLW.out
             have HFIN:=yh (hnof (by rw [hoaf,hok,hnxd,hsr];rfl))
             have HBF:=yh (Kaa HBN.out hS30)
             clear hnof hfaf honf hsnf hoaf hl4 hidl hnx hls hf0 hfn hfl hS0 hS hS1 hS30 hgl hf1 hf2 hsl hdl hsb hix hfp hpv hfk hsk hb1 hb30 hok hnxd hsr hj0 hpd
             go_wp2
             go_ret
             exact ⟨by rw [HFIN.out];rfl,HBF.out⟩
           | true =>
             have HHS:=yh (HHS0.out _ hsr)
             refine Kau 30 43 rfl rfl (by kernel_rfl) rfl (Kaq [.agg #[.slice pn g.nodes.length cn,.slice (some ⟨b,of,none⟩) g.rels.length cr,.int .i64 g.nextNode,.int .i64 g.nextRel],.int .i64 nj.src] rfl rfl Tryz.func102 (by kernel_rfl) (by kernel_rfl)) ?_
             refine (HHS.out _ hS1).mono ?_
             rintro e w30 ⟨rfl,hb30⟩
             have hS30:=Kaa hS1 hb30
             refine ⟨_,rfl,.inr hS30,?_⟩
             simp only [Act.put,sA,sZ,sS]
             refine tk 31 44 (v:=.bool false) rfl rfl (fun W hW=>Kb5 (b:=true) rfl rfl) ?_
             simp only [Act.put,sA,sZ,sS]
             refine tk 32 45 (v:=.bool false) rfl rfl (fun W hW=>rfl) ?_
             simp only [Act.put,sA,sZ,sS]
             refine tk 33 46 (v:=.bool false) rfl rfl (fun W hW=>Kah rfl rfl) ?_
             simp only [Act.put,sA,sZ,sS]
             refine tk 34 47 (v:=.agg #[.slice pn g.nodes.length cn,.slice (some ⟨b,of,none⟩) g.rels.length cr,.int .i64 g.nextNode,.int .i64 g.nextRel]) rfl rfl (fun W hW=>Kaf rfl rfl (hgl W hW)) ?_
             simp only [Act.put,sA,sZ,sS]
             refine tk 35 48 (v:=.pointer (some ⟨wr.heap.size,2,none⟩)) rfl rfl (fun W hW=>Kad rfl rfl (hf2 W)) ?_
             simp only [Act.put,sA,sZ,sS]
             refine tk 36 49 (v:=.int .i64 nj.dst) rfl rfl (fun W hW=>Kaf rfl rfl (hdl W hW)) ?_
             simp only [Act.put,sA,sZ,sS]
             cases hds : hasN g nj.dst with
             | false =>
               have HHD:=yh (HHD0.out _ hds)
               refine Kau 37 50 rfl rfl (by kernel_rfl) rfl (Kaq [.agg #[.slice pn g.nodes.length cn,.slice (some ⟨b,of,none⟩) g.rels.length cr,.int .i64 g.nextNode,.int .i64 g.nextRel],.int .i64 nj.dst] rfl rfl Tryz.func102 (by kernel_rfl) (by kernel_rfl)) ?_
               refine (HHD.out _ hS30).mono ?_
               rintro e w37 ⟨rfl,hb37⟩
               have hS37:=Kaa hS30 hb37
               refine ⟨_,rfl,.inr hS37,?_⟩
               simp only [Act.put,sA,sZ,sS]
               refine tk 38 51 (v:=.bool true) rfl rfl (fun W hW=>Kb5 (b:=false) rfl rfl) ?_
               simp only [Act.put,sA,sZ,sS]
               refine tk 39 52 (v:=.bool true) rfl rfl (fun W hW=>rfl) ?_
               simp only [Act.put,sA,sZ,sS]
               refine done (by kernel_rfl) ?_ _
               obtain ⟨hnof,hfaf,honf,hsnf,hoaf⟩:=HLW.out
               have HFIN:=yh (hnof (by rw [hoaf,hok,hnxd,hsr,hds];rfl))
               have HBF:=yh (Kaa HBN.out hS37)
               clear hnof hfaf honf hsnf hoaf hl4 hidl hnx hls hf0 hfn hfl hS0 hS hS1 hS30 hS37 hgl hf1 hf2 hsl hdl hsb hix hfp hpv hfk hsk hb1 hb30 hb37 hok hnxd hsr hds hj0 hpd
               go_wp2
               go_ret
               exact ⟨by rw [HFIN.out];rfl,HBF.out⟩
             | true =>
               have HHD:=yh (HHD0.out _ hds)
               refine Kau 37 50 rfl rfl (by kernel_rfl) rfl (Kaq [.agg #[.slice pn g.nodes.length cn,.slice (some ⟨b,of,none⟩) g.rels.length cr,.int .i64 g.nextNode,.int .i64 g.nextRel],.int .i64 nj.dst] rfl rfl Tryz.func102 (by kernel_rfl) (by kernel_rfl)) ?_
               refine (HHD.out _ hS30).mono ?_
               rintro e w37 ⟨rfl,hb37⟩
               have hS37:=Kaa hS30 hb37
               refine ⟨_,rfl,.inr hS37,?_⟩
               simp only [Act.put,sA,sZ,sS]
               refine tk 38 51 (v:=.bool false) rfl rfl (fun W hW=>Kb5 (b:=true) rfl rfl) ?_
               simp only [Act.put,sA,sZ,sS]
               refine tk 39 52 (v:=.bool false) rfl rfl (fun W hW=>rfl) ?_
               simp only [Act.put,sA,sZ,sS]
               refine done (by kernel_rfl) ?_ _
               obtain ⟨hnof,hfaf,honf,hsnf,hoaf⟩:=HLW.out
               have HFIN:=yh (hsk (by rw [hoaf,hok,hnxd,hsr,hds];rfl) (by simpa using hpd))
               have HBX:=yh (Kaa (Kaa HI.out.2 (Kac (w:=wr) (.cells cs 72))) hS37)
               clear hnof hfaf honf hsnf hoaf hl4 hidl hnx hls hf0 hfn hfl hS0 hS hS1 hS30 hS37 hgl hf1 hf2 hsl hdl hsb hix hfp hpv hfk hsk hb1 hb30 hb37 hok hnxd hsr hds hj0 hpd
               go_wp2
               go_roundw
               case rel=>exact ⟨j + 1,hlt1,by go_num,yh ⟨HFIN.out,HBX.out⟩⟩
               case measure=>simp [intOf];omega
         | true =>
           have HG2:=yh (HK.out.2.2.2.2 _ hpd)
           refine tk 23 36 (v:=.bool true) rfl rfl (fun W hW=>Kar rfl rfl rfl (HG2.out W)) ?_
           simp only [Act.put,sA,sZ,sS]
           refine tk 24 37 (v:=.bool true) rfl rfl (fun W hW=>rfl) ?_
           simp only [Act.put,sA,sZ,sS]
           refine tk 25 38 (v:=.bool true) rfl rfl (fun W hW=>rfl) ?_
           simp only [Act.put,sA,sZ,sS]
           refine tk 26 39 (v:=.bool true) rfl rfl (fun W hW=>Kah rfl rfl) ?_
           simp only [Act.put,sA,sZ,sS]
           refine tn 27 40 rfl rfl ?_
           simp only [Act.put,sA,sZ,sS]
           refine tn 28 41 rfl rfl ?_
           simp only [Act.put,sA,sZ,sS]
           refine tn 29 42 rfl rfl ?_
           simp only [Act.put,sA,sZ,sS]
           refine onlyNot 30 43 rfl rfl (by kernel_rfl) rfl ?_ (.inr (by assumption))
           simp only [Act.put,sA,sZ,sS]
           refine tn 31 44 rfl rfl ?_
           simp only [Act.put,sA,sZ,sS]
           refine tk 32 45 (v:=.bool true) rfl rfl (fun W hW=>rfl) ?_
           simp only [Act.put,sA,sZ,sS]
           refine tk 33 46 (v:=.bool true) rfl rfl (fun W hW=>Kah rfl rfl) ?_
           simp only [Act.put,sA,sZ,sS]
           refine tn 34 47 rfl rfl ?_
           simp only [Act.put,sA,sZ,sS]
           refine tn 35 48 rfl rfl ?_
           simp only [Act.put,sA,sZ,sS]
           refine tn 36 49 rfl rfl ?_
           simp only [Act.put,sA,sZ,sS]
           refine onlyNot 37 50 rfl rfl (by kernel_rfl) rfl ?_ (.inr (by assumption))
           simp only [Act.put,sA,sZ,sS]
           refine tn 38 51 rfl rfl ?_
           simp only [Act.put,sA,sZ,sS]
           refine tk 39 52 (v:=.bool true) rfl rfl (fun W hW=>rfl) ?_
           simp only [Act.put,sA,sZ,sS]
           refine done (by kernel_rfl) ?_ _
           obtain ⟨hnof,hfaf,honf,hsnf,hoaf⟩:=HLW.out
           have HFIN:=yh (hfk (by simpa using hpd))
           have HBF:=yh (Kaa HBN.out hS1)
           clear hnof hfaf honf hsnf hoaf hl4 hidl hnx hls hf0 hfn hfl hS0 hS hS1 hgl hf1 hf2 hsl hdl hsb hix hfp hpv hfk hsk hb1 hok hnxd hj0 hpd
           go_wp2
           go_ret
           exact ⟨by rw [HFIN.out];rfl,HBF.out⟩
     | true =>
       have HGE:=yh (HGE0.out _ hnxd)
       refine tk 8 21 (v:=.bool true) rfl rfl (fun W hW=>Kar rfl rfl rfl (HGE.out W)) ?_
       simp only [Act.put,sA,sZ,sS]
       refine tk 9 22 (v:=.bool true) rfl rfl (fun W hW=>rfl) ?_
       simp only [Act.put,sA,sZ,sS]
       refine tk 10 23 (v:=.bool true) rfl rfl (fun W hW=>Kah rfl rfl) ?_
       simp only [Act.put,sA,sZ,sS]
       refine tn 11 24 rfl rfl ?_
       simp only [Act.put,sA,sZ,sS]
       refine tn 12 25 rfl rfl ?_
       simp only [Act.put,sA,sZ,sS]
       refine tn 13 26 rfl rfl ?_
       simp only [Act.put,sA,sZ,sS]
       refine tn 14 27 rfl rfl ?_
       simp only [Act.put,sA,sZ,sS]
       refine tn 15 28 rfl rfl ?_
       simp only [Act.put,sA,sZ,sS]
       refine tn 16 29 rfl rfl ?_
       simp only [Act.put,sA,sZ,sS]
       refine tn 17 30 rfl rfl ?_
       simp only [Act.put,sA,sZ,sS]
       refine tn 18 31 rfl rfl ?_
       simp only [Act.put,sA,sZ,sS]
       refine tn 19 32 rfl rfl ?_
       simp only [Act.put,sA,sZ,sS]
       refine tn 20 33 rfl rfl ?_
       simp only [Act.put,sA,sZ,sS]
       refine tn 21 34 rfl rfl ?_
       simp only [Act.put,sA,sZ,sS]
       refine tn 22 35 rfl rfl ?_
       simp only [Act.put,sA,sZ,sS]
       refine tn 23 36 rfl rfl ?_
       simp only [Act.put,sA,sZ,sS]
       refine tn 24 37 rfl rfl ?_
       simp only [Act.put,sA,sZ,sS]
       refine tk 25 38 (v:=.bool true) rfl rfl (fun W hW=>rfl) ?_
       simp only [Act.put,sA,sZ,sS]
       refine tk 26 39 (v:=.bool true) rfl rfl (fun W hW=>Kah rfl rfl) ?_
       simp only [Act.put,sA,sZ,sS]
       refine tn 27 40 rfl rfl ?_
       simp only [Act.put,sA,sZ,sS]
       refine tn 28 41 rfl rfl ?_
       simp only [Act.put,sA,sZ,sS]
       refine tn 29 42 rfl rfl ?_
       simp only [Act.put,sA,sZ,sS]
       refine onlyNot 30 43 rfl rfl (by kernel_rfl) rfl ?_ (.inr (by assumption))
       simp only [Act.put,sA,sZ,sS]
       refine tn 31 44 rfl rfl ?_
       simp only [Act.put,sA,sZ,sS]
       refine tk 32 45 (v:=.bool true) rfl rfl (fun W hW=>rfl) ?_
       simp only [Act.put,sA,sZ,sS]
       refine tk 33 46 (v:=.bool true) rfl rfl (fun W hW=>Kah rfl rfl) ?_
       simp only [Act.put,sA,sZ,sS]
       refine tn 34 47 rfl rfl ?_
       simp only [Act.put,sA,sZ,sS]
       refine tn 35 48 rfl rfl ?_
       simp only [Act.put,sA,sZ,sS]
       refine tn 36 49 rfl rfl ?_
       simp only [Act.put,sA,sZ,sS]
       refine onlyNot 37 50 rfl rfl (by kernel_rfl) rfl ?_ (.inr (by assumption))
       simp only [Act.put,sA,sZ,sS]
       refine tn 38 51 rfl rfl ?_
       simp only [Act.put,sA,sZ,sS]
       refine tk 39 52 (v:=.bool true) rfl rfl (fun W hW=>rfl) ?_
       simp only [Act.put,sA,sZ,sS]
       refine done (by kernel_rfl) ?_ _
       obtain ⟨hnof,hfaf,honf,hsnf,hoaf⟩:=HLW.out
       have HFIN:=yh (hnof (by rw [hoaf,hok,hnxd];rfl))
       have HBF:=yh (Kaa HBN.out hS1)
       clear hnof hfaf honf hsnf hoaf hl4 hidl hnx hls hf0 hfn hfl hS0 hS hS1 hgl hf1 hf2 hsl hdl hb1 hok hnxd
       go_wp2
       go_ret
       exact ⟨by rw [HFIN.out];rfl,HBF.out⟩
  ·obtain rfl : j = g.rels.length:=by omega
   have HF:=yh (And.intro HI.out.1.last (Kaa HB0.out HI.out.2))
   clear HI
   go_wp2
   go_ret
   exact ⟨by rw [HF.out.1];rfl,HF.out.2⟩
theorem gsizes_any {w : World} {g : GraphD} {x : Array Value} (h : GrRd w g x) : Calls Tryz.prog 43 #[.agg x] w fun e w'=>e = .returned (.bool (okSz g)) ∧ Below w.heap.size w w':=by
 obtain ⟨pn,cn,pr,cr,rfl,hn,hrl⟩:=h
 have z1 : (g.nodes.length : Int) ≤ 140737488355328:=by have:=hn.1.2.1;omega
 have z2 : (g.rels.length : Int) ≤ 140737488355328:=by have:=hrl.1.2.1;omega
 have hadd:=fun W=>add_int (i:=g.nodes.length) (j:=g.rels.length) (by omega) W
 have hle : ∀ W' : World,(binOp .leq 3 (.int .i64 ((g.nodes.length + g.rels.length : Nat) : Int)) (.int .i64 65536)).run Tryz.prog W' = .ok (.bool (decide (g.nodes.length + g.rels.length ≤ 65536))) W':=by
  intro W'
  have e : decide (g.nodes.length + g.rels.length ≤ 65536) = decide (((g.nodes.length + g.rels.length : Nat) : Int) ≤ 65536):=by
   rw [Bool.eq_iff_iff];simp only [decide_eq_true_eq];omega
  rw [e];simp [go_sem]
 have hok : okSz g = (decide (g.nodes.length + g.rels.length ≤ 65536) && decide (0 ≤ g.nextNode) && decide (g.nextNode ≤ 4611686018427387904) && decide (0 ≤ g.nextRel) && decide (g.nextRel ≤ 4611686018427387904)):=rfl
 have HB:=yh (Kac (w:=w) (.cells #[.slice pn g.nodes.length cn,.slice pr g.rels.length cr,.int .i64 g.nextNode,.int .i64 g.nextRel] 25))
 have HA:=yh hadd
 rw [hok]
 clear hn hrl hadd hok z1 z2
 cases h1 : decide (g.nodes.length + g.rels.length ≤ 65536) <;> cases h2 : decide (0 ≤ g.nextNode) <;> cases h3 : decide (g.nextNode ≤ 4611686018427387904) <;> cases h4 : decide (0 ≤ g.nextRel) <;> cases h5 : decide (g.nextRel ≤ 4611686018427387904)
 all_goals
  rw [h1] at hle
  have HL:=yh hle
  clear hle h1
  go_enter Tryz.func43,Tryz.ntmps43
  go_wp2_with (first
   | ((with_reducible apply op_binu);exact HA.out _;exact rfl;exact rfl)
   | ((with_reducible apply op_binu);exact HL.out _;exact rfl;exact rfl))
  go_ret
  exact ⟨by simp,HB.out⟩
def errG (b : Bool) : Int:=if b then 0 else 2
theorem Kc5 {w : World} (hE : Env w) {g : GraphD} {x : Array Value} (h : GrRd w g x) (ht : totG g ≤ 1000000) : Calls Tryz.prog 13 #[.agg x] w fun e w'=>e = .returned (.int .i64 (errG (okG g))) ∧ Below w.heap.size w w':=by
 have hx:=h
 obtain ⟨pn,cn,pr,cr,rfl,hn,hrl⟩:=h
 have hb:=Kac (w:=w) (.cells #[.slice pn g.nodes.length cn,.slice pr g.rels.length cr,.int .i64 g.nextNode,.int .i64 g.nextRel] 25)
 have hb2 : Below w.heap.size w ((w.alloc (.cells #[.slice pn g.nodes.length cn,.slice pr g.rels.length cr,.int .i64 g.nextNode,.int .i64 g.nextRel] 25)).alloc (.cells #[.func (.func 43) #[] #[],.func (.func 44) #[] #[],.func (.func 45) #[] #[]] 27)):=hb.alloc (by simp) _
 have hg : ((w.alloc (.cells #[.slice pn g.nodes.length cn,.slice pr g.rels.length cr,.int .i64 g.nextNode,.int .i64 g.nextRel] 25)).alloc (.cells #[.func (.func 43) #[] #[],.func (.func 44) #[] #[],.func (.func 45) #[] #[]] 27)).heap[w.heap.size]? = some (.cells #[.slice pn g.nodes.length cn,.slice pr g.rels.length cr,.int .i64 g.nextNode,.int .i64 g.nextRel] 25 (0,0)):=by
  simp only [Kam,World.size_alloc];rw [if_neg (by omega),if_pos trivial]
 have hf : ((w.alloc (.cells #[.slice pn g.nodes.length cn,.slice pr g.rels.length cr,.int .i64 g.nextNode,.int .i64 g.nextRel] 25)).alloc (.cells #[.func (.func 43) #[] #[],.func (.func 44) #[] #[],.func (.func 45) #[] #[]] 27)).heap[w.heap.size + 1]? = some (.cells #[.func (.func 43) #[] #[],.func (.func 44) #[] #[],.func (.func 45) #[] #[]] 27 (0,0)):=by
  simp only [Kam,World.size_alloc];rw [if_pos trivial]
 have hsz : ((w.alloc (.cells #[.slice pn g.nodes.length cn,.slice pr g.rels.length cr,.int .i64 g.nextNode,.int .i64 g.nextRel] 25)).alloc (.cells #[.func (.func 43) #[] #[],.func (.func 44) #[] #[],.func (.func 45) #[] #[]] 27)).heap.size = w.heap.size + 2:=by simp
 have HH:=yh (And.intro hE (And.intro hx (And.intro hb2 (And.intro hg (And.intro hf hsz)))))
 have HT:=yh ht
 have HOK:=yh (show okG g = (okSz g && okNs g && okRs g) from rfl)
 clear hE hx hn hrl hb hb2 hg hf hsz ht
 go_enter Tryz.func13,Tryz.ntmps13
 go_wp2
 generalize ((w.alloc (.cells #[.slice pn g.nodes.length cn,.slice pr g.rels.length cr,.int .i64 g.nextNode,.int .i64 g.nextRel] 25)).alloc (.cells #[.func (.func 43) #[] #[],.func (.func 44) #[] #[],.func (.func 45) #[] #[]] 27)) = w1 at *
 go_loopw [7] (fun i W=>∃ j : Nat,j ≤ 3 ∧ i = .int .i64 (j : Int) ∧ Hid ((1 ≤ j → okSz g = true) ∧ (2 ≤ j → okNs g = true) ∧ (3 ≤ j → okRs g = true) ∧ Below w1.heap.size w1 W)) (fun i _=>3 - (intOf i).toNat)
 case atStart=>exact ⟨0,by omega,rfl,yh ⟨by omega,by omega,by omega,Below.refl _ _⟩⟩
 case round =>
  obtain ⟨j,hj,rfl,HI⟩:=hrel
  obtain ⟨hE,hx,hb2,hg,hf,hsz⟩:=HH.out
  obtain ⟨k1,k2,k3,hB⟩:=HI.out
  have hE3:=(hE.b hb2).b hB
  have hx3:=(hx.below hb2).below hB
  have hgl:=Kay.get (P:=Tryz.prog) (W:=wr) rfl (Kai hB (by omega) hg)
  have hfc:=Kai hB (by omega) hf
  have HG:=yh hgl
  have HBX:=yh hB
  have HBW:=yh (Kaa hb2 hB)
  obtain h0 | h1 | h2 | h3 : j = 0 ∨ j = 1 ∨ j = 2 ∨ j = 3:=by omega
  ·subst h0
   have hfn:=Kab (o:=0) hfc rfl
   have HC:=yh (gsizes_any hx3)
   have HK:=yh (And.intro k1 (And.intro k2 k3))
   cases hok : okSz g with
   | false =>
     rw [hok] at HC
     have HFIN:=yh (show okG g = false by rw [HOK.out,hok];simp)
     clear hok hE hx hb2 hg hf hsz k1 k2 k3 hB hE3 hx3 hgl hfc HH HI HT HOK
     go_wp2_with (first
      | ((with_reducible apply Kal);exact HG.out;exact rfl)
      | (go_at_call 43;refine HC.out.mono ?_;rintro e W2 ⟨rfl,hb⟩;have HB2:=yh (Kaa HBW.out hb);clear hb))
     go_ret
     exact ⟨by rw [HFIN.out];rfl,HB2.out⟩
   | true =>
     rw [hok] at HC
     have HOKT:=yh hok
     clear hok hE hx hb2 hg hf hsz k1 k2 k3 hB hE3 hx3 hgl hfc HH HI HT HOK
     go_wp2_with (first
      | ((with_reducible apply Kal);exact HG.out;exact rfl)
      | (go_at_call 43;refine HC.out.mono ?_;rintro e W2 ⟨rfl,hb⟩;have HB2:=yh (Kaa HBX.out hb);clear hb))
     go_roundw
     case rel=>exact ⟨1,by omega,by go_num,yh ⟨fun _=>(by first | exact HOKT.out | trivial),by omega,by omega,HB2.out⟩⟩
     case measure=>simp [intOf]
  ·subst h1
   have hfn:=Kab (o:=1) hfc rfl
   have HC:=yh (gnodes_any hE3 hx3 HT.out)
   have HK:=yh (And.intro k1 (And.intro k2 k3))
   cases hok : okNs g with
   | false =>
     rw [hok] at HC
     have HFIN:=yh (show okG g = false by rw [HOK.out,hok];simp)
     clear hok hE hx hb2 hg hf hsz k1 k2 k3 hB hE3 hx3 hgl hfc HH HI HT HOK
     go_wp2_with (first
      | ((with_reducible apply Kal);exact HG.out;exact rfl)
      | (go_at_call 44;refine HC.out.mono ?_;rintro e W2 ⟨rfl,hb⟩;have HB2:=yh (Kaa HBW.out hb);clear hb))
     go_ret
     exact ⟨by rw [HFIN.out];rfl,HB2.out⟩
   | true =>
     rw [hok] at HC
     have HOKT:=yh hok
     clear hok hE hx hb2 hg hf hsz k1 k2 k3 hB hE3 hx3 hgl hfc HH HI HT HOK
     go_wp2_with (first
      | ((with_reducible apply Kal);exact HG.out;exact rfl)
      | (go_at_call 44;refine HC.out.mono ?_;rintro e W2 ⟨rfl,hb⟩;have HB2:=yh (Kaa HBX.out hb);clear hb))
     go_roundw
     case rel=>exact ⟨2,by omega,by go_num,yh ⟨fun _=>HK.out.1 (by omega),fun _=>(by first | exact HOKT.out | trivial),by omega,HB2.out⟩⟩
     case measure=>simp [intOf]
  ·subst h2
   have hfn:=Kab (o:=2) hfc rfl
   have HC:=yh (grels_any hE3 hx3 (by have h:=k2 (by omega);rw [okNs_eq,Bool.and_eq_true] at h;exact h.2) HT.out)
   have HK:=yh (And.intro k1 (And.intro k2 k3))
   cases hok : okRs g with
   | false =>
     rw [hok] at HC
     have HFIN:=yh (show okG g = false by rw [HOK.out,hok];simp)
     clear hok hE hx hb2 hg hf hsz k1 k2 k3 hB hE3 hx3 hgl hfc HH HI HT HOK
     go_wp2_with (first
      | ((with_reducible apply Kal);exact HG.out;exact rfl)
      | (go_at_call 45;refine HC.out.mono ?_;rintro e W2 ⟨rfl,hb⟩;have HB2:=yh (Kaa HBW.out hb);clear hb))
     go_ret
     exact ⟨by rw [HFIN.out];rfl,HB2.out⟩
   | true =>
     rw [hok] at HC
     have HOKT:=yh hok
     clear hok hE hx hb2 hg hf hsz k1 k2 k3 hB hE3 hx3 hgl hfc HH HI HT HOK
     go_wp2_with (first
      | ((with_reducible apply Kal);exact HG.out;exact rfl)
      | (go_at_call 45;refine HC.out.mono ?_;rintro e W2 ⟨rfl,hb⟩;have HB2:=yh (Kaa HBX.out hb);clear hb))
     go_roundw
     case rel=>exact ⟨3,by omega,by go_num,yh ⟨fun _=>HK.out.1 (by omega),fun _=>HK.out.2.1 (by omega),fun _=>(by first | exact HOKT.out | trivial),HB2.out⟩⟩
     case measure=>simp [intOf]
  ·subst h3
   have HFIN:=yh (And.intro (show okG g = true by rw [HOK.out,k1 (by omega),k2 (by omega),k3 (by omega)];rfl) (Kaa hb2 hB))
   clear hE hx hb2 hg hf hsz k1 k2 k3 hB hE3 hx3 hgl hfc HH HI HT HOK
   go_wp2
   go_ret
   exact ⟨by rw [HFIN.out.1];rfl,HFIN.out.2⟩
def Out (w : World) (b : List UInt8) (err : Int) (e : Ending) (W' : World) : Prop :=
 ∃ o,e = .returned (.tuple #[o,.int .i64 err]) ∧ OwnsP W' (fun x=>w.heap.size ≤ x) 5 1 o b.length (b.map byteV) ∧ Below w.heap.size w W'
theorem own_none (W : World) (P : Nat → Prop) : OwnsP W P 5 1 (.slice none 0 0) ([] : List UInt8).length (([] : List UInt8).map byteV) :=
 ⟨⟨by simp,.inl ⟨rfl,rfl⟩⟩,fun g hg=>by simp [Value.ownBlock] at hg⟩
theorem writer_new (W : World) : WS 83 W (W.alloc (.cells #[.slice none 0 0] 83)) W.heap.size [] (.slice none 0 0) :=
 WS.start (Kac _) (heap_alloc_new W _) (Nat.le_refl _)
def outG (g : GraphD) : List UInt8:=if okG g then Kep g else []
theorem codecGraph_any {w : World} (hE : Env w) {g : GraphD} {x : Array Value} (hx : GrRd w g x) (hr : rngG g) (ht : totG g ≤ 1000000) : Calls Tryz.prog 11 #[.agg x] w (Out w (outG g) (errG (okG g))):=by
 have hwf : okG g = true → wfG g:=fun h=>wf_of_okG h hr (by omega)
 have hlen : (Kep g).length ≤ 64000040:=by have:=graphC_len hr (by omega);omega
 have hx0:=hx
 obtain ⟨pn,cn,pr,cr,rfl,hn,hrl⟩:=hx
 have hb:=Kac (w:=w) (.cells #[.slice pn g.nodes.length cn,.slice pr g.rels.length cr,.int .i64 g.nextNode,.int .i64 g.nextRel] 25)
 have hg:=heap_alloc_new w (.cells #[.slice pn g.nodes.length cn,.slice pr g.rels.length cr,.int .i64 g.nextNode,.int .i64 g.nextRel] 25)
 have hl1:=Kay.get (P:=Tryz.prog) (W:=w.alloc (.cells #[.slice pn g.nodes.length cn,.slice pr g.rels.length cr,.int .i64 g.nextNode,.int .i64 g.nextRel] 25)) rfl hg
 have hc:=Kc5 (hE.b hb) (hx0.below hb) ht
 have hu1 : IntKind.u64.wrap g.nextNode = (toU g.nextNode : Int):=Kdt hr.2.2.1
 have hu2 : IntKind.u64.wrap g.nextRel = (toU g.nextRel : Int):=Kdt hr.2.2.2
 have HU:=yh (And.intro (conv_u64 hr.2.2.1) (conv_u64 hr.2.2.2))
 have HUT:=yh (And.intro (Kb8 hr.2.2.1).1 (Kb8 hr.2.2.2).1)
 have HL1:=yh hl1
 have HC:=yh hc
 have HX:=yh (And.intro hn (And.intro hrl (And.intro hb hg)))
 have HW:=yh (And.intro hwf hlen)
 clear hE hx0 hb hg hl1 hc hwf hlen hr ht hn hrl hu1 hu2
 have HO:=yh (show outG g = if okG g then Kep g else [] from rfl)
 generalize outG g = out at *
 by_cases hok : okG g = true
 ·rw [hok] at HC
  have HOK:=yh hok
  clear hok
  go_enter Tryz.func11,Tryz.ntmps11
  go_wp2_with (first
   | ((with_reducible apply Kal);exact HL1.out;exact rfl)
   | ((with_reducible apply Kcg);exact HU.out.1 _;exact rfl)
   | ((with_reducible apply Kcg);exact HU.out.2 _;exact rfl)
   | (go_at_call 13;refine HC.out.mono ?_;rintro e w2 ⟨rfl,hb2⟩;
      (
       obtain ⟨hn,hrl,hb,hg⟩:=HX.out
       have hwf:=HW.out.1 HOK.out
       have hlen:=HW.out.2
       have hbw:=Kaa hb hb2
       have hn2:=hn.below (fun h=>h.below hbw) hbw
       have hrl2:=hrl.below (fun h=>h.below hbw) hbw
       have hnw:=writer_new w2
       have hb3:=Kac (w:=w2) (.cells #[.slice none 0 0] 83)
       have hg1:=Kai hb2 (by simp) hg
       have hg2:=Kai hb3 (by have:=hb2.size;simp at this;omega) hg1
       have hlt2 : w.heap.size < w2.heap.size:=by have:=hb2.size;simp at this;omega
       have hN:=wvalue_any w2
       have hcl : (Kep g).length = (rowsC nodeC g.nodes).length + (rowsC relC g.rels).length + (numB (toU g.nextNode)).length + (numB (toU g.nextRel)).length:=by unfold Kep;simp only [List.length_append];try omega
       have HK:=yh (And.intro hg1 (And.intro hlt2 (And.intro hrl2 (And.intro hwf (And.intro hcl hlen)))))
       have HV:=yh (rowN_tells Kek nodeC hn2 hnw (by simp only [List.length_nil];omega) (fun y hy m o W cs h1 h2 h3=>wnode_any hN (hwf.1.2 y hy) h2 h1 h3))
       have hcn:=Kab (o:=0) hg2 rfl
       have HB2:=yh hbw
       clear hn hrl hb hg hn2 hrl2 hnw hb3 hg1 hg2 hbw hb2 HL1 HC hlt2 hwf hlen hcl hN))
   | (go_at_call 38;refine HV.out.mono ?_;rintro e w4 ⟨rfl,o,h4,t4⟩;
      (
       obtain ⟨hg1,hlt2,hrl2,hwf,hcl,hlen⟩:=HK.out
       have hcr:=Kab (o:=1) (Kai h4.b hlt2 hg1) rfl
       have hN:=wvalue_any w2
       have HV2:=yh (rowR_tells ef_rel relC hrl2 h4 (by simp only [List.nil_append];omega) (fun y hy m o W cs h1 h2 h3=>wrel_any hN (hwf.2.1.2 y hy) h2 h1 h3))
       clear h4 t4 HV hg1 hlt2 hrl2 hwf hcl hlen hN hcn))
   | (go_at_call 40;refine HV2.out.mono ?_;rintro e w5 ⟨rfl,o5,h5,t5⟩;
      (
       obtain ⟨hg1,hlt2,hrl2,hwf,hcl,hlen⟩:=HK.out
       have hc2:=Kab (o:=2) (Kai h5.b hlt2 hg1) rfl
       have HV3:=yh (Ka7 (n:=toU g.nextNode) HUT.out.1 h5 (by simp only [List.length_append,List.length_nil];omega))
       clear h5 t5 HV2 hg1 hlt2 hrl2 hwf hcl hlen hcr))
   | (go_at_call 42;refine HV3.out.mono ?_;rintro e w6 ⟨rfl,o6,h6,t6⟩;
      (
       obtain ⟨hg1,hlt2,hrl2,hwf,hcl,hlen⟩:=HK.out
       have hc3:=Kab (o:=3) (Kai h6.b hlt2 hg1) rfl
       have HV4:=yh (Ka7 (n:=toU g.nextRel) HUT.out.2 h6 (by simp only [List.length_append,List.length_nil];omega))
       clear h6 t6 HV3 hg1 hlt2 hrl2 hwf hcl hlen hc2))
   | (go_at_call 42;refine HV4.out.mono ?_;rintro e w7 ⟨rfl,o7,h7,t7⟩;
      (
       have hcell:=Kab (o:=0) h7.box rfl
       have HF:=yh h7
       clear h7 t7 HV4 hc3)))
  go_ret2
  have h4:=HF.out
  have hout : out = Kep g:=by rw [HO.out,HOK.out];rfl
  rw [hout,HOK.out]
  have:=HB2.out.size
  refine ⟨o7,rfl,?_,Kaa HB2.out h4.b⟩
  have hown:=h4.own
  have e1 : ([] : List UInt8) ++ rowsC nodeC g.nodes ++ rowsC relC g.rels ++ numB (toU g.nextNode) ++ numB (toU g.nextRel) = Kep g:=by unfold Kep;simp [List.append_assoc]
  rw [e1] at hown
  exact hown.imp fun b _ hb=>by have:=hb.1;omega
 ·have hok : okG g = false:=by simpa using hok
  rw [hok] at HC
  have HOK:=yh hok
  have HFB:=yh HX.out.2.2.1
  clear hok HX HW
  go_enter Tryz.func11,Tryz.ntmps11
  go_wp2_with (first
   | ((with_reducible apply Kal);exact HL1.out;exact rfl)
   | (go_at_call 13;refine HC.out.mono ?_;rintro e w2 ⟨rfl,hb2⟩;have HB2:=yh (Kaa HFB.out hb2);clear hb2))
  go_ret2
  have hout : out = []:=by rw [HO.out,HOK.out];rfl
  rw [hout,HOK.out]
  exact ⟨_,rfl,own_none _ _,HB2.out⟩
end Go.Proofs.YthdfedfholmbmaaGreatDoor
namespace Go.Proofs
open Go.Shelf
def Tryz.compactI_ren : Go.Shelf.Ren:=⟨fun | 43=>154 | n=>n,fun | 22=>176 | 23=>2 | 3=>3 | 4=>4 | 0=>0 | n=>n,fun | n=>n⟩
theorem Tryz.compactI : Go.Proofs.SlLaysE.n43 Tryz.prog Tryz.compactI_ren:={
 mixed:=by kernel_rfl
 f43:=⟨Tryz.f154.name,by decide,Tryz.func154.trans (congrArg some (by kernel_rfl))⟩
 t0:=Tryz.underlying0
 a0:=Tryz.isAgg0
 z0:=Tryz.sizeOf0
 v0:=Tryz.zeroValue0
 t3:=Tryz.underlying3
 a3:=Tryz.isAgg3
 z3:=Tryz.sizeOf3
 v3:=Tryz.zeroValue3
 t4:=Tryz.underlying4
 a4:=Tryz.isAgg4
 z4:=Tryz.sizeOf4
 v4:=Tryz.zeroValue4
 t22:=Tryz.underlying176
 a22:=Tryz.isAgg176
 z22:=Tryz.sizeOf176
 v22:=Tryz.zeroValue176
 a23:=Tryz.isAgg2
 z23:=Tryz.sizeOf2 }
end Go.Proofs
namespace Go.Proofs.YthdfedfholmbmaaGreatDoor
open Go.RowKit
theorem compact_two (a b : Int) : Lib.compactUpTo #[a,b] 2 = if a = b then [a] else [a,b]:=by
 rw [Lib.compactUpTo_succ,Lib.compactUpTo_succ]
 have e0 : Lib.compactUpTo #[a,b] 0 = []:=rfl
 rw [e0]
 by_cases h : a = b
 ·subst h
  simp [Lib.keeps]
 ·have h' : b ≠ a:=fun e=>h e.symm
  simp [Lib.keeps,h,h']
theorem compact2_any {w : World} {g : Nat} {T : TypeId} {a b : Int} (h : w.heap[g]? = some (.cells #[.int .i64 a,.int .i64 b] T (0,0))) :
 Calls Tryz.prog 154 #[.slice (some ⟨g,0,none⟩) 2 2] w fun e w'=>e = .returned (.slice (some ⟨g,0,none⟩) (if a = b then 1 else 2) 2) ∧ Touch (fun x=>x = g) w w' ∧ ∃ c,w'.heap[g]? = some (.cells #[.int .i64 a,c] T (0,0)) ∧ (a ≠ b → c = .int .i64 b):=by
 have hH : Sort.Holds (Value.int .i64) w g 0 #[a,b]:=fun j hj=>by
  have hj : j < 2:=hj
  have : j = 0 ∨ j = 1:=by omega
  rcases this with rfl | rfl
  ·exact ⟨Kab (o:=0) h rfl,Kav (o:=0) h⟩
  ·exact ⟨Kab (o:=1) h rfl,Kav (o:=1) h⟩
 have hS:=AnyE.slices_Compact Tryz.compactI (Value.int .i64) (by intro _;rfl) (EqlAt.intD _ _ _) (NeqAt.intD _ _ _) 0 (fun w=>Tryz.zeroValue2 w) g 0 2 #[a,b] w hH (by simp) (by simp)
 refine hS.mono ?_
 rintro e w' ⟨rfl,q,rfl⟩
 have e2 : (#[a,b] : Array Int).size = 2:=rfl
 rw [e2,compact_two]
 have hrow : ∀ d : Array Int,(Sort.putRow (Value.int .i64) (Sort.ahead w q) g 0 d).heap[g]? = some (.cells (Sort.putCells (Value.int .i64) 0 d #[.int .i64 a,.int .i64 b]) T (0,0)):=fun d=>by
  unfold Sort.putRow Sort.mapBlock
  show (w.heap.modify g _)[g]? = _
  rw [Array.getElem?_modify,if_pos rfl,h]
  rfl
 have hoth : ∀ (d : Array Int) (x : Nat),x ≠ g → (Sort.putRow (Value.int .i64) (Sort.ahead w q) g 0 d).heap[x]? = w.heap[x]?:=fun d x hx=>by
  unfold Sort.putRow Sort.mapBlock
  show (w.heap.modify g _)[x]? = _
  rw [Array.getElem?_modify,if_neg (fun e=>hx e.symm)]
 have ht : ∀ d : Array Int,Touch (fun x=>x = g) w (Sort.putRow (Value.int .i64) (Sort.ahead w q) g 0 d):=fun d=>⟨rfl,rfl,rfl,by simp [Sort.putRow,Sort.mapBlock,Sort.ahead],fun x _ hx=>hoth d x hx⟩
 by_cases hab : a = b
 ·subst hab
  rw [if_pos rfl,if_pos rfl]
  refine ⟨by simp,ht _,.int .i64 0,?_,fun h=>absurd rfl h⟩
  rw [hrow]
  rfl
 ·rw [if_neg hab,if_neg hab]
  refine ⟨by simp,ht _,.int .i64 b,?_,fun _=>rfl⟩
  rw [hrow]
  rfl
section
variable {α : Type} {F : World → α → Array Value → Prop} {K : Nat} {W : World}
theorem grd_none : GRd F K W none 0 ([] : List α):=⟨⟨Nat.le_refl _,by simp,fun _=>rfl⟩,fun ad h=>by cases h⟩
theorem grd_one {g : Nat} {cs : Array Value} {T : TypeId} {v : α} (h : W.heap[g]? = some (.cells cs T (0,0))) (hs : cs.size = K) (hv : F W v cs) : GRd F K W (some ⟨g,0,none⟩) 1 [v]:=by
 refine ⟨⟨Nat.le_refl _,⟨by simp,by omega⟩,fun h=>by cases h⟩,fun ad had=>⟨fun _=>by cases had;rfl,fun j u hu=>?_⟩⟩
 cases had
 match j,hu with
 | 0,hu =>
   cases hu
   exact ⟨cs,hs,fun i u hu=>Kab (o:=0 + 0 * K + i) h (by simpa using hu),hv⟩
 | n + 1,hu=>simp at hu
end
theorem Kev {w : World} {ad : Addr} {p : Option Addr} {n c : Nat} {u : Value} (hc : w.cell? ad = some u) (hf : w.frozen? ad = false) : (storeVar 22 ad (.slice p n c)).run Tryz.prog w = .ok () (w.setCell ad (.slice p n c)):=by
 simp [storeVar,go_sem,hc,hf]
theorem put_rels {w : World} {ad : Addr} {p : Option Addr} {n c : Nat} {u : Value} (hc : w.cell? ad = some u) (hf : w.frozen? ad = false) : (storeVar 23 ad (.slice p n c)).run Tryz.prog w = .ok () (w.setCell ad (.slice p n c)):=by
 simp [storeVar,go_sem,hc,hf]
abbrev topN : Int:=4611686018427387904
theorem errG_zero (b : Bool) : decide (errG b = 0) = b:=by cases b <;> rfl
theorem Ken {w : World} {cd : ChangeD} {x : Array Value} (hx : CRd w cd x) : ∃ xa xb,NRd w cd.node xa ∧ RRd w cd.rel xb ∧ x[0]? = some (.int .i64 cd.kind) ∧ x[1]? = some (.int .i64 cd.id) ∧ x[2]? = some (.int .i64 cd.other) ∧ (∀ (i : Nat) (u : Value),xa[i]? = some u → x[3 + i]? = some u) ∧ (∀ (i : Nat) (u : Value),xb[i]? = some u → x[6 + i]? = some u):=by
 obtain ⟨xa,xb,hxe,hna,hrb⟩:=hx
 have sa:=Kek.size hna
 refine ⟨xa,xb,hna,hrb,?_,?_,?_,fun i u hu=>?_,fun i u hu=>?_⟩
 ·rw [hxe,Array.append_assoc,Array.getElem?_append_left (by simp)];rfl
 ·rw [hxe,Array.append_assoc,Array.getElem?_append_left (by simp)];rfl
 ·rw [hxe,Array.append_assoc,Array.getElem?_append_left (by simp)];rfl
 ·have hi:=(Array.getElem?_eq_some_iff.1 hu).1
  rw [hxe,Array.getElem?_append_left (by simp;omega),Array.getElem?_append_right (by simp)];simpa using hu
 ·rw [hxe,Array.getElem?_append_right (by simp [sa])];simp only [Array.size_append,sa];simpa using hu
abbrev gBox : Array Value:=#[.slice none 0 0,.slice none 0 0,.int .i64 topN,.int .i64 topN]
theorem may_other {w : World} {cd : ChangeD} {x : Array Value} (hx : CRd w cd x) (h0 : cd.kind ≠ 0) (h1 : cd.kind ≠ 1) : Calls Tryz.prog 128 #[.agg x] w fun e w'=>e = .returned (.bool (okC cd)) ∧ Below w.heap.size w w':=by
 have hxs:=Kex.size hx
 obtain ⟨xa,xb,hna,hrb,x0,_⟩:=Ken hx
 have hok : okC cd = (decide (2 ≤ cd.kind) && decide (cd.kind ≤ 4)):=by unfold okC;rw [if_neg h0,if_neg h1]
 have hb : Below w.heap.size w ((w.alloc (.cells x 74)).alloc (.cells gBox 25)):=(Kac _).alloc (by simp) _
 have hs:=Kay.fresh (P:=Tryz.prog) (W:=w.alloc (.cells x 74)) (cs:=gBox) rfl (by simp [Value.oneCell'])
 have hc0 : ((w.alloc (.cells x 74)).alloc (.cells gBox 25)).cell? ⟨w.heap.size,0,none⟩ = some (.int .i64 cd.kind):=Kab (o:=0) (Kai (Kac (w:=w.alloc (.cells x 74)) (.cells gBox 25)) (by simp) (heap_alloc_new w _)) x0
 have HS:=yh hs
 have HB:=yh hb
 have HC:=yh hc0
 rw [hok]
 clear hok hx hna hrb x0 hb hs hc0
 generalize cd.kind = k at *
 have HK:=yh (And.intro h0 h1)
 by_cases h2 : k = 2
 ·subst h2
  have hcc:=HC.out
  clear h0 h1
  go_enter Tryz.func128,Tryz.ntmps128
  go_wp2_with ((with_reducible apply Kae);exact HS.out _ rfl;exact rfl;exact rfl)
  go_ret
  exact ⟨rfl,HB.out⟩
 ·by_cases h3 : k = 3
  ·subst h3
   have hcc:=HC.out
   clear h0 h1 h2
   go_enter Tryz.func128,Tryz.ntmps128
   go_wp2_with ((with_reducible apply Kae);exact HS.out _ rfl;exact rfl;exact rfl)
   go_ret
   exact ⟨rfl,HB.out⟩
  ·by_cases h4 : k = 4
   ·subst h4
    have hcc:=HC.out
    clear h0 h1 h2 h3
    go_enter Tryz.func128,Tryz.ntmps128
    go_wp2_with ((with_reducible apply Kae);exact HS.out _ rfl;exact rfl;exact rfl)
    go_ret
    exact ⟨rfl,HB.out⟩
   ·have hcc:=HC.out
    have hf : (decide (2 ≤ k) && decide (k ≤ 4)) = false:=by
     rw [Bool.and_eq_false_iff,decide_eq_false_iff_not,decide_eq_false_iff_not];omega
    have HF:=yh hf
    clear hf
    go_enter Tryz.func128,Tryz.ntmps128
    go_wp2_with ((with_reducible apply Kae);exact HS.out _ rfl;exact rfl;exact rfl)
    go_ret
    exact ⟨by rw [HF.out];rfl,HB.out⟩
theorem may_node {w : World} (hE : Env w) {cd : ChangeD} {x : Array Value} (hx : CRd w cd x) (h0 : cd.kind = 0) (ht : totC cd ≤ 900000) : Calls Tryz.prog 128 #[.agg x] w fun e w'=>e = .returned (.bool (okC cd)) ∧ Below w.heap.size w w':=by
 have hxs:=Kex.size hx
 obtain ⟨xa,xb,hna,hrb,x0,_,_,xna,_⟩:=Ken hx
 have sa:=Kek.size hna
 have hok : okC cd = okG ⟨[cd.node],[],topN,topN⟩:=by unfold okC;rw [if_pos h0]
 have hb : Below w.heap.size w ((w.alloc (.cells x 74)).alloc (.cells gBox 25)):=(Kac _).alloc (by simp) _
 have hs:=Kay.fresh (P:=Tryz.prog) (W:=w.alloc (.cells x 74)) (cs:=gBox) rfl (by simp [Value.oneCell'])
 have hch : ((w.alloc (.cells x 74)).alloc (.cells gBox 25)).heap[w.heap.size]? = some (.cells x 74 (0,0)):=Kai (Kac (w:=w.alloc (.cells x 74)) (.cells gBox 25)) (by simp) (heap_alloc_new w _)
 have hgb : ((w.alloc (.cells x 74)).alloc (.cells gBox 25)).heap[w.heap.size + 1]? = some (.cells gBox 25 (0,0)):=by
  simp only [Kam,World.size_alloc];rw [if_pos trivial]
 have hsz : ((w.alloc (.cells x 74)).alloc (.cells gBox 25)).heap.size = w.heap.size + 2:=by simp
 simp only [World.size_alloc] at hs
 have HS:=yh hs
 generalize hW2 : (w.alloc (.cells x 74)).alloc (.cells gBox 25) = W2 at *
 rw [h0] at x0
 have hcc:=Kab (o:=0) hch x0
 have hln:=Kbo.load (P:=Tryz.prog) (W:=W2) (g:=w.heap.size) (o:=3) sa (fun i u hu=>Kab (o:=3 + i) hch (xna i u hu))
 have hbs:=Kap (P:=Tryz.prog) (w:=W2) (v:=.agg xa) Tryz.underlying22 Tryz.sizeOf70 Tryz.zeroValue70 sa (by omega) (by omega)
 have hb3 : Below W2.heap.size W2 (W2.alloc (.cells xa 70)):=Kac _
 have hg3:=Kai hb3 (by omega) hgb
 have hput:=Kev (p:=some ⟨W2.heap.size,0,none⟩) (n:=1) (c:=1) (Kab (o:=0) hg3 rfl) (Kav (o:=0) hg3)
 have hbw : Below w.heap.size w ((W2.alloc (.cells xa 70)).setCell ⟨w.heap.size + 1,0,none⟩ (.slice (some ⟨W2.heap.size,0,none⟩) 1 1)):=Kbh (Kaa hb hb3) (by omega) _
 have hg4:=Kcd (k:=0) (.slice (some ⟨W2.heap.size,0,none⟩) 1 1) hg3
 have hnb : ((W2.alloc (.cells xa 70)).setCell ⟨w.heap.size + 1,0,none⟩ (.slice (some ⟨W2.heap.size,0,none⟩) 1 1)).heap[W2.heap.size]? = some (.cells xa 70 (0,0)):=(Below.heap_setCell _ ⟨w.heap.size + 1,0,none⟩ _ _ (show W2.heap.size ≠ w.heap.size + 1 by omega)).trans (heap_alloc_new W2 _)
 have hE4:=hE.b hbw
 have hgr : GrRd ((W2.alloc (.cells xa 70)).setCell ⟨w.heap.size + 1,0,none⟩ (.slice (some ⟨W2.heap.size,0,none⟩) 1 1)) ⟨[cd.node],[],topN,topN⟩ #[.slice (some ⟨W2.heap.size,0,none⟩) 1 1,.slice none 0 0,.int .i64 topN,.int .i64 topN] :=
  ⟨some ⟨W2.heap.size,0,none⟩,1,none,0,rfl,grd_one hnb sa (hna.below hbw),grd_none⟩
 have hck:=Kc5 hE4 hgr (by unfold totG;unfold totC at ht;simp;omega)
 have hgl:=Kay.get (P:=Tryz.prog) (cs:=#[.slice (some ⟨W2.heap.size,0,none⟩) 1 1,.slice none 0 0,.int .i64 topN,.int .i64 topN]) rfl hg4
 have HLN:=yh hln
 have HBS:=yh hbs
 have HP:=yh hput
 have HCK:=yh hck
 have HGL:=yh hgl
 have HB:=yh hbw
 have HZ:=yh (errG_zero (okG ⟨[cd.node],[],topN,topN⟩))
 have HCC:=yh hcc
 rw [hok]
 clear hok hx hna hrb x0 xna hb hs hch hgb hln hbs hb3 hg3 hput hbw hg4 hnb hE4 hgr hck hgl hE hW2 hsz hcc h0
 generalize okG ⟨[cd.node],[],topN,topN⟩ = r at *
 go_enter Tryz.func128,Tryz.ntmps128
 have hcc:=HCC.out
 go_wp2_with (first
  | ((with_reducible apply Kae);(exact HS.out _ rfl;exact rfl;exact rfl;clear HS))
  | ((with_reducible apply Kae);exact HP.out;exact rfl;exact rfl)
  | ((with_reducible apply Kal);exact HLN.out;exact rfl)
  | ((with_reducible apply Kal);exact HGL.out;exact rfl)
  | ((with_reducible apply op_bs1);exact HBS.out;exact rfl)
  | (go_at_call 13;refine HCK.out.mono ?_;rintro e W5 ⟨rfl,hb⟩;have HB5:=yh (Kaa HB.out hb);clear hb))
 go_ret
 have e : (errG r == 0) = r:=by cases r <;> rfl
 exact ⟨by show Ending.returned (.bool (errG r == 0)) = _;rw [e],HB5.out⟩
def Kdv (i : Int) : NodeD:=⟨i,[],[]⟩
def Kdc (s d : Int) : List Int:=if s = d then [s] else [min s d,max s d]
theorem ends_len (s d : Int) : (Kdc s d).length = if min s d = max s d then 1 else 2:=by
 unfold Kdc
 by_cases h : s = d
 ·rw [if_pos h,if_pos (by omega)];rfl
 ·rw [if_neg h,if_neg (by omega)];rfl
theorem ends_ok (cd : ChangeD) (h1 : cd.kind = 1) : okC cd = okG ⟨(Kdc cd.rel.src cd.rel.dst).map Kdv,[cd.rel],topN,topN⟩:=by
 unfold okC Kdc
 rw [if_neg (by omega),if_pos h1]
 by_cases h : cd.rel.src = cd.rel.dst
 ·rw [if_pos h,if_pos h];rfl
 ·rw [if_neg h,if_neg h];rfl
theorem ends_at {s d : Int} {W : World} {g : Nat} {T : TypeId} {c : Value} (h : W.heap[g]? = some (.cells #[.int .i64 (min s d),c] T (0,0))) (hc : min s d ≠ max s d → c = .int .i64 (max s d)) (j : Nat) (hj : j < (Kdc s d).length) : W.cell? ⟨g,j,none⟩ = some (.int .i64 (Kdc s d)[j]):=by
 by_cases hd : s = d
 ·have e : Kdc s d = [s]:=by unfold Kdc;rw [if_pos hd]
  have hm : min s d = s:=by omega
  rw [e] at hj
  have hj0 : j = 0:=by simp at hj;omega
  subst hj0
  rw [hm] at h
  have : (Kdc s d)[0] = s:=by simp [e]
  rw [this]
  exact Kab (o:=0) h rfl
 ·have e : Kdc s d = [min s d,max s d]:=by unfold Kdc;rw [if_neg hd]
  rw [e] at hj
  have hj0 : j = 0 ∨ j = 1:=by simp at hj;omega
  rw [hc (by omega)] at h
  rcases hj0 with rfl | rfl
  ·have : (Kdc s d)[0] = min s d:=by simp [e]
   rw [this]
   exact Kab (o:=0) h rfl
  ·have : (Kdc s d)[1] = max s d:=by simp [e]
   rw [this]
   exact Kab (o:=1) h rfl
theorem nodeOf_own {W : World} {P : Nat → Prop} (i : Int) : NOwn W P (Kdv i) #[.int .i64 i,.slice none 0 0,.slice none 0 0] :=
 ⟨.slice none 0 0,.slice none 0 0,rfl,⟨⟨by simp,.inl ⟨rfl,rfl⟩⟩,fun g hg=>by simp [Value.ownBlock] at hg⟩,GOwn.nil⟩
theorem totN_of (i : Int) : totN (Kdv i) = 1:=rfl
structure MyInv (w W6 W : World) (B : Nat) (rs : Value) (ids : List Int) (j : Nat) (ov : Value) : Prop where
 row : GIn NOwn 70 3 (fun b=>W6.heap.size ≤ b) W ov ((ids.take j).map Kdv)
 box : W.heap[B]? = some (.cells #[ov,rs,.int .i64 topN,.int .i64 topN] 25 (0,0))
 keep : ∀ b,b < W6.heap.size → b ≠ B → W.heap[b]? = W6.heap[b]?
 b : Below w.heap.size w W
 size : W6.heap.size ≤ W.heap.size
theorem MyInv.step {w W6 W : World} {B : Nat} {rs : Value} {ids : List Int} {j : Nat} {ov : Value} (h : MyInv w W6 W B rs ids j ov) (hw : w.heap.size ≤ B) (hB : B < W6.heap.size) (hj : j < ids.length) (hl : ids.length ≤ 2) :
 ∃ p n c W2,(Builtin.append_ #[22,22] 22 #[ov,.slice (some ⟨W.heap.size,0,none⟩) 1 1]).run Tryz.prog (W.alloc (.cells #[.int .i64 ids[j],.slice none 0 0,.slice none 0 0] 70)) = .ok (.slice p n c) W2 ∧
  (storeVar 22 ⟨B,0,none⟩ (.slice p n c)).run Tryz.prog W2 = .ok () (W2.setCell ⟨B,0,none⟩ (.slice p n c)) ∧ MyInv w W6 (W2.setCell ⟨B,0,none⟩ (.slice p n c)) B rs ids (j + 1) (.slice p n c):=by
 obtain ⟨v',W2,a1,a2,a3⟩:=h.row.step (W1:=W) (P':=fun b=>W6.heap.size ≤ b) Kas gt_node (fun b _ _=>rfl) (Nat.le_refl _) (fun b _ hp=>hp) (fun b hb=>Nat.le_trans h.size hb) (nodeOf_own ids[j]) (by simp;omega) 22
 obtain ⟨p,c,rfl⟩:=a2.slice
 have hrl:=h.row.lt
 have hbn:=Kac (w:=W) (.cells #[.int .i64 ids[j],.slice none 0 0,.slice none 0 0] 70)
 have hs:=h.size
 have hsz:=hbn.size
 have hk : ∀ b,b < W6.heap.size → W2.heap[b]? = W.heap[b]?:=fun b hb=>(a3.block b (by omega) (fun e=>by have:=(hrl b e).2;omega)).trans (hbn.block b (by omega))
 have hbox:=(hk B hB).trans h.box
 have hset : ∀ b,b ≠ B → (W2.setCell ⟨B,0,none⟩ (.slice p ((ids.take j).map Kdv ++ [Kdv ids[j]]).length c)).heap[b]? = W2.heap[b]?:=fun b hb=>Below.heap_setCell W2 ⟨B,0,none⟩ _ b hb
 have hsz2 : (W2.setCell ⟨B,0,none⟩ (.slice p ((ids.take j).map Kdv ++ [Kdv ids[j]]).length c)).heap.size = W2.heap.size:=by simp [World.setCell]
 have hB2 : Below w.heap.size w W2:=a3.below (Kaa h.b hbn) (fun b hb e=>by have:=(hrl b e).2;omega) (by have:=h.b.size;omega)
 have hm : (ids.take (j + 1)).map Kdv = (ids.take j).map Kdv ++ [Kdv ids[j]]:=by rw [List.take_succ_eq_append_getElem hj,List.map_append];rfl
 refine ⟨p,_,c,W2,a1,Kev (Kab (o:=0) hbox rfl) (Kav (o:=0) hbox),⟨?_,?_,fun b hb hne=>(hset b hne).trans ((hk b hb).trans (h.keep b hb hne)),Kbh hB2 hw _,?_⟩⟩
 ·rw [hm]
  exact a2.kept Kas (fun b hp _=>hset b (by omega)) (fun b _ hp=>hp)
 ·exact Kcd (k:=0) _ hbox
 ·rw [hsz2];have:=a3.size;omega
theorem MyInv.last {w W6 W : World} {B : Nat} {pr : Option Addr} {ids : List Int} {ov : Value} {r : RelD} (h : MyInv w W6 W B (.slice pr 1 1) ids ids.length ov) (hl : ids.length ≤ 2) (hr : GRd RRd 5 W pr 1 [r]) : ∃ x,W.heap[B]? = some (.cells x 25 (0,0)) ∧ x.size = 4 ∧ GrRd W ⟨ids.map Kdv,[r],topN,topN⟩ x:=by
 have hown:=h.row.own Kas
 rw [List.take_length] at hown
 obtain ⟨p,c,e,hg⟩:=hown.rd Kas (F:=NRd) (by simp;omega) (fun v hv x hx=>hx.rd (by obtain ⟨i,_,rfl⟩:=List.mem_map.1 hv;rw [totN_of];omega))
 exact ⟨_,h.box,rfl,p,c,pr,1,by rw [e];rfl,hg,hr⟩
theorem may_rel {w : World} (hE : Env w) {cd : ChangeD} {x : Array Value} (hx : CRd w cd x) (h1 : cd.kind = 1) (ht : totC cd ≤ 900000) : Calls Tryz.prog 128 #[.agg x] w fun e w'=>e = .returned (.bool (okC cd)) ∧ Below w.heap.size w w':=by
 have hxs:=Kex.size hx
 obtain ⟨xa,xb,hna,hrb,x0,_,_,_,xrb⟩:=Ken hx
 have sb:=ef_rel.size hrb
 have hok:=ends_ok cd h1
 have hb : Below w.heap.size w ((w.alloc (.cells x 74)).alloc (.cells gBox 25)):=(Kac _).alloc (by simp) _
 have hs:=Kay.fresh (P:=Tryz.prog) (W:=w.alloc (.cells x 74)) (cs:=gBox) rfl (by simp [Value.oneCell'])
 have hch : ((w.alloc (.cells x 74)).alloc (.cells gBox 25)).heap[w.heap.size]? = some (.cells x 74 (0,0)):=Kai (Kac (w:=w.alloc (.cells x 74)) (.cells gBox 25)) (by simp) (heap_alloc_new w _)
 have hgb : ((w.alloc (.cells x 74)).alloc (.cells gBox 25)).heap[w.heap.size + 1]? = some (.cells gBox 25 (0,0)):=by
  simp only [Kam,World.size_alloc];rw [if_pos trivial]
 have hsz : ((w.alloc (.cells x 74)).alloc (.cells gBox 25)).heap.size = w.heap.size + 2:=by simp
 simp only [World.size_alloc] at hs
 have HS:=yh hs
 generalize hW2 : (w.alloc (.cells x 74)).alloc (.cells gBox 25) = W2 at *
 rw [h1] at x0
 have hcc:=Kab (o:=0) hch x0
 have hln:=Kcf.load (P:=Tryz.prog) (W:=W2) (g:=w.heap.size) (o:=6) sb (fun i u hu=>Kab (o:=6 + i) hch (xrb i u hu))
 have hbs:=Kap (P:=Tryz.prog) (w:=W2) (v:=.agg xb) Tryz.underlying23 Tryz.sizeOf72 Tryz.zeroValue72 sb (by omega) (by omega)
 have hb3 : Below W2.heap.size W2 (W2.alloc (.cells xb 72)):=Kac _
 have hg3:=Kai hb3 (by omega) hgb
 have hput:=put_rels (p:=some ⟨W2.heap.size,0,none⟩) (n:=1) (c:=1) (Kab (o:=1) hg3 rfl) (Kav (o:=1) hg3)
 have hbw : Below w.heap.size w ((W2.alloc (.cells xb 72)).setCell ⟨w.heap.size + 1,1,none⟩ (.slice (some ⟨W2.heap.size,0,none⟩) 1 1)):=Kbh (Kaa hb hb3) (by omega) _
 have hg4:=Kcd (k:=1) (.slice (some ⟨W2.heap.size,0,none⟩) 1 1) hg3
 have hoth : ∀ b,b ≠ w.heap.size + 1 → ((W2.alloc (.cells xb 72)).setCell ⟨w.heap.size + 1,1,none⟩ (.slice (some ⟨W2.heap.size,0,none⟩) 1 1)).heap[b]? = (W2.alloc (.cells xb 72)).heap[b]?:=fun b hb=>Below.heap_setCell _ ⟨w.heap.size + 1,1,none⟩ _ _ hb
 have hrb4:=(hoth W2.heap.size (by omega)).trans (heap_alloc_new W2 _)
 have hch4:=(hoth w.heap.size (by omega)).trans (Kai hb3 (by omega) hch)
 have hs4 : ((W2.alloc (.cells xb 72)).setCell ⟨w.heap.size + 1,1,none⟩ (.slice (some ⟨W2.heap.size,0,none⟩) 1 1)).heap.size = w.heap.size + 3:=by simp [World.setCell,hsz]
 have HP:=yh hput
 generalize hW4 : (W2.alloc (.cells xb 72)).setCell ⟨w.heap.size + 1,1,none⟩ (.slice (some ⟨W2.heap.size,0,none⟩) 1 1) = W4 at *
 obtain ⟨pp,cp,exb,_⟩:=id hrb
 have hcs:=Kab (o:=7) hch4 (xrb 1 _ (by rw [exb];rfl))
 have hcd:=Kab (o:=8) hch4 (xrb 2 _ (by rw [exb];rfl))
 have HLN:=yh hln
 have HBS:=yh hbs
 have hb5 : Below W4.heap.size W4 (W4.alloc (.cells #[.int .i64 (min cd.rel.src cd.rel.dst),.int .i64 (max cd.rel.src cd.rel.dst)] 2)):=Kac _
 have hcp:=compact2_any (heap_alloc_new W4 (.cells #[.int .i64 (min cd.rel.src cd.rel.dst),.int .i64 (max cd.rel.src cd.rel.dst)] 2))
 rw [← ends_len] at hcp
 have hen:=fun (W : World) (c : Value)=>ends_at (s:=cd.rel.src) (d:=cd.rel.dst) (W:=W) (g:=W4.heap.size) (T:=2) (c:=c)
 have htr : totR cd.rel ≤ 900000:=by unfold totC at ht;omega
 have hl2 : (Kdc cd.rel.src cd.rel.dst).length ≤ 2:=by rw [ends_len];split <;> omega
 have HX:=yh (And.intro hbw (And.intro hg4 (And.intro hrb4 (And.intro hs4 (And.intro hb5 (And.intro hrb htr))))))
 have HCC:=yh hcc
 have HCS:=yh (And.intro hcs hcd)
 have HCP:=yh hcp
 have HEN:=yh hen
 have HEE:=yh hE
 have z2 : ((Kdc cd.rel.src cd.rel.dst).length : Int) ≤ 2:=by omega
 rw [hok]
 clear hok x0 hb hs hch hgb hln hbs hb3 hg3 hput hbw hg4 hoth hrb4 hch4 hs4 hW2 hW4 hsz hcc h1 hcs hcd exb hb5 hcp hen hrb hna hx xrb htr hE ht
 have HZ:=yh (show okG ⟨(Kdc cd.rel.src cd.rel.dst).map Kdv,[cd.rel],topN,topN⟩ = okG ⟨(Kdc cd.rel.src cd.rel.dst).map Kdv,[cd.rel],topN,topN⟩ from rfl)
 generalize hr : okG ⟨(Kdc cd.rel.src cd.rel.dst).map Kdv,[cd.rel],topN,topN⟩ = r at *
 have HRR:=yh hr
 clear hr HZ
 go_enter Tryz.func128,Tryz.ntmps128
 have hcc:=HCC.out
 obtain ⟨hcs,hcd⟩:=HCS.out
 go_wp2_with (first
  | ((with_reducible apply Kae);exact HS.out _ rfl;exact rfl;exact rfl;clear HS)
  | ((with_reducible apply Kae);exact HP.out;exact rfl;exact rfl)
  | ((with_reducible apply Kal);exact HLN.out;exact rfl)
  | ((with_reducible apply op_bs1);exact HBS.out;exact rfl)
  | (go_at_call 154;refine HCP.out.mono ?_;rintro e W6 ⟨rfl,hT,c,hc,hcn⟩;have H6:=yh (And.intro hT (HEN.out W6 c hc hcn));clear hT hc hcn HCP HEN))
 clear hcc hcs hcd HCC HCS HP HLN HBS
 obtain ⟨hbw,hg4,hrb4,hs4,hb5,hrb,htr⟩:=HX.out
 obtain ⟨hT,hce⟩:=H6.out
 have hTb:=hT.size
 have hs5:=hb5.size
 have hk6 : ∀ b,b < W4.heap.size → W6.heap[b]? = W4.heap[b]?:=fun b hb=>(hT.block b (by omega) (by omega)).trans (hb5.block b hb)
 have hB6 : Below w.heap.size w W6:=hT.below (Kaa hbw hb5) (fun b hb e=>by omega) (by omega)
 have hst : MyInv w W6 W6 (w.heap.size + 1) (.slice (some ⟨W2.heap.size,0,none⟩) 1 1) (Kdc cd.rel.src cd.rel.dst) 0 (.slice none 0 0):=⟨GIn.start,(hk6 _ (by omega)).trans hg4,fun _ _ _=>rfl,hB6,Nat.le_refl _⟩
 have hlt6 : w.heap.size + 1 < W6.heap.size:=by omega
 have hrb6:=(hk6 W2.heap.size (Array.getElem?_eq_some_iff.1 hrb4).1).trans hrb4
 have hlt2 : W2.heap.size < W6.heap.size:=(Array.getElem?_eq_some_iff.1 hrb6).1
 have hw4 : W4.heap.size < W6.heap.size:=by have : (W4.alloc (.cells #[.int .i64 (min cd.rel.src cd.rel.dst),.int .i64 (max cd.rel.src cd.rel.dst)] 2)).heap.size = W4.heap.size + 1:=by simp
                                            omega
 have hwB : w.heap.size ≤ w.heap.size + 1:=by omega
 have hne2 : W2.heap.size ≠ w.heap.size + 1:=fun e=>by rw [e] at hrb4;rw [hg4] at hrb4;cases hrb4
 have hne4 : W4.heap.size ≠ w.heap.size + 1:=by omega
 have HQ:=yh (And.intro hst (And.intro hlt6 (And.intro hrb6 (And.intro hlt2 (And.intro hw4 (And.intro hrb (And.intro htr (And.intro hne2 hne4))))))))
 have HCE:=yh hce
 have HL2:=yh hl2
 generalize W4.heap.size = g4 at *
 clear hbw hg4 hrb4 hs4 hb5 hrb htr hT hce hTb hs5 hk6 hB6 hst hlt6 hrb6 hlt2 hw4 hwB hne2 hne4 hl2 HX H6
 generalize Kdc cd.rel.src cd.rel.dst = ids at *
 go_loopw [40] (fun i W=>∃ (j : Nat) (p : Option Addr) (n c : Nat),j ≤ ids.length ∧ i = .int .i64 (j : Int) ∧ Hid (MyInv w W6 W (w.heap.size + 1) (.slice (some ⟨W2.heap.size,0,none⟩) 1 1) ids j (.slice p n c))) (fun i _=>ids.length - (intOf i).toNat)
 case atStart=>exact ⟨0,none,0,0,Nat.zero_le _,rfl,yh HQ.out.1⟩
 case round =>
  obtain ⟨j,p,n,c,hj,rfl,HI⟩:=hrel
  by_cases hlt : j < ids.length
  ·have hlt1 : j + 1 ≤ ids.length:=hlt
   obtain ⟨_,hlt6,hrb6,hlt2,hw4,hrb,htr,hne2,hne4⟩:=HQ.out
   obtain ⟨p',n',c',Wn,a1,a2,a3⟩:=HI.out.step (by omega) hlt6 hlt HL2.out
   have hcj : wr.cell? ⟨g4,j,none⟩ = some (.int .i64 ids[j]):=by
    have h1:=HCE.out j hlt
    unfold World.cell? at h1 ⊢
    rw [HI.out.keep g4 hw4 hne4]
    exact h1
   have hcg:=Kab (o:=0) HI.out.box rfl
   have HBS:=yh (Kap (P:=Tryz.prog) (w:=wr) (v:=.agg #[.int .i64 ids[j],.slice none 0 0,.slice none 0 0]) Tryz.underlying22 Tryz.sizeOf70 Tryz.zeroValue70 rfl (by omega) (by omega))
   have HA:=yh a1
   have HPU:=yh a2
   have HN:=yh a3
   generalize ids[j] = id at *
   clear hlt6 hrb6 hlt2 hw4 hrb htr hne2 hne4 a1 a2 a3 HI HQ HCE
   go_wp2_with (first
    | ((with_reducible apply op_bs1);exact HBS.out;exact rfl)
    | ((with_reducible apply Kcv);exact HA.out;exact rfl;exact rfl)
    | ((with_reducible apply Kae);exact HPU.out;exact rfl;exact rfl))
   go_roundw
   case rel=>exact ⟨j + 1,p',n',c',hlt1,by go_num,HN⟩
   case measure=>simp [intOf];omega
  ·obtain rfl : j = ids.length:=by omega
   obtain ⟨_,hlt6,hrb6,hlt2,hw4,hrb,htr,hne2,hne4⟩:=HQ.out
   have hrr:=(HI.out.keep W2.heap.size hlt2 hne2).trans hrb6
   obtain ⟨xg,hxg,hxs,hgr⟩:=HI.out.last HL2.out (grd_one hrr sb (hrb.below HI.out.b))
   have hck:=Kc5 (HEE.out.b HI.out.b) hgr (by
    unfold totG
    have h1 : ((ids.map Kdv).map totN).sum ≤ 2:=by
     have e : (ids.map Kdv).map totN = ids.map (fun _=>1):=by rw [List.map_map];rfl
     rw [e,List.map_const',List.sum_replicate_nat]
     have:=HL2.out
     simp at this ⊢;omega
    simp only [List.map_cons,List.map_nil,List.sum_cons,List.sum_nil]
    omega)
   have HGL:=yh (Kay.get (P:=Tryz.prog) hxs hxg)
   rw [HRR.out] at hck
   have HCK:=yh hck
   have HB:=yh HI.out.b
   clear hlt6 hrb6 hlt2 hw4 hrb htr hne2 hne4 hck hgr hxg hrr HI HQ HCE
   go_wp2_with (first
    | ((with_reducible apply Kal);exact HGL.out;exact rfl)
    | (go_at_call 13;refine HCK.out.mono ?_;rintro e W9 ⟨rfl,hb⟩;have HB9:=yh (Kaa HB.out hb);clear hb))
   go_ret
   have e : (errG r == 0) = r:=by cases r <;> rfl
   exact ⟨by show Ending.returned (.bool (errG r == 0)) = _;rw [e],HB9.out⟩
theorem mayC_any {w : World} (hE : Env w) {cd : ChangeD} {x : Array Value} (hx : CRd w cd x) (ht : totC cd ≤ 900000) : Calls Tryz.prog 128 #[.agg x] w fun e w'=>e = .returned (.bool (okC cd)) ∧ Below w.heap.size w w':=by
 by_cases h0 : cd.kind = 0
 ·exact may_node hE hx h0 ht
 ·by_cases h1 : cd.kind = 1
  ·exact may_rel hE hx h1 ht
  ·exact may_other hx h0 h1
theorem badC_any {w : World} (hE : Env w) {cd : ChangeD} {x : Array Value} (hx : CRd w cd x) (ht : totC cd ≤ 900000) : Calls Tryz.prog 127 #[.agg x] w fun e w'=>e = .returned (.bool (!okC cd)) ∧ Below w.heap.size w w':=by
 have hxs:=Kex.size hx
 have hb:=Kac (w:=w) (.cells x 74)
 have HL:=yh (Kb6.get (P:=Tryz.prog) hxs (heap_alloc_new w (.cells x 74)))
 have HV:=yh (mayC_any (hE.b hb) (hx.below hb) ht)
 have HB:=yh hb
 clear hE hb hx
 generalize okC cd = r at *
 go_enter Tryz.func127,Tryz.ntmps127
 go_wp2_with (first
  | ((with_reducible apply Kal);exact HL.out;exact rfl)
  | (go_at_call 128;refine HV.out.mono ?_;rintro e W1 ⟨rfl,hb⟩;have HB2:=yh (Kaa HB.out hb);clear hb))
 go_ret
 exact ⟨rfl,HB2.out⟩
def noAt {α : Type} (f : α → Bool) (l : List α) : Int:=match l.findIdx? (fun s=>!f s) with
 | some i=>(i : Int)
 | none=>-1
section
variable {α : Type} {f : α → Bool}
theorem noAt_ge (l : List α) : decide (0 ≤ noAt f l) = !(l.all f):=by
 unfold noAt
 rw [Bool.eq_iff_iff]
 cases h : l.findIdx? (fun s=>!f s) with
 | none =>
   rw [List.findIdx?_eq_none_iff] at h
   simp only [decide_eq_true_eq,Bool.not_eq_true',List.all_eq_false]
   constructor
   ·intro h;omega
   ·rintro ⟨x,hx,hn⟩
    have:=h x hx
    simp_all
 | some i =>
   rw [List.findIdx?_eq_some_iff_getElem] at h
   obtain ⟨hi,h1,_⟩:=h
   simp only [decide_eq_true_eq,Bool.not_eq_true',List.all_eq_false]
   exact ⟨fun _=>⟨l[i],List.getElem_mem hi,by simpa using h1⟩,fun _=>by omega⟩
theorem noAt_hit {l : List α} {j : Nat} (hj : j < l.length) (h1 : (l.take j).all f = true) (h2 : f l[j] = false) : noAt f l = (j : Int):=by
 unfold noAt
 have : l.findIdx? (fun s=>!f s) = some j:=by
  rw [List.findIdx?_eq_some_iff_getElem]
  refine ⟨hj,by simp [h2],fun i hi=>?_⟩
  rw [List.all_eq_true] at h1
  have:=h1 l[i] (by rw [List.mem_take_iff_getElem];exact ⟨i,by omega,rfl⟩)
  simp [this]
 rw [this]
theorem noAt_none {l : List α} (h1 : l.all f = true) : noAt f l = -1:=by
 unfold noAt
 have : l.findIdx? (fun s=>!f s) = none:=by
  rw [List.findIdx?_eq_none_iff]
  intro s hs
  rw [List.all_eq_true] at h1
  simp [h1 s hs]
 rw [this]
end
theorem badCIdx_any {w : World} (hE : Env w) {p : Option Addr} {c : Nat} {l : List ChangeD} (h : GRd CRd 11 w p c l) (ht : ∀ x ∈ l,totC x ≤ 900000) : Calls Tryz.prog 153 #[.slice p l.length c,.func (.func 127) #[] #[]] w fun e w'=>e = .returned (.int .i64 (noAt okC l)) ∧ Below w.heap.size w w':=by
 have z1 : (l.length : Int) ≤ 140737488355328:=by have:=h.1.2.1;omega
 have H:=yh h
 have HE:=yh hE
 have HT:=yh ht
 clear h hE ht
 go_enter Tryz.func153,Tryz.ntmps153
 go_wp2
 go_loopw [8] (fun i W=>∃ j : Nat,j ≤ l.length ∧ i = .int .i64 (j : Int) ∧ Hid ((l.take j).all okC = true ∧ Below w.heap.size w W)) (fun i _=>l.length - (intOf i).toNat)
 case atStart=>exact ⟨0,Nat.zero_le _,rfl,yh ⟨by simp,Below.refl _ _⟩⟩
 case round =>
  obtain ⟨j,hj,rfl,HI⟩:=hrel
  by_cases hlt : j < l.length
  ·have hlt1 : j + 1 ≤ l.length:=hlt
   obtain ⟨b,of,cs,rfl,hs,hc,hv⟩:=(H.out.below (fun h=>h.below HI.out.2) HI.out.2).get hlt
   have hone:=badC_any (HE.out.b HI.out.2) hv (HT.out _ (List.getElem_mem hlt))
   have hst:=all_snoc (f:=okC) hlt HI.out.1
   have hbd:=noAt_hit (f:=okC) hlt HI.out.1
   have HL:=yh (Kb6.load (P:=Tryz.prog) hs hc)
   have hia : ∀ W' : World,(Instr.indexAt 58 (.slice (some ⟨b,of,none⟩) l.length c) (.int .i64 (j : Int))).run Tryz.prog W' = .ok (.pointer (some ⟨b,of + j * 11,none⟩)) W':=by intro W';simp [go_sem,hlt]
   generalize l[j] = s at *
   have HC:=yh hone
   have HB:=yh HI.out.2
   cases hok : okC s with
   | true =>
     have HN:=yh (hst hok)
     rw [hok] at HC
     clear hone hst hbd hok HI hv hc hs
     go_wp2_with (first
      | ((with_reducible apply Kal);exact HL.out;exact rfl)
      | (go_at_call 127;refine HC.out.mono ?_;rintro e W2 ⟨rfl,hb⟩;have HB2:=yh (Kaa HB.out hb);clear hb))
     go_roundw
     case rel=>exact ⟨j + 1,hlt1,by go_num,yh ⟨HN.out,HB2.out⟩⟩
     case measure=>simp [intOf];omega
   | false =>
     have HN:=yh (hbd hok)
     rw [hok] at HC
     clear hone hst hbd hok HI hv hc hs
     go_wp2_with (first
      | ((with_reducible apply Kal);exact HL.out;exact rfl)
      | (go_at_call 127;refine HC.out.mono ?_;rintro e W2 ⟨rfl,hb⟩;have HB2:=yh (Kaa HB.out hb);clear hb))
     go_ret
     exact ⟨by rw [HN.out];rfl,HB2.out⟩
  ·obtain rfl : j = l.length:=by omega
   have hall:=HI.out.1
   rw [List.take_length] at hall
   have HF:=yh (And.intro (noAt_none hall) HI.out.2)
   clear HI hall
   go_wp2
   go_ret
   exact ⟨by rw [HF.out.1];rfl,HF.out.2⟩
theorem hasBadC_any {w : World} (hE : Env w) {p : Option Addr} {c : Nat} {l : List ChangeD} (h : GRd CRd 11 w p c l) (ht : ∀ x ∈ l,totC x ≤ 900000) : Calls Tryz.prog 126 #[.slice p l.length c,.func (.func 127) #[] #[]] w fun e w'=>e = .returned (.bool (!(l.all okC))) ∧ Below w.heap.size w w':=by
 have HV:=yh (badCIdx_any hE h ht)
 have HG:=yh (noAt_ge (f:=okC) l)
 generalize l.all okC = r at *
 clear hE h ht
 go_enter Tryz.func126,Tryz.ntmps126
 go_wp2_with (go_at_call 153;refine HV.out.mono ?_;rintro e W1 ⟨rfl,hb⟩;have HB:=yh hb;clear hb)
 go_ret
 refine ⟨?_,HB.out⟩
 rw [← HG.out];rfl
theorem allC_any {w : World} (hE : Env w) {p : Option Addr} {c : Nat} {l : List ChangeD} (h : GRd CRd 11 w p c l) (ht : ∀ x ∈ l,totC x ≤ 900000) : Calls Tryz.prog 75 #[.slice p l.length c] w fun e w'=>e = .returned (.bool (l.all okC)) ∧ Below w.heap.size w w':=by
 have HV:=yh (hasBadC_any hE h ht)
 generalize l.all okC = r at *
 clear hE h ht
 go_enter Tryz.func75,Tryz.ntmps75
 go_wp2_with (go_at_call 126;refine HV.out.mono ?_;rintro e W1 ⟨rfl,hb⟩;have HB:=yh hb;clear hb)
 go_ret
 refine ⟨?_,HB.out⟩
 cases r <;> rfl
def outC (l : List ChangeD) : List UInt8:=if l.all okC && decide (l.length ≤ 65536) then Kbk l else []
def errC (l : List ChangeD) : Int:=if l.all okC then (if l.length ≤ 65536 then 0 else 3) else 2
theorem useC_of {c : ChangeD} (h : okC c = true) (hr : rngC c) (ht : totC c < 18446744073709551616) : useC c:=by
 have hw:=wf_of_okC h hr ht
 have hk:=wfC_kind hw
 refine ⟨hk.1,hk.2,fun e=>?_,fun e=>?_,fun e=>⟨hr.2.1,hr.2.2.1⟩⟩
 ·unfold wfC toldC at hw
  rw [if_pos e] at hw
  rcases hw with ⟨_,_,_,h,_⟩ | ⟨k,_⟩ | ⟨k,_⟩ | ⟨k,_⟩
  ·exact h
  ·exact absurd k (by simp)
  ·exact absurd k (by simp)
  ·exact absurd k (by simp)
 ·unfold wfC toldC at hw
  rw [if_neg (by omega),if_pos e] at hw
  rcases hw with ⟨k,_⟩ | ⟨_,_,_,_,h⟩ | ⟨k,_⟩ | ⟨k,_⟩
  ·exact absurd k (by simp)
  ·exact h
  ·exact absurd k (by simp)
  ·exact absurd k (by simp)
theorem Kdz {w : World} (hE : Env w) {p : Option Addr} {c : Nat} {l : List ChangeD} (h : GRd CRd 11 w p c l) (hr : ∀ x ∈ l,rngC x) (ht : (l.map totC).sum ≤ 900000) : Calls Tryz.prog 27 #[.slice p l.length c] w (Out w (outC l) (errC l)):=by
 have z1 : (l.length : Int) ≤ 140737488355328:=by have:=h.1.2.1;omega
 have htx : ∀ x ∈ l,totC x ≤ 900000:=fun x hx=>Nat.le_trans (Kbb totC hx) ht
 have hall:=allC_any hE h htx
 have hlen : (Kbk l).length ≤ 57600010:=by have:=changesC_len hr (by omega);omega
 have huse : l.all okC = true → ∀ x ∈ l,useC x:=fun ha x hx=>useC_of (List.all_eq_true.1 ha x hx) (hr x hx) (by have:=htx x hx;omega)
 have HC:=yh hall
 have HX:=yh (And.intro h (And.intro hlen huse))
 have HO:=yh (And.intro (show outC l = if l.all okC && decide (l.length ≤ 65536) then Kbk l else [] from rfl) (show errC l = if l.all okC then (if l.length ≤ 65536 then 0 else 3) else 2 from rfl))
 clear hE h hr ht htx hall hlen huse
 generalize outC l = out at *
 generalize errC l = err at *
 cases ha : l.all okC with
 | false =>
   rw [ha] at HC
   have HA:=yh ha
   clear ha
   go_enter Tryz.func27,Tryz.ntmps27
   go_wp2_with (go_at_call 75;refine HC.out.mono ?_;rintro e W1 ⟨rfl,hb⟩;have HB:=yh hb;clear hb)
   go_ret2
   have e1 : out = []:=by rw [HO.out.1,HA.out];rfl
   have e2 : err = 2:=by rw [HO.out.2,HA.out];rfl
   rw [e1,e2]
   exact ⟨_,rfl,own_none _ _,HB.out⟩
 | true =>
   rw [ha] at HC
   by_cases hl : l.length ≤ 65536
   ·have z2 : ¬ (65536 : Int) < (l.length : Int):=by omega
    have e1 : out = Kbk l:=by rw [HO.out.1,ha,decide_eq_true hl];rfl
    have e2 : err = 0:=by rw [HO.out.2,ha,if_pos hl];rfl
    have HEQ:=yh (And.intro e1 e2)
    have HU:=yh (HX.out.2.2 ha)
    clear ha e1 e2 hl HO
    go_enter Tryz.func27,Tryz.ntmps27
    go_wp2_with (first
     | (go_at_call 75;refine HC.out.mono ?_;rintro e w2 ⟨rfl,hb⟩;
        (
         have hnw:=writer_new w2
         have hV:=wvalue_any w2
         have HV:=yh (rowC_tells Kex Ka9 (HX.out.1.below (fun h=>h.below hb) hb) hnw (by have:=HX.out.2.1;unfold Kbk at this;simp only [List.length_nil];omega) (fun y hy m o W cs h1 h2 h3=>wchange_any hV (HU.out y hy) h2 h1 h3))
         have HB:=yh hb
         clear hb hnw hV))
     | (go_at_call 76;refine HV.out.mono ?_;rintro e w4 ⟨rfl,o,h4,t4⟩;
        (
         have hcell:=Kab (o:=0) h4.box rfl
         have HF:=yh h4
         clear h4 t4 HV)))
    go_ret2
    have h4:=HF.out
    rw [HEQ.out.1,HEQ.out.2]
    have:=HB.out.size
    have hown:=h4.own
    have e3 : ([] : List UInt8) ++ rowsC Ka9 l = Kbk l:=rfl
    rw [e3] at hown
    exact ⟨o,rfl,hown.imp fun b _ hb=>by have:=hb.1;omega,Kaa HB.out h4.b⟩
   ·have z2 : (65536 : Int) < (l.length : Int):=by omega
    have e1 : out = []:=by rw [HO.out.1,ha,decide_eq_false hl];rfl
    have e2 : err = 3:=by rw [HO.out.2,ha,if_neg hl];rfl
    have HEQ:=yh (And.intro e1 e2)
    clear ha e1 e2 hl HO HX
    go_enter Tryz.func27,Tryz.ntmps27
    go_wp2_with (go_at_call 75;refine HC.out.mono ?_;rintro e W1 ⟨rfl,hb⟩;have HB:=yh hb;clear hb)
    go_ret2
    rw [HEQ.out.1,HEQ.out.2]
    exact ⟨_,rfl,own_none _ _,HB.out⟩
theorem rt_nodes : RT (Ka2 Ke4) (rowsC nodeC) (fun l=>u64T l.length ∧ ∀ x ∈ l,wfN x):=Kfc rt_node fun n _=>nodeC_pos n
theorem rt_rels : RT (Ka2 rdRel) (rowsC relC) (fun l=>u64T l.length ∧ ∀ x ∈ l,wfR x):=Kfc rt_rel fun n _=>relC_pos n
theorem Kel : EL GrOwn 4:=by
 refine ⟨?_,?_,?_,?_⟩
 ·rintro w w' P p a hk ⟨vn,vr,rfl,h1,h2⟩;exact ⟨vn,vr,rfl,h1.keep Kas hk,h2.keep Ka5 hk⟩
 ·rintro w P P' p a hp ⟨vn,vr,rfl,h1,h2⟩;exact ⟨vn,vr,rfl,h1.imp Kas hp,h2.imp Ka5 hp⟩
 ·rintro w P p a ⟨vn,vr,rfl,h1,h2⟩;rfl
 ·rintro w P p a ⟨vn,vr,rfl,⟨xs,h1,_⟩,ys,h2,_⟩ u hu
  have e1:=Kdn h1
  have e2:=Kdn h2
  simp only [List.mem_cons,List.not_mem_nil,or_false] at hu
  rcases hu with rfl | rfl | rfl | rfl <;> first | rfl | assumption
def okGraph (W : World) (p : GraphD) (x : Value) (W' : World) : Prop:=∃ cs,x = .agg cs ∧ GrOwn W' (fun b=>W.heap.size ≤ b) p cs
theorem rdGraph_eq (l : List UInt8) : rdGraph l = match Ka2 Ke4 l with
 | none=>none
 | some (ns,r1)=>match Ka2 rdRel r1 with
   | none=>none
   | some (rs,r2)=>match rdN 0 0 r2 with
     | none=>none
     | some (a,r3)=>match rdN 0 0 r3 with
       | none=>none
       | some (b,r4)=>some (⟨ns,rs,toI a,toI b⟩,r4):=by
 unfold rdGraph
 cases h1 : Ka2 Ke4 l with
 | none=>simp only;exact map_n (seq_n1 h1)
 | some p1 =>
   obtain ⟨ns,r1⟩:=p1
   simp only
   cases h2 : Ka2 rdRel r1 with
   | none=>simp only;exact map_n (Kda h1 (seq_n1 h2))
   | some p2 =>
     obtain ⟨rs,r2⟩:=p2
     simp only
     cases h3 : rdN 0 0 r2 with
     | none=>simp only;exact map_n (Kda h1 (Kda h2 (seq_n1 (map_n h3))))
     | some p3 =>
       obtain ⟨a,r3⟩:=p3
       simp only
       cases h4 : rdN 0 0 r3 with
       | none=>simp only;exact map_n (Kda h1 (Kda h2 (Kda (map_s h3) (map_n h4))))
       | some p4 =>
         obtain ⟨b,r4⟩:=p4
         simp only
         exact map_s (seq_s h1 (seq_s h2 (seq_s (map_s h3) (map_s h4))))
theorem rgraph_any {w W : World} {q : Nat} {l : List UInt8} (h : RSt 141 w W q l) (hl : l.length ≤ 1000000) :
 Calls Tryz.prog 50 #[.pointer (some ⟨q,0,none⟩)] W (Reads w W q (rdGraph l) (okGraph W)):=by
 have hq:=h.lt
 have hx0 : BX 25 W q #[.slice none 0 0,.slice none 0 0,.int .i64 0,.int .i64 0] (W.heap.size + 1) #[.slice none 0 0,.slice none 0 0,.int .i64 0,.int .i64 0] ((W.alloc (.cells #[.slice none 0 0,.slice none 0 0,.int .i64 0,.int .i64 0] 25)).alloc (.cells #[.slice none 0 0,.slice none 0 0,.int .i64 0,.int .i64 0] 25)):=by
  have h:=BX.start (T:=25) (z:=#[.slice none 0 0,.slice none 0 0,.int .i64 0,.int .i64 0]) (cs:=#[.slice none 0 0,.slice none 0 0,.int .i64 0,.int .i64 0]) hq (RTo.refl q (W.alloc (.cells #[.slice none 0 0,.slice none 0 0,.int .i64 0,.int .i64 0] 25)))
  simp only [World.size_alloc] at h
  exact h
 have hb0 : Below W.heap.size W ((W.alloc (.cells #[.slice none 0 0,.slice none 0 0,.int .i64 0,.int .i64 0] 25)).alloc (.cells #[.slice none 0 0,.slice none 0 0,.int .i64 0,.int .i64 0] 25)):=(Kac _).alloc (by simp) _
 have HR0:=yh (rrowsN_reads Kas Ke4 hl (h.below hb0) (fun W1 l' h1 h2=>rnode_any h1 h2) (fun l' x s hd=>rt_node.le hd))
 have HX0:=yh hx0
 clear hb0 h hx0
 have he:=rdGraph_eq l
 cases hr0 : Ka2 Ke4 l with
 | none =>
   rw [hr0] at HR0 he
   simp only at he
   have HE:=yh he
   clear he
   go_enter Tryz.func50,Tryz.ntmps50
   go_wp2_with (first
    | (go_at_call 51;(refine HR0.out.mono ?_;rintro e V1 h1;obtain ⟨t,hb,rfl⟩:=h1.none;have HBAD:=yh (And.intro t hb);clear h1 t hb)))
   exact ⟨rfl,Reads.of HE.out ⟨HX0.out.tr.trans HBAD.out.1,HBAD.out.2,rfl⟩⟩
 | some pp0 =>
   obtain ⟨ns,r1⟩:=pp0
   have hl1:=rt_nodes.le hr0
   rw [hr0] at HR0 he
   simp only at he
   cases hr1 : Ka2 rdRel r1 with
   | none =>
     rw [hr1] at he
     simp only at he
     have HE:=yh he
     clear he
     go_enter Tryz.func50,Tryz.ntmps50
     go_wp2_with (first
      | (go_at_call 51;(
          refine HR0.out.mono ?_
          rintro e V1 h1
          obtain ⟨t,hb,x,rfl,how,sv⟩:=h1.some
          obtain ⟨p1,c1,rfl⟩:=how.slice
          have hx:=HX0.out.step t
          have hx2 : BX 25 W q #[.slice none 0 0,.slice none 0 0,.int .i64 0,.int .i64 0] (W.heap.size + 1) #[.slice p1 ns.length c1,.slice none 0 0,.int .i64 0,.int .i64 0] (V1.setCell ⟨W.heap.size + 1,0,none⟩ (.slice p1 ns.length c1)):=by simpa using hx.set 0 (.slice p1 ns.length c1)
          have sv2:=hx.setR sv 0 (.slice p1 ns.length c1)
          have HS0:=yh (Kev (p:=p1) (n:=ns.length) (c:=c1) (Kab (o:=0) hx.p3 rfl) (Kav (o:=0) hx.p3))
          have hq2:=hx.ql
          have hlt:=HX0.out.lt
          have ho1 : GOwn NOwn 70 3 (V1.setCell ⟨W.heap.size + 1,0,none⟩ (.slice p1 ns.length c1)) (fun b=>W.heap.size + 2 ≤ b) (.slice p1 ns.length c1) ns:=(how.keep Kas fun b hb1 hl=>Below.heap_setCell _ _ _ _ (by show b ≠ W.heap.size + 1;have hs0 : ((W.alloc (.cells #[.slice none 0 0,.slice none 0 0,.int .i64 0,.int .i64 0] 25)).alloc (.cells #[.slice none 0 0,.slice none 0 0,.int .i64 0,.int .i64 0] 25)).heap.size = W.heap.size + 2:=(by simp);omega)).imp Kas fun b _ hb1=>by have hs0 : ((W.alloc (.cells #[.slice none 0 0,.slice none 0 0,.int .i64 0,.int .i64 0] 25)).alloc (.cells #[.slice none 0 0,.slice none 0 0,.int .i64 0,.int .i64 0] 25)).heap.size = W.heap.size + 2:=(by simp);omega
          have HX1:=yh (And.intro hx2 ho1)
          have HR1:=yh (Ker Ka5 rdRel (by omega) sv2 (fun W1 l' h1 h2=>rrel_any h1 h2) (fun l' x s hd=>rt_rel.le hd))
          rw [hr1] at HR1
          clear h1 t hb sv hx hx2 sv2 hq2 hlt HR0 how ho1))
      | ((with_reducible apply Kae);exact HS0.out;exact rfl;exact rfl;clear HS0)
      | (go_at_call 53;(refine HR1.out.mono ?_;rintro e V2 h2;obtain ⟨t,hb,rfl⟩:=h2.none;have HBAD:=yh (And.intro t hb);clear h2 t hb)))
     exact ⟨rfl,Reads.of HE.out ⟨HX1.out.1.tr.trans HBAD.out.1,HBAD.out.2,rfl⟩⟩
   | some pp1 =>
     obtain ⟨rs,r2⟩:=pp1
     have hl2:=rt_rels.le hr1
     rw [hr1] at he
     simp only at he
     cases hr2 : rdN 0 0 r2 with
     | none =>
       rw [hr2] at he
       simp only at he
       have HE:=yh he
       clear he
       go_enter Tryz.func50,Tryz.ntmps50
       go_wp2_with (first
        | (go_at_call 51;(
            refine HR0.out.mono ?_
            rintro e V1 h1
            obtain ⟨t,hb,x,rfl,how,sv⟩:=h1.some
            obtain ⟨p1,c1,rfl⟩:=how.slice
            have hx:=HX0.out.step t
            have hx2 : BX 25 W q #[.slice none 0 0,.slice none 0 0,.int .i64 0,.int .i64 0] (W.heap.size + 1) #[.slice p1 ns.length c1,.slice none 0 0,.int .i64 0,.int .i64 0] (V1.setCell ⟨W.heap.size + 1,0,none⟩ (.slice p1 ns.length c1)):=by simpa using hx.set 0 (.slice p1 ns.length c1)
            have sv2:=hx.setR sv 0 (.slice p1 ns.length c1)
            have HS0:=yh (Kev (p:=p1) (n:=ns.length) (c:=c1) (Kab (o:=0) hx.p3 rfl) (Kav (o:=0) hx.p3))
            have hq2:=hx.ql
            have hlt:=HX0.out.lt
            have ho1 : GOwn NOwn 70 3 (V1.setCell ⟨W.heap.size + 1,0,none⟩ (.slice p1 ns.length c1)) (fun b=>W.heap.size + 2 ≤ b) (.slice p1 ns.length c1) ns:=(how.keep Kas fun b hb1 hl=>Below.heap_setCell _ _ _ _ (by show b ≠ W.heap.size + 1;have hs0 : ((W.alloc (.cells #[.slice none 0 0,.slice none 0 0,.int .i64 0,.int .i64 0] 25)).alloc (.cells #[.slice none 0 0,.slice none 0 0,.int .i64 0,.int .i64 0] 25)).heap.size = W.heap.size + 2:=(by simp);omega)).imp Kas fun b _ hb1=>by have hs0 : ((W.alloc (.cells #[.slice none 0 0,.slice none 0 0,.int .i64 0,.int .i64 0] 25)).alloc (.cells #[.slice none 0 0,.slice none 0 0,.int .i64 0,.int .i64 0] 25)).heap.size = W.heap.size + 2:=(by simp);omega
            have HX1:=yh (And.intro hx2 ho1)
            have HR1:=yh (Ker Ka5 rdRel (by omega) sv2 (fun W1 l' h1 h2=>rrel_any h1 h2) (fun l' x s hd=>rt_rel.le hd))
            rw [hr1] at HR1
            clear h1 t hb sv hx hx2 sv2 hq2 hlt HR0 how ho1))
        | ((with_reducible apply Kae);exact HS0.out;exact rfl;exact rfl;clear HS0)
        | (go_at_call 53;(
            refine HR1.out.mono ?_
            rintro e V2 h2
            obtain ⟨t,hb,x,rfl,how,sv⟩:=h2.some
            obtain ⟨p2,c2,rfl⟩:=how.slice
            have hx:=HX1.out.1.step t
            have hx2 : BX 25 W q #[.slice none 0 0,.slice none 0 0,.int .i64 0,.int .i64 0] (W.heap.size + 1) #[.slice p1 ns.length c1,.slice p2 rs.length c2,.int .i64 0,.int .i64 0] (V2.setCell ⟨W.heap.size + 1,1,none⟩ (.slice p2 rs.length c2)):=by simpa using hx.set 1 (.slice p2 rs.length c2)
            have sv2:=hx.setR sv 1 (.slice p2 rs.length c2)
            have HS1:=yh (put_rels (p:=p2) (n:=rs.length) (c:=c2) (Kab (o:=1) hx.p3 rfl) (Kav (o:=1) hx.p3))
            have hq2:=hx.ql
            have hlt:=HX1.out.1.lt
            have ho1 : GOwn NOwn 70 3 (V2.setCell ⟨W.heap.size + 1,1,none⟩ (.slice p2 rs.length c2)) (fun b=>W.heap.size + 2 ≤ b) (.slice p1 ns.length c1) ns:=HX1.out.2.keep Kas fun b hb1 hl=>(Below.heap_setCell _ _ _ _ (by show b ≠ W.heap.size + 1;omega)).trans (t.keep b hl (by omega))
            have ho2 : GOwn ROwn 72 5 (V2.setCell ⟨W.heap.size + 1,1,none⟩ (.slice p2 rs.length c2)) (fun b=>W.heap.size + 2 ≤ b) (.slice p2 rs.length c2) rs:=(how.keep Ka5 fun b hb1 hl=>Below.heap_setCell _ _ _ _ (by show b ≠ W.heap.size + 1;skip;omega)).imp Ka5 fun b _ hb1=>by have:=HX1.out.1.lt;omega
            have HX2:=yh (And.intro hx2 (And.intro ho1 ho2))
            have HR2:=yh (Ka0 sv2)
            rw [hr2] at HR2
            clear h2 t hb sv hx hx2 sv2 hq2 hlt HR1 how ho1 ho2))
        | ((with_reducible apply Kae);exact HS1.out;exact rfl;exact rfl;clear HS1)
        | (go_at_call 55;(refine HR2.out.mono ?_;rintro e V3 h3;obtain ⟨t,hb,rfl⟩:=h3.none;have HBAD:=yh (And.intro t hb);clear h3 t hb)))
       exact ⟨rfl,Reads.of HE.out ⟨HX2.out.1.tr.trans HBAD.out.1,HBAD.out.2,rfl⟩⟩
     | some pp2 =>
       obtain ⟨a,r3⟩:=pp2
       have hl3:=rdN_le hr2
       rw [hr2] at he
       simp only at he
       have HCV2:=yh (fun W' : World=>conv_i64 (Keh hr2) W')
       cases hr3 : rdN 0 0 r3 with
       | none =>
         rw [hr3] at he
         simp only at he
         have HE:=yh he
         clear he
         go_enter Tryz.func50,Tryz.ntmps50
         go_wp2_with (first
          | (go_at_call 51;(
              refine HR0.out.mono ?_
              rintro e V1 h1
              obtain ⟨t,hb,x,rfl,how,sv⟩:=h1.some
              obtain ⟨p1,c1,rfl⟩:=how.slice
              have hx:=HX0.out.step t
              have hx2 : BX 25 W q #[.slice none 0 0,.slice none 0 0,.int .i64 0,.int .i64 0] (W.heap.size + 1) #[.slice p1 ns.length c1,.slice none 0 0,.int .i64 0,.int .i64 0] (V1.setCell ⟨W.heap.size + 1,0,none⟩ (.slice p1 ns.length c1)):=by simpa using hx.set 0 (.slice p1 ns.length c1)
              have sv2:=hx.setR sv 0 (.slice p1 ns.length c1)
              have HS0:=yh (Kev (p:=p1) (n:=ns.length) (c:=c1) (Kab (o:=0) hx.p3 rfl) (Kav (o:=0) hx.p3))
              have hq2:=hx.ql
              have hlt:=HX0.out.lt
              have ho1 : GOwn NOwn 70 3 (V1.setCell ⟨W.heap.size + 1,0,none⟩ (.slice p1 ns.length c1)) (fun b=>W.heap.size + 2 ≤ b) (.slice p1 ns.length c1) ns:=(how.keep Kas fun b hb1 hl=>Below.heap_setCell _ _ _ _ (by show b ≠ W.heap.size + 1;have hs0 : ((W.alloc (.cells #[.slice none 0 0,.slice none 0 0,.int .i64 0,.int .i64 0] 25)).alloc (.cells #[.slice none 0 0,.slice none 0 0,.int .i64 0,.int .i64 0] 25)).heap.size = W.heap.size + 2:=(by simp);omega)).imp Kas fun b _ hb1=>by have hs0 : ((W.alloc (.cells #[.slice none 0 0,.slice none 0 0,.int .i64 0,.int .i64 0] 25)).alloc (.cells #[.slice none 0 0,.slice none 0 0,.int .i64 0,.int .i64 0] 25)).heap.size = W.heap.size + 2:=(by simp);omega
              have HX1:=yh (And.intro hx2 ho1)
              have HR1:=yh (Ker Ka5 rdRel (by omega) sv2 (fun W1 l' h1 h2=>rrel_any h1 h2) (fun l' x s hd=>rt_rel.le hd))
              rw [hr1] at HR1
              clear h1 t hb sv hx hx2 sv2 hq2 hlt HR0 how ho1))
          | ((with_reducible apply Kae);exact HS0.out;exact rfl;exact rfl;clear HS0)
          | (go_at_call 53;(
              refine HR1.out.mono ?_
              rintro e V2 h2
              obtain ⟨t,hb,x,rfl,how,sv⟩:=h2.some
              obtain ⟨p2,c2,rfl⟩:=how.slice
              have hx:=HX1.out.1.step t
              have hx2 : BX 25 W q #[.slice none 0 0,.slice none 0 0,.int .i64 0,.int .i64 0] (W.heap.size + 1) #[.slice p1 ns.length c1,.slice p2 rs.length c2,.int .i64 0,.int .i64 0] (V2.setCell ⟨W.heap.size + 1,1,none⟩ (.slice p2 rs.length c2)):=by simpa using hx.set 1 (.slice p2 rs.length c2)
              have sv2:=hx.setR sv 1 (.slice p2 rs.length c2)
              have HS1:=yh (put_rels (p:=p2) (n:=rs.length) (c:=c2) (Kab (o:=1) hx.p3 rfl) (Kav (o:=1) hx.p3))
              have hq2:=hx.ql
              have hlt:=HX1.out.1.lt
              have ho1 : GOwn NOwn 70 3 (V2.setCell ⟨W.heap.size + 1,1,none⟩ (.slice p2 rs.length c2)) (fun b=>W.heap.size + 2 ≤ b) (.slice p1 ns.length c1) ns:=HX1.out.2.keep Kas fun b hb1 hl=>(Below.heap_setCell _ _ _ _ (by show b ≠ W.heap.size + 1;omega)).trans (t.keep b hl (by omega))
              have ho2 : GOwn ROwn 72 5 (V2.setCell ⟨W.heap.size + 1,1,none⟩ (.slice p2 rs.length c2)) (fun b=>W.heap.size + 2 ≤ b) (.slice p2 rs.length c2) rs:=(how.keep Ka5 fun b hb1 hl=>Below.heap_setCell _ _ _ _ (by show b ≠ W.heap.size + 1;skip;omega)).imp Ka5 fun b _ hb1=>by have:=HX1.out.1.lt;omega
              have HX2:=yh (And.intro hx2 (And.intro ho1 ho2))
              have HR2:=yh (Ka0 sv2)
              rw [hr2] at HR2
              clear h2 t hb sv hx hx2 sv2 hq2 hlt HR1 how ho1 ho2))
          | ((with_reducible apply Kae);exact HS1.out;exact rfl;exact rfl;clear HS1)
          | (go_at_call 55;(
              refine HR2.out.mono ?_
              rintro e V3 h3
              obtain ⟨t,hb,x,rfl,rfl,sv⟩:=h3.some
              have hx:=HX2.out.1.step t
              have hx2 : BX 25 W q #[.slice none 0 0,.slice none 0 0,.int .i64 0,.int .i64 0] (W.heap.size + 1) #[.slice p1 ns.length c1,.slice p2 rs.length c2,.int .i64 (toI a),.int .i64 0] (V3.setCell ⟨W.heap.size + 1,2,none⟩ (.int .i64 (toI a))):=by simpa using hx.set 2 (.int .i64 (toI a))
              have sv2:=hx.setR sv 2 (.int .i64 (toI a))
              have HS2:=yh (Kd0 (n:=toI a) (Kab (o:=2) hx.p3 rfl) (Kav (o:=2) hx.p3))
              have hq2:=hx.ql
              have hlt:=HX2.out.1.lt
              have ho1 : GOwn NOwn 70 3 (V3.setCell ⟨W.heap.size + 1,2,none⟩ (.int .i64 (toI a))) (fun b=>W.heap.size + 2 ≤ b) (.slice p1 ns.length c1) ns:=HX2.out.2.1.keep Kas fun b hb1 hl=>(Below.heap_setCell _ _ _ _ (by show b ≠ W.heap.size + 1;omega)).trans (t.keep b hl (by omega))
              have ho2 : GOwn ROwn 72 5 (V3.setCell ⟨W.heap.size + 1,2,none⟩ (.int .i64 (toI a))) (fun b=>W.heap.size + 2 ≤ b) (.slice p2 rs.length c2) rs:=HX2.out.2.2.keep Ka5 fun b hb1 hl=>(Below.heap_setCell _ _ _ _ (by show b ≠ W.heap.size + 1;omega)).trans (t.keep b hl (by omega))
              have HX3:=yh (And.intro hx2 (And.intro ho1 ho2))
              have HR3:=yh (Ka0 sv2)
              rw [hr3] at HR3
              clear h3 t hb sv hx hx2 sv2 hq2 hlt HR2  ho1 ho2))
          | ((with_reducible apply Kae);exact HS2.out;exact rfl;exact rfl;clear HS2)
          | ((with_reducible apply Kcg);exact HCV2.out _;exact rfl)
          | (go_at_call 55;(refine HR3.out.mono ?_;rintro e V4 h4;obtain ⟨t,hb,rfl⟩:=h4.none;have HBAD:=yh (And.intro t hb);clear h4 t hb)))
         exact ⟨rfl,Reads.of HE.out ⟨HX3.out.1.tr.trans HBAD.out.1,HBAD.out.2,rfl⟩⟩
       | some pp3 =>
         obtain ⟨b,r4⟩:=pp3
         have hl4:=rdN_le hr3
         rw [hr3] at he
         simp only at he
         have HCV3:=yh (fun W' : World=>conv_i64 (Keh hr3) W')
         have HE:=yh he
         clear he
         go_enter Tryz.func50,Tryz.ntmps50
         go_wp2_with (first
          | (go_at_call 51;(
              refine HR0.out.mono ?_
              rintro e V1 h1
              obtain ⟨t,hb,x,rfl,how,sv⟩:=h1.some
              obtain ⟨p1,c1,rfl⟩:=how.slice
              have hx:=HX0.out.step t
              have hx2 : BX 25 W q #[.slice none 0 0,.slice none 0 0,.int .i64 0,.int .i64 0] (W.heap.size + 1) #[.slice p1 ns.length c1,.slice none 0 0,.int .i64 0,.int .i64 0] (V1.setCell ⟨W.heap.size + 1,0,none⟩ (.slice p1 ns.length c1)):=by simpa using hx.set 0 (.slice p1 ns.length c1)
              have sv2:=hx.setR sv 0 (.slice p1 ns.length c1)
              have HS0:=yh (Kev (p:=p1) (n:=ns.length) (c:=c1) (Kab (o:=0) hx.p3 rfl) (Kav (o:=0) hx.p3))
              have hq2:=hx.ql
              have hlt:=HX0.out.lt
              have ho1 : GOwn NOwn 70 3 (V1.setCell ⟨W.heap.size + 1,0,none⟩ (.slice p1 ns.length c1)) (fun b=>W.heap.size + 2 ≤ b) (.slice p1 ns.length c1) ns:=(how.keep Kas fun b hb1 hl=>Below.heap_setCell _ _ _ _ (by show b ≠ W.heap.size + 1;have hs0 : ((W.alloc (.cells #[.slice none 0 0,.slice none 0 0,.int .i64 0,.int .i64 0] 25)).alloc (.cells #[.slice none 0 0,.slice none 0 0,.int .i64 0,.int .i64 0] 25)).heap.size = W.heap.size + 2:=(by simp);omega)).imp Kas fun b _ hb1=>by have hs0 : ((W.alloc (.cells #[.slice none 0 0,.slice none 0 0,.int .i64 0,.int .i64 0] 25)).alloc (.cells #[.slice none 0 0,.slice none 0 0,.int .i64 0,.int .i64 0] 25)).heap.size = W.heap.size + 2:=(by simp);omega
              have HX1:=yh (And.intro hx2 ho1)
              have HR1:=yh (Ker Ka5 rdRel (by omega) sv2 (fun W1 l' h1 h2=>rrel_any h1 h2) (fun l' x s hd=>rt_rel.le hd))
              rw [hr1] at HR1
              clear h1 t hb sv hx hx2 sv2 hq2 hlt HR0 how ho1))
          | ((with_reducible apply Kae);exact HS0.out;exact rfl;exact rfl;clear HS0)
          | (go_at_call 53;(
              refine HR1.out.mono ?_
              rintro e V2 h2
              obtain ⟨t,hb,x,rfl,how,sv⟩:=h2.some
              obtain ⟨p2,c2,rfl⟩:=how.slice
              have hx:=HX1.out.1.step t
              have hx2 : BX 25 W q #[.slice none 0 0,.slice none 0 0,.int .i64 0,.int .i64 0] (W.heap.size + 1) #[.slice p1 ns.length c1,.slice p2 rs.length c2,.int .i64 0,.int .i64 0] (V2.setCell ⟨W.heap.size + 1,1,none⟩ (.slice p2 rs.length c2)):=by simpa using hx.set 1 (.slice p2 rs.length c2)
              have sv2:=hx.setR sv 1 (.slice p2 rs.length c2)
              have HS1:=yh (put_rels (p:=p2) (n:=rs.length) (c:=c2) (Kab (o:=1) hx.p3 rfl) (Kav (o:=1) hx.p3))
              have hq2:=hx.ql
              have hlt:=HX1.out.1.lt
              have ho1 : GOwn NOwn 70 3 (V2.setCell ⟨W.heap.size + 1,1,none⟩ (.slice p2 rs.length c2)) (fun b=>W.heap.size + 2 ≤ b) (.slice p1 ns.length c1) ns:=HX1.out.2.keep Kas fun b hb1 hl=>(Below.heap_setCell _ _ _ _ (by show b ≠ W.heap.size + 1;omega)).trans (t.keep b hl (by omega))
              have ho2 : GOwn ROwn 72 5 (V2.setCell ⟨W.heap.size + 1,1,none⟩ (.slice p2 rs.length c2)) (fun b=>W.heap.size + 2 ≤ b) (.slice p2 rs.length c2) rs:=(how.keep Ka5 fun b hb1 hl=>Below.heap_setCell _ _ _ _ (by show b ≠ W.heap.size + 1;skip;omega)).imp Ka5 fun b _ hb1=>by have:=HX1.out.1.lt;omega
              have HX2:=yh (And.intro hx2 (And.intro ho1 ho2))
              have HR2:=yh (Ka0 sv2)
              rw [hr2] at HR2
              clear h2 t hb sv hx hx2 sv2 hq2 hlt HR1 how ho1 ho2))
          | ((with_reducible apply Kae);exact HS1.out;exact rfl;exact rfl;clear HS1)
          | (go_at_call 55;(
              refine HR2.out.mono ?_
              rintro e V3 h3
              obtain ⟨t,hb,x,rfl,rfl,sv⟩:=h3.some
              have hx:=HX2.out.1.step t
              have hx2 : BX 25 W q #[.slice none 0 0,.slice none 0 0,.int .i64 0,.int .i64 0] (W.heap.size + 1) #[.slice p1 ns.length c1,.slice p2 rs.length c2,.int .i64 (toI a),.int .i64 0] (V3.setCell ⟨W.heap.size + 1,2,none⟩ (.int .i64 (toI a))):=by simpa using hx.set 2 (.int .i64 (toI a))
              have sv2:=hx.setR sv 2 (.int .i64 (toI a))
              have HS2:=yh (Kd0 (n:=toI a) (Kab (o:=2) hx.p3 rfl) (Kav (o:=2) hx.p3))
              have hq2:=hx.ql
              have hlt:=HX2.out.1.lt
              have ho1 : GOwn NOwn 70 3 (V3.setCell ⟨W.heap.size + 1,2,none⟩ (.int .i64 (toI a))) (fun b=>W.heap.size + 2 ≤ b) (.slice p1 ns.length c1) ns:=HX2.out.2.1.keep Kas fun b hb1 hl=>(Below.heap_setCell _ _ _ _ (by show b ≠ W.heap.size + 1;omega)).trans (t.keep b hl (by omega))
              have ho2 : GOwn ROwn 72 5 (V3.setCell ⟨W.heap.size + 1,2,none⟩ (.int .i64 (toI a))) (fun b=>W.heap.size + 2 ≤ b) (.slice p2 rs.length c2) rs:=HX2.out.2.2.keep Ka5 fun b hb1 hl=>(Below.heap_setCell _ _ _ _ (by show b ≠ W.heap.size + 1;omega)).trans (t.keep b hl (by omega))
              have HX3:=yh (And.intro hx2 (And.intro ho1 ho2))
              have HR3:=yh (Ka0 sv2)
              rw [hr3] at HR3
              clear h3 t hb sv hx hx2 sv2 hq2 hlt HR2  ho1 ho2))
          | ((with_reducible apply Kae);exact HS2.out;exact rfl;exact rfl;clear HS2)
          | ((with_reducible apply Kcg);exact HCV2.out _;exact rfl)
          | (go_at_call 55;(
              refine HR3.out.mono ?_
              rintro e V4 h4
              obtain ⟨t,hb,x,rfl,rfl,sv⟩:=h4.some
              have hx:=HX3.out.1.step t
              have hx2 : BX 25 W q #[.slice none 0 0,.slice none 0 0,.int .i64 0,.int .i64 0] (W.heap.size + 1) #[.slice p1 ns.length c1,.slice p2 rs.length c2,.int .i64 (toI a),.int .i64 (toI b)] (V4.setCell ⟨W.heap.size + 1,3,none⟩ (.int .i64 (toI b))):=by simpa using hx.set 3 (.int .i64 (toI b))
              have sv2:=hx.setR sv 3 (.int .i64 (toI b))
              have HS3:=yh (Kd0 (n:=toI b) (Kab (o:=3) hx.p3 rfl) (Kav (o:=3) hx.p3))
              have hq2:=hx.ql
              have hlt:=HX3.out.1.lt
              have ho1 : GOwn NOwn 70 3 (V4.setCell ⟨W.heap.size + 1,3,none⟩ (.int .i64 (toI b))) (fun b=>W.heap.size + 2 ≤ b) (.slice p1 ns.length c1) ns:=HX3.out.2.1.keep Kas fun b hb1 hl=>(Below.heap_setCell _ _ _ _ (by show b ≠ W.heap.size + 1;omega)).trans (t.keep b hl (by omega))
              have ho2 : GOwn ROwn 72 5 (V4.setCell ⟨W.heap.size + 1,3,none⟩ (.int .i64 (toI b))) (fun b=>W.heap.size + 2 ≤ b) (.slice p2 rs.length c2) rs:=HX3.out.2.2.keep Ka5 fun b hb1 hl=>(Below.heap_setCell _ _ _ _ (by show b ≠ W.heap.size + 1;omega)).trans (t.keep b hl (by omega))
              have HX4:=yh (And.intro hx2 (And.intro ho1 ho2))
              obtain ⟨f1,f2,f3,f4,f5,f6,f7⟩:=hx2.fin Kay rfl rfl (by simp [Value.oneCell']) sv2
              have HL5:=yh f1
              have HS5:=yh f2
              have HLD:=yh f3
              have hno : GrOwn ((V4.setCell ⟨W.heap.size + 1,3,none⟩ (.int .i64 (toI b))).setRow W.heap.size #[.slice p1 ns.length c1,.slice p2 rs.length c2,.int .i64 (toI a),.int .i64 (toI b)]) (fun b=>W.heap.size ≤ b) ⟨ns,rs,toI a,toI b⟩ #[.slice p1 ns.length c1,.slice p2 rs.length c2,.int .i64 (toI a),.int .i64 (toI b)]:=⟨_,_,rfl,(ho1.keep Kas fun b hb1 hl=>f7 b (by omega)).imp Kas fun b _ hb1=>by omega,(ho2.keep Ka5 fun b hb1 hl=>f7 b (by omega)).imp Ka5 fun b _ hb1=>by omega⟩
              have HF:=yh (And.intro f4 (And.intro f5 (And.intro f6 hno)))
              clear f1 f2 f3 f4 f5 f6 f7 hno
              clear h4 t hb sv hx hx2 sv2 hq2 hlt HR3  ho1 ho2))
          | ((with_reducible apply Kae);exact HS3.out;exact rfl;exact rfl;clear HS3)
          | ((with_reducible apply Kcg);exact HCV3.out _;exact rfl)
          | ((with_reducible apply Kal);exact HL5.out;exact rfl)
          | ((with_reducible apply Kae);exact HS5.out;exact rfl;exact rfl))
         refine bodyPost_ret (Kan rfl _ _ ⟨W.heap.size,0,none⟩ _ rfl HLD.out) rfl ?_
         exact Reads.of HE.out ⟨HF.out.2.1,HF.out.2.2.1,_,rfl,⟨_,rfl,HF.out.2.2.2⟩,HF.out.1⟩
theorem rvalue1_any {w W : World} {q : Nat} {l : List UInt8} (h : RSt 141 w W q l) (hl : l.length ≤ 1000000) :
 Calls Tryz.prog 70 #[.pointer (some ⟨q,0,none⟩)] W (Reads w W q (rdVal 64 l) (okVal W)):=by
 have hq:=h.lt
 have hb:=Kac (w:=W) (.cells #[.int .i64 0,.bool false,.int .i64 0,.string ⟨#[]⟩,.slice none 0 0,.slice none 0 0] 48)
 have hbx:=heap_alloc_new W (.cells #[.int .i64 0,.bool false,.int .i64 0,.string ⟨#[]⟩,.slice none 0 0,.slice none 0 0] 48)
 have hlt:=Array.getElem?_eq_some_iff.1 hbx |>.1
 have HV:=yh (rvalue_any w 64 (Nat.le_refl _) _ q l (h.below hb) hl)
 have HB:=yh (And.intro hb (And.intro hbx hlt))
 clear hb hbx hlt h
 cases hr : rdVal 64 l with
 | none =>
   rw [hr] at HV
   go_enter Tryz.func70,Tryz.ntmps70
   go_wp2_with (go_at_call 71;refine HV.out.mono ?_;rintro e W6 h6;obtain ⟨t6,hb6,rfl⟩:=h6.none;have H6:=yh (And.intro t6 hb6);clear h6 t6 hb6)
   exact ⟨rfl,Reads.of rfl ⟨(RTo.of_below HB.out.1).trans H6.out.1,H6.out.2,rfl⟩⟩
 | some p =>
   obtain ⟨v,s⟩:=p
   rw [hr] at HV
   go_enter Tryz.func70,Tryz.ntmps70
   go_wp2_with (first
    | (go_at_call 71;refine HV.out.mono ?_;rintro e W6 h6
       (
        obtain ⟨t6,hb6,x6,rfl,⟨cs,rfl,hown⟩,s6⟩:=h6.some
        have hbx6:=(t6.keep _ HB.out.2.2 (by omega)).trans HB.out.2.1
        have hcs:=hown.size6
        have hsz:=t6.size
        have hlt:=HB.out.2.2
        have ho : ∀ b,b ≠ W.heap.size → (W6.setRow W.heap.size cs).heap[b]? = W6.heap[b]?:=fun b hb=>setRow_other W6 _ b _ hb
        have hs6 : (W6.setRow W.heap.size cs).heap.size = W6.heap.size:=by simp
        have hB6:=Kbz (B:=W.heap.size) hb6 (by have:=s6.base;omega) cs
        have hto : RTo q W (W6.setRow W.heap.size cs):=⟨by rw [hs6];omega,fun b hb1 hq1=>(ho b (by omega)).trans ((t6.keep b (by omega) hq1).trans (HB.out.1.block b hb1))⟩
        have hvo : VOwn (W6.setRow W.heap.size cs) (fun b=>W.heap.size ≤ b) v cs:=(hown.keep (w':=W6.setRow W.heap.size cs) fun b hb1 _=>ho b (by omega)).imp fun b _ hb1=>by omega
        have HST:=yh (StT.put Kbp hcs hown.ones hbx6 rfl)
        have HLD:=yh (StT.get Kbp hcs (setRow_heap W6 W.heap.size _ cs _ _ hbx6))
        have HF:=yh (And.intro hto (And.intro hB6 (And.intro hvo (s6.other hB6 (ho q (by omega))))))
        clear h6 t6 hb6 hown s6 hbx6 ho hs6 hB6 hto hvo HV hcs hsz hlt))
    | ((with_reducible apply Kae);exact HST.out;exact rfl;exact rfl))
   refine bodyPost_ret (Kan rfl _ _ ⟨W.heap.size,0,none⟩ _ rfl HLD.out) rfl ?_
   exact Reads.of rfl ⟨HF.out.1,HF.out.2.1,_,rfl,⟨_,rfl,HF.out.2.2.1⟩,HF.out.2.2.2⟩
theorem rchanges_any {w W : World} {q : Nat} {l : List UInt8} (h : RSt 141 w W q l) (hl : l.length ≤ 1000000) :
 Calls Tryz.prog 80 #[.pointer (some ⟨q,0,none⟩)] W (Reads w W q (Ka2 Kbc l) fun xs v W'=>GOwn COwn 74 11 W' (fun b=>W.heap.size ≤ b) v xs):=by
 have HR:=yh (rrowsC_reads Ke0 Kbc hl h (fun W1 l' h1 h2=>rchange_any h1 h2) (fun l' x s hd=>rt_change.le hd))
 clear h
 cases hr : Ka2 Kbc l with
 | none =>
   rw [hr] at HR
   go_enter Tryz.func80,Tryz.ntmps80
   go_wp2_with (go_at_call 81;refine HR.out.mono ?_;rintro e W6 h6;obtain ⟨t6,hb6,rfl⟩:=h6.none;have H6:=yh (And.intro t6 hb6);clear h6 t6 hb6)
   exact ⟨rfl,Reads.of rfl ⟨H6.out.1,H6.out.2,rfl⟩⟩
 | some p =>
   obtain ⟨v,s⟩:=p
   rw [hr] at HR
   go_enter Tryz.func80,Tryz.ntmps80
   go_wp2_with (go_at_call 81;refine HR.out.mono ?_;rintro e W6 h6;obtain ⟨t6,hb6,x6,rfl,how,s6⟩:=h6.some;have H6:=yh (And.intro t6 (And.intro hb6 (And.intro how s6)));clear h6 t6 hb6 how s6)
   go_ret
   exact Reads.of rfl ⟨H6.out.1,H6.out.2.1,_,rfl,H6.out.2.2.1,H6.out.2.2.2⟩
theorem exec_lenb {a : Act} {w : World} {o : Oper} {x : Operand} {p : Option Addr} {n c : Nat} (ho : o.op = .call { callee:=.builtin .len,args:=#[x],argTypes:=#[26] }) (hx : a.eval x = .slice p n c) : (execOp a.eval o).run Tryz.prog w = .ok (.value (.int .i64 (n : Int))) w:=by
 unfold execOp
 simp only [ho,resolve,invoke,builtin,Sem.run_bind,Sem.run_pure,Result.andThen_ok,List.map_toArray,List.map_cons,List.map_nil,hx]
 simp [go_sem]
def dNum (b : List UInt8) : Option (Nat × List UInt8):=(rdN 0 0 b).map fun p=>(p.1,[])
def kNum (b : List UInt8) : Nat:=match rdN 0 0 b with
 | some p=>b.length - p.2.length
 | none=>0
theorem rnumber1_any {w W : World} {q bb nb : Nat} {l : List UInt8} {p : Option Addr} {c : Nat} (h : RSt 141 w W q l) (hl : l.length ≤ 1000000) (hbb : W.heap[bb]? = some (.cells #[.slice p l.length c] 26 (0,0))) (hnb : W.heap[nb]? = some (.cells #[.int .i64 0] 3 (0,0)))
 (hne1 : bb ≠ q) (hne2 : nb ≠ q) (hwn : w.heap.size ≤ nb) :
 Calls Tryz.prog 93 #[.pointer (some ⟨q,0,none⟩),.pointer (some ⟨bb,0,none⟩),.pointer (some ⟨nb,0,none⟩)] W fun e W2=>W.heap.size ≤ W2.heap.size ∧ Below w.heap.size w W2 ∧ (∀ b,b < W.heap.size → b ≠ q → b ≠ nb → W2.heap[b]? = W.heap[b]?) ∧
  ((rdN 0 0 l = none ∧ e = given ∧ W2.heap[nb]? = W.heap[nb]?) ∨ ∃ n r,rdN 0 0 l = some (n,r) ∧ e = .returned (.int .u64 (n : Int)) ∧ RSt 141 w W2 q [] ∧ W2.heap[nb]? = some (.cells #[.int .i64 ((l.length - r.length : Nat) : Int)] 3 (0,0))):=by
 have hn:=Ka0 h
 have hlb:=(Array.getElem?_eq_some_iff.1 hbb).1
 have hln:=(Array.getElem?_eq_some_iff.1 hnb).1
 have hbase:=h.base
 have HN:=yh hn
 have HB:=yh (And.intro hbb (And.intro hnb (And.intro hlb (And.intro hln hbase))))
 clear h hn hbb hnb hlb hln
 cases hr : rdN 0 0 l with
 | none =>
   rw [hr] at HN
   go_enter Tryz.func93,Tryz.ntmps93
   go_wp2_with (go_at_call 55;refine HN.out.mono ?_;rintro e W6 h6;obtain ⟨t6,hb6,rfl⟩:=h6.none;have H6:=yh (And.intro t6 hb6);clear h6 t6 hb6)
   refine ⟨rfl,H6.out.1.size,H6.out.2,fun b hb hq _=>H6.out.1.keep b hb hq,.inl ⟨?_,rfl,H6.out.1.keep nb HB.out.2.2.2.1 hne2⟩⟩
   first | rfl | trivial
 | some pp =>
   obtain ⟨n,r⟩:=pp
   have hle:=rdN_le hr
   rw [hr] at HN
   go_enter Tryz.func93,Tryz.ntmps93
   go_wp2_with (go_at_call 55;refine HN.out.mono ?_;rintro e W6 h6;obtain ⟨t6,hb6,x6,rfl,rfl,s6⟩:=h6.some;have H6:=yh (And.intro t6 (And.intro hb6 s6));clear h6 t6 hb6 s6)
   obtain ⟨t6,hb6,s6⟩:=H6.out
   obtain ⟨hbb,hnb,hlb,hln,hbase⟩:=HB.out
   obtain ⟨p6,c6,hq6,_⟩:=s6.box
   have hs6:=t6.size
   have hbb6:=(t6.keep bb hlb hne1).trans hbb
   have hnb6:=(t6.keep nb hln hne2).trans hnb
   have hsb : ∀ W' : World,(binOp .sub 3 (.int .i64 (l.length : Int)) (.int .i64 (r.length : Int))).run Tryz.prog W' = .ok (.int .i64 ((l.length - r.length : Nat) : Int)) W':=by
    intro W'
    have e : IntKind.i64.wrap ((l.length : Int) - (r.length : Int)) = ((l.length - r.length : Nat) : Int):=by rw [IntKind.wrap_i64];omega
    simp [go_sem,e]
   have hf1 : ∀ W' : World,(Instr.fieldAt 141 (.pointer (some ⟨q,0,none⟩)) 0).run Tryz.prog W' = .ok (.pointer (some ⟨q,0,none⟩)) W':=by intro W';simp [go_sem]
   have hf2 : ∀ W' : World,(Instr.fieldAt 139 (.pointer (some ⟨q,0,none⟩)) 0).run Tryz.prog W' = .ok (.pointer (some ⟨q,0,none⟩)) W':=by intro W';simp [go_sem]
   have hbbd : W6.drew.heap[bb]? = some (.cells #[.slice p l.length c] 26 (0,0)):=hbb6
   have hqd : W6.drew.heap[q]? = some (.cells #[.slice p6 r.length c6] 141 (0,0)):=hq6
   have hnd : W6.drew.heap[nb]? = some (.cells #[.int .i64 0] 3 (0,0)):=hnb6
   have hst:=put_int (n:=((l.length - r.length : Nat) : Int)) (Kab (o:=0) hnd rfl) (Kav (o:=0) hnd)
   refine Kaj (fun W=>W.cell? ⟨bb,0,none⟩ = some (.slice p l.length c) ∧ W.cell? ⟨q,0,none⟩ = some (.slice p6 r.length c6)) (by kernel_rfl) ⟨Kab (o:=0) hbbd rfl,Kab (o:=0) hqd rfl⟩ (fun hS=>?_)
   refine tk 0 8 (v:=.slice p l.length c) rfl rfl (fun W hW=>Kaf rfl rfl (Kag (w:=W) Tryz.underlying26 rfl hW.1)) ?_
   simp only [Act.put,sA,sZ,sS]
   refine tk 1 9 (v:=.int .i64 (l.length : Int)) rfl rfl (fun W hW=>exec_lenb rfl rfl) ?_
   simp only [Act.put,sA,sZ,sS]
   refine tk 2 10 (v:=.pointer (some ⟨q,0,none⟩)) rfl rfl (fun W hW=>Kah rfl rfl) ?_
   simp only [Act.put,sA,sZ,sS]
   refine tk 3 11 (v:=.pointer (some ⟨q,0,none⟩)) rfl rfl (fun W hW=>rfl) ?_
   simp only [Act.put,sA,sZ,sS]
   refine tk 4 12 (v:=.pointer (some ⟨q,0,none⟩)) rfl rfl (fun W hW=>Kad rfl rfl (hf1 W)) ?_
   simp only [Act.put,sA,sZ,sS]
   refine tk 5 13 (v:=.pointer (some ⟨q,0,none⟩)) rfl rfl (fun W hW=>Kad rfl rfl (hf2 W)) ?_
   simp only [Act.put,sA,sZ,sS]
   refine tk 6 14 (v:=.slice p6 r.length c6) rfl rfl (fun W hW=>Kaf rfl rfl (Kag (w:=W) Tryz.underlying26 rfl hW.2)) ?_
   simp only [Act.put,sA,sZ,sS]
   refine tk 7 15 (v:=.int .i64 (r.length : Int)) rfl rfl (fun W hW=>exec_lenb rfl rfl) ?_
   simp only [Act.put,sA,sZ,sS]
   refine tk 8 16 (v:=.int .i64 ((l.length - r.length : Nat) : Int)) rfl rfl (fun W hW=>Kar rfl rfl rfl (hsb W)) ?_
   simp only [Act.put,sA,sZ,sS]
   refine Kca 9 rfl rfl (by kernel_rfl) rfl (Kb4 rfl rfl rfl hst) (.inl (by kernel_rfl)) ?_
   refine done (by kernel_rfl) ?_ _
   have ho1 : ∀ b,b ≠ nb → (W6.drew.setCell ⟨nb,0,none⟩ (.int .i64 ((l.length - r.length : Nat) : Int))).heap[b]? = W6.heap[b]?:=fun b hb=>Below.heap_setCell W6.drew ⟨nb,0,none⟩ _ b hb
   have hn7 : (W6.drew.setCell ⟨nb,0,none⟩ (.int .i64 ((l.length - r.length : Nat) : Int))).heap[nb]? = some (.cells #[.int .i64 ((l.length - r.length : Nat) : Int)] 3 (0,0)):=heap_setCell_same W6.drew nb 0 _ _ _ hnd
   have hs7 : (W6.drew.setCell ⟨nb,0,none⟩ (.int .i64 ((l.length - r.length : Nat) : Int))).heap.size = W6.heap.size:=by
    have : W6.drew.heap.size = W6.heap.size:=rfl
    rw [← this];simp [World.setCell]
   have hb7 : Below w.heap.size w (W6.drew.setCell ⟨nb,0,none⟩ (.int .i64 ((l.length - r.length : Nat) : Int))):=Kbh hb6.drew hwn _
   have hq7:=(ho1 q (fun e=>hne2 e.symm)).trans hq6
   generalize W6.drew.setCell ⟨nb,0,none⟩ (.int .i64 ((l.length - r.length : Nat) : Int)) = W7 at *
   have hst2:=put_bytesR (p:=none) (n:=0) (c:=0) (Kab (o:=0) hq7 rfl) (Kav (o:=0) hq7)
   have ho2 : ∀ b,b ≠ q → (W7.setCell ⟨q,0,none⟩ (.slice none 0 0)).heap[b]? = W7.heap[b]?:=fun b hb=>Below.heap_setCell W7 ⟨q,0,none⟩ _ b hb
   have hs8 : (W7.setCell ⟨q,0,none⟩ (.slice none 0 0)).heap.size = W7.heap.size:=by simp [World.setCell]
   have hb8 : Below w.heap.size w (W7.setCell ⟨q,0,none⟩ (.slice none 0 0)):=Kbh hb7 hbase _
   have hq8 : (W7.setCell ⟨q,0,none⟩ (.slice none 0 0)).heap[q]? = some (.cells #[.slice none ([] : List UInt8).length 0] 141 (0,0)):=heap_setCell_same W7 q 0 _ _ _ hq7
   have hrs : RSt 141 w (W7.setCell ⟨q,0,none⟩ (.slice none 0 0)) q []:=⟨hb8,hbase,none,0,hq8,none,0,rfl,⟨Nat.le_refl _,by simp [maxLen],fun _=>rfl⟩,fun ad had=>by cases had⟩
   have HST:=yh hst2
   have HF:=yh (show W.heap.size ≤ (W7.setCell ⟨q,0,none⟩ (.slice none 0 0)).heap.size ∧ Below w.heap.size w (W7.setCell ⟨q,0,none⟩ (.slice none 0 0)) ∧ (∀ b,b < W.heap.size → b ≠ q → b ≠ nb → (W7.setCell ⟨q,0,none⟩ (.slice none 0 0)).heap[b]? = W.heap[b]?) ∧ RSt 141 w (W7.setCell ⟨q,0,none⟩ (.slice none 0 0)) q [] ∧ (W7.setCell ⟨q,0,none⟩ (.slice none 0 0)).heap[nb]? = some (.cells #[.int .i64 ((l.length - r.length : Nat) : Int)] 3 (0,0)) from
    ⟨by omega,hb8,fun b hb h1 h2=>(ho2 b h1).trans ((ho1 b h2).trans (t6.keep b hb h1)),hrs,(ho2 nb hne2).trans hn7⟩)
   clear hS t6 hb6 s6 hbb hnb hlb hln hq6 hs6 hbb6 hnb6 hsb hf1 hf2 hbbd hqd hnd hst ho1 hn7 hs7 hb7 hq7 hst2 ho2 hs8 hb8 hq8 hrs HB H6 HN
   go_wp2_with ((with_reducible apply Kae);exact HST.out;exact rfl;exact rfl)
   go_ret
   obtain ⟨g1,g2,g3,g4,g5⟩:=HF.out
   exact ⟨g1,g2,g3,.inr ⟨n,r,rfl,rfl,g4,g5⟩⟩
theorem anyNumber (n : Int) (w : World) : Calls Tryz.prog 94 #[.int .u64 n] w fun e w'=>e = .returned (.bool true) ∧ Below w.heap.size w w':=by
 go_enter Tryz.func94,Tryz.ntmps94
 go_wp2
 go_ret
 exact ⟨rfl,Below.refl _ _⟩
section
variable {P : Program} {ops : Array Oper} {rest : List Oper} {Q : Exit → Act → World → Prop} {a : Act} {w w' : World} {dst : Option Tmp} {ty : TypeId} {pos : String} {af : Array Edge} {t : TypeId} {x y : Operand} {v : Value}
theorem Keq {b : Addr} {g : Nat × Bool} (hr : (loadVar t b).run P w = .ok v w) (hx : a.eval x = .pointer (some b)) (hw : Region.wanted (⟨dst,.load t x,ty,pos,af,some g⟩ : Oper) (yielded ops a.tmps) = true) (h : wpList P ops Q rest (a.put dst v) w) : wpList P ops Q (⟨dst,.load t x,ty,pos,af,some g⟩ :: rest) a w:=wpList_runG hw (Kaf rfl hx hr) h
theorem Kbw {fn : Func} {p q : Tmp} {tz : TypeId} (h : fn.results = #[.cell p t,.cell q tz]) (tmps : Array Value) (w : World) (ad ad2 : Addr) (v v2 : Value)
 (hp : tmps.getD p undef = .pointer (some ad)) (hq : tmps.getD q undef = .pointer (some ad2)) (hl : (loadVar t ad).run P w = .ok v w) (hl2 : (loadVar tz ad2).run P w = .ok v2 w) : (results fn tmps).run P w = .ok (.tuple #[v,v2]) w:=by
 have hp' : tmps[p]?.getD undef = .pointer (some ad):=by simpa using hp
 have hq' : tmps[q]?.getD undef = .pointer (some ad2):=by simpa using hq
 simp [results,h,hp',hq',asAddr,hl,hl2]
end
def mk1 (c : Array Value) : Value:=c.getD 0 undef
structure VT (T : TypeId) (K : Nat) (mk : Array Value → Value) : Prop where
 put : ∀ {W : World} {g : Nat} {z c : Array Value},c.size = K → (∀ u ∈ c.toList,u.oneCell' = true) → W.heap[g]? = some (.cells z T (0,0)) → z.size = K → (storeVar T ⟨g,0,none⟩ (mk c)).run Tryz.prog W = .ok () (W.setRow g c)
 get : ∀ {W : World} {g : Nat} {c : Array Value},c.size = K → W.heap[g]? = some (.cells c T (0,0)) → (loadVar T ⟨g,0,none⟩).run Tryz.prog W = .ok (mk c) W
theorem VT.of {T : TypeId} {K : Nat} (h : StT Tryz.prog T K) : VT T K .agg:=⟨fun h1 h2 h3 h4=>h.put h1 h2 h3 h4,fun h1 h2=>h.get h1 h2⟩
theorem VT.one {T : TypeId} {d : TypeDesc} (hu : Tryz.prog.underlying T = some d) (hd : isAggD d = false) (hi : (Tryz.prog.info? T).map (·.size) = some 1) : VT T 1 mk1:=by
 refine ⟨fun {W g z c} h1 h2 h3 h4=>?_,fun {W g c} h1 h2=>?_⟩
 ·obtain ⟨u,rfl⟩ : ∃ u,c = #[u]:=by
   rcases c with ⟨l⟩
   match l,h1 with
   | [u],_=>exact ⟨u,rfl⟩
  have h1u : u.oneCell' = true:=h2 u (by simp)
  have hc : u.cells = #[u]:=by cases u <;> first | rfl | (simp [Value.oneCell'] at h1u)
  have hr:=run_storeVar_row (P:=Tryz.prog) W g T T z #[u] h3 hi (by simpa using h4) (by simp [h1u])
  have e : storeVar T ⟨g,0,none⟩ (.agg #[u]) = storeVar T ⟨g,0,none⟩ u:=by unfold storeVar;rw [hc];rfl
  rw [e] at hr
  exact hr
 ·obtain ⟨u,rfl⟩ : ∃ u,c = #[u]:=by
   rcases c with ⟨l⟩
   match l,h1 with
   | [u],_=>exact ⟨u,rfl⟩
  exact Kag hu (by revert hd;cases d <;> simp [isAggD]) (Kab (o:=0) h2 rfl)
theorem Kdd : VT 25 4 .agg:=.of Kay
theorem vt_val : VT 48 6 .agg:=.of Kbp
theorem vt_u64 : VT 79 1 mk1:=.one Tryz.underlying79 rfl (by kernel_rfl)
theorem Kcr : VT 58 1 mk1:=.one Tryz.underlying58 rfl (by kernel_rfl)
theorem Kb9 : VT 29 1 mk1:=.one Tryz.underlying29 rfl (by kernel_rfl)
section
variable {α : Type} {d : Dec α} {ok : α → Bool} {b s : List UInt8} {x : α}
theorem readW_none (h : d b = none) : readW d ok b = none:=by unfold readW;rw [h]
theorem readW_left (h : d b = some (x,s)) (hs : s ≠ []) : readW d ok b = none:=by
 unfold readW;rw [h]
 cases s with
 | nil=>exact absurd rfl hs
 | cons=>rfl
theorem readW_no (h : d b = some (x,[])) (hx : ok x = false) : readW d ok b = none:=by unfold readW;rw [h];simp [hx]
theorem readW_yes (h : d b = some (x,[])) (hx : ok x = true) : readW d ok b = some x:=by unfold readW;rw [h];simp [hx]
end
def ReadPost {α : Type} (w W : World) (X : Nat → Prop) (mk : Array Value → Value) (z : Array Value) (OK : World → α → Array Value → Prop) (Jn : World → Prop) (fails : Prop) (r : Option α) (e : Ending) (W' : World) : Prop :=
 Below w.heap.size w W' ∧ W.heap.size ≤ W'.heap.size ∧ (∀ b,b < W.heap.size → ¬ X b → W'.heap[b]? = W.heap[b]?) ∧ match r with
  | some x=>∃ cs,e = .returned (.tuple #[mk cs,.int .i64 0]) ∧ OK W' x cs ∧ Jn W'
  | none=>e = .returned (.tuple #[mk z,.int .i64 290]) ∧ (fails → ∀ b,X b → W'.heap[b]? = W.heap[b]?)
theorem idleG (p q : Addr) (w : World) :
 CallsD Tryz.prog 104 #[.pointer (some p),.pointer (some q)] .returning w fun e u' w'=>e = .returned (.tuple #[]) ∧ u' = .returning ∧ w' = w:=by
 have hnil : ∀ w : World,(binOp BinOp.eql 20 .nilIface .nilIface).run Tryz.prog w = .ok (.bool true) w:=fun _=>by kernel_rfl
 refine callsD_of_wpS Tryz.func104 rfl fun c₀ cs hu=>?_
 apply wpS_seq
 apply wpS_region
 simp [wpOpsS,go_sem,recoverD,hu,Tryz.ntmps104,Exit.thenS]
 have e : (#[.pointer (some p),.pointer (some q)] ++ (Array.replicate 11 undef).setIfInBounds 4 Value.nilIface : Array Value) = #[.pointer (some p),.pointer (some q),undef,undef,undef,undef,.nilIface,undef,undef,undef,undef,undef,undef]:=rfl
 rw [e]
 clear e
 refine wpS_of_wp ?_
 have HU:=yh hu
 clear hu
 go_wp2
 refine ⟨rfl,.returning,?_,_,results_none rfl _ _ _,rfl,rfl,rfl⟩
 have hu:=HU.out
 cases c₀
 simp_all
theorem caughtG {w : World} {P Q : Nat} {z : Array Value} {n : Int} (hp : w.heap[P]? = some (.cells z 25 (0,0))) (hz : z.size = 4) (hq : w.heap[Q]? = some (.cells #[.int .i64 n] 29 (0,0))) (hne : P ≠ Q) :
 CallsD Tryz.prog 104 #[.pointer (some ⟨P,0,none⟩),.pointer (some ⟨Q,0,none⟩)] (.panicking [{ v:=badV,recovered:=false }]) w fun e u' w' =>
  e = .returned (.tuple #[]) ∧ u' = .panicking [{ v:=badV,recovered:=true }] ∧ w'.heap[P]? = some (.cells #[.slice none 0 0,.slice none 0 0,.int .i64 0,.int .i64 0] 25 (0,0)) ∧ w'.heap[Q]? = some (.cells #[.int .i64 290] 29 (0,0)) ∧ Touch (fun x=>x = P ∨ x = Q) w w':=by
 have hnil : ∀ w : World,(binOp BinOp.eql 20 badV .nilIface).run Tryz.prog w = .ok (.bool false) w:=fun _=>by rfl
 have hta : ∀ w : World,(Instr.typeAssert badV 20 154 true).run Tryz.prog w = .ok (.tuple #[.agg #[],.bool true]) w:=fun _=>by rfl
 have hB : Below w.heap.size w ((w.alloc (.cells #[] 154)).alloc (.cells #[.slice none 0 0,.slice none 0 0,.int .i64 0,.int .i64 0] 25)):=(Kac _).alloc (by simp) _
 have hlp:=(Array.getElem?_eq_some_iff.1 hp).1
 have hlq:=(Array.getElem?_eq_some_iff.1 hq).1
 have hp1:=Kai hB hlp hp
 have hq1:=Kai hB hlq hq
 have h4 : ((w.alloc (.cells #[] 154)).alloc (.cells #[.slice none 0 0,.slice none 0 0,.int .i64 0,.int .i64 0] 25)).heap[w.heap.size + 1]? = some (.cells #[.slice none 0 0,.slice none 0 0,.int .i64 0,.int .i64 0] 25 (0,0)):=by
  simp only [Kam,World.size_alloc];rw [if_pos trivial]
 have hT1 : Touch (fun x=>x = P ∨ x = Q) w ((w.alloc (.cells #[] 154)).alloc (.cells #[.slice none 0 0,.slice none 0 0,.int .i64 0,.int .i64 0] 25)):=((Touch.refl _ _).alloc _).alloc _
 have HL:=yh (Kdd.get (c:=#[.slice none 0 0,.slice none 0 0,.int .i64 0,.int .i64 0]) rfl h4)
 have HS:=yh (Kdd.put (c:=#[.slice none 0 0,.slice none 0 0,.int .i64 0,.int .i64 0]) rfl (by simp [Value.oneCell']) hp1 hz)
 generalize hWa : (w.alloc (.cells #[] 154)).alloc (.cells #[.slice none 0 0,.slice none 0 0,.int .i64 0,.int .i64 0] 25) = Wa at *
 have hq2:=(setRow_other Wa P Q #[.slice none 0 0,.slice none 0 0,.int .i64 0,.int .i64 0] (fun e=>hne e.symm)).trans hq1
 have hp2:=setRow_heap Wa P z #[.slice none 0 0,.slice none 0 0,.int .i64 0,.int .i64 0] _ _ hp1
 have hT2 : Touch (fun x=>x = P ∨ x = Q) w (Wa.setRow P #[.slice none 0 0,.slice none 0 0,.int .i64 0,.int .i64 0]):=by
  have hs : (Wa.setRow P #[.slice none 0 0,.slice none 0 0,.int .i64 0,.int .i64 0]).heap.size = Wa.heap.size:=by simp
  exact hT1.step (show Touch (fun x=>x = P) Wa (Wa.setRow P #[.slice none 0 0,.slice none 0 0,.int .i64 0,.int .i64 0]) from ⟨rfl,rfl,rfl,by rw [hs];exact Nat.le_refl _,fun b _ hb=>setRow_other Wa P b #[.slice none 0 0,.slice none 0 0,.int .i64 0,.int .i64 0] hb⟩) (fun x _ h=>.inl h)
 have HE:=yh (Kb9.put (c:=#[.int .i64 290]) rfl (by simp [Value.oneCell']) hq2 rfl)
 have hp3:=(setRow_other (Wa.setRow P #[.slice none 0 0,.slice none 0 0,.int .i64 0,.int .i64 0]) Q P #[.int .i64 290] hne).trans hp2
 have hq3:=setRow_heap (Wa.setRow P #[.slice none 0 0,.slice none 0 0,.int .i64 0,.int .i64 0]) Q _ #[.int .i64 290] _ _ hq2
 have hT3 : Touch (fun x=>x = P ∨ x = Q) w ((Wa.setRow P #[.slice none 0 0,.slice none 0 0,.int .i64 0,.int .i64 0]).setRow Q #[.int .i64 290]):=by
  have hs : ((Wa.setRow P #[.slice none 0 0,.slice none 0 0,.int .i64 0,.int .i64 0]).setRow Q #[.int .i64 290]).heap.size = (Wa.setRow P #[.slice none 0 0,.slice none 0 0,.int .i64 0,.int .i64 0]).heap.size:=by simp
  exact hT2.step (show Touch (fun x=>x = Q) (Wa.setRow P #[.slice none 0 0,.slice none 0 0,.int .i64 0,.int .i64 0]) ((Wa.setRow P #[.slice none 0 0,.slice none 0 0,.int .i64 0,.int .i64 0]).setRow Q #[.int .i64 290]) from ⟨rfl,rfl,rfl,by rw [hs];exact Nat.le_refl _,fun b _ hb=>setRow_other _ Q b _ hb⟩) (fun x _ h=>.inr h)
 have HF:=yh (And.intro hp3 (And.intro hq3 hT3))
 clear hB hp1 hq1 h4 hT1 hq2 hp2 hT2 hp3 hq3 hT3
 refine callsD_of_wpS Tryz.func104 rfl fun c₀ cs hu=>?_
 apply wpS_seq
 apply wpS_region
 simp [wpOpsS,go_sem,recoverD,hu,Tryz.ntmps104,Exit.thenS]
 have e : (#[.pointer (some ⟨P,0,none⟩),.pointer (some ⟨Q,0,none⟩)] ++ (Array.replicate 11 undef).setIfInBounds 4 badV : Array Value) = #[.pointer (some ⟨P,0,none⟩),.pointer (some ⟨Q,0,none⟩),undef,undef,undef,undef,badV,undef,undef,undef,undef,undef,undef]:=rfl
 rw [e]
 clear e
 refine wpS_of_wp ?_
 have HU:=yh hu
 clear hu
 go_wp2_with (first
  | ((with_reducible apply Kal);exact HL.out;exact rfl)
  | ((with_reducible apply Kae);exact HS.out;exact rfl;exact rfl)
  | ((with_reducible apply Kae);exact HE.out;exact rfl;exact rfl))
 refine ⟨rfl,.panicking [{ v:=badV,recovered:=true }],?_,_,results_none rfl _ _ _,rfl,rfl,HF.out⟩
 rfl
theorem idleV (p q : Addr) (w : World) :
 CallsD Tryz.prog 121 #[.pointer (some p),.pointer (some q)] .returning w fun e u' w'=>e = .returned (.tuple #[]) ∧ u' = .returning ∧ w' = w:=by
 have hnil : ∀ w : World,(binOp BinOp.eql 20 .nilIface .nilIface).run Tryz.prog w = .ok (.bool true) w:=fun _=>by kernel_rfl
 refine callsD_of_wpS Tryz.func121 rfl fun c₀ cs hu=>?_
 apply wpS_seq
 apply wpS_region
 simp [wpOpsS,go_sem,recoverD,hu,Tryz.ntmps121,Exit.thenS]
 have e : (#[.pointer (some p),.pointer (some q)] ++ (Array.replicate 11 undef).setIfInBounds 4 Value.nilIface : Array Value) = #[.pointer (some p),.pointer (some q),undef,undef,undef,undef,.nilIface,undef,undef,undef,undef,undef,undef]:=rfl
 rw [e]
 clear e
 refine wpS_of_wp ?_
 have HU:=yh hu
 clear hu
 go_wp2
 refine ⟨rfl,.returning,?_,_,results_none rfl _ _ _,rfl,rfl,rfl⟩
 have hu:=HU.out
 cases c₀
 simp_all
theorem caughtV {w : World} {P Q : Nat} {z : Array Value} {n : Int} (hp : w.heap[P]? = some (.cells z 48 (0,0))) (hz : z.size = 6) (hq : w.heap[Q]? = some (.cells #[.int .i64 n] 29 (0,0))) (hne : P ≠ Q) :
 CallsD Tryz.prog 121 #[.pointer (some ⟨P,0,none⟩),.pointer (some ⟨Q,0,none⟩)] (.panicking [{ v:=badV,recovered:=false }]) w fun e u' w' =>
  e = .returned (.tuple #[]) ∧ u' = .panicking [{ v:=badV,recovered:=true }] ∧ w'.heap[P]? = some (.cells #[.int .i64 0,.bool false,.int .i64 0,.string ⟨#[]⟩,.slice none 0 0,.slice none 0 0] 48 (0,0)) ∧ w'.heap[Q]? = some (.cells #[.int .i64 290] 29 (0,0)) ∧ Touch (fun x=>x = P ∨ x = Q) w w':=by
 have hnil : ∀ w : World,(binOp BinOp.eql 20 badV .nilIface).run Tryz.prog w = .ok (.bool false) w:=fun _=>by rfl
 have hta : ∀ w : World,(Instr.typeAssert badV 20 154 true).run Tryz.prog w = .ok (.tuple #[.agg #[],.bool true]) w:=fun _=>by rfl
 have hB : Below w.heap.size w ((w.alloc (.cells #[] 154)).alloc (.cells #[.int .i64 0,.bool false,.int .i64 0,.string ⟨#[]⟩,.slice none 0 0,.slice none 0 0] 48)):=(Kac _).alloc (by simp) _
 have hlp:=(Array.getElem?_eq_some_iff.1 hp).1
 have hlq:=(Array.getElem?_eq_some_iff.1 hq).1
 have hp1:=Kai hB hlp hp
 have hq1:=Kai hB hlq hq
 have h4 : ((w.alloc (.cells #[] 154)).alloc (.cells #[.int .i64 0,.bool false,.int .i64 0,.string ⟨#[]⟩,.slice none 0 0,.slice none 0 0] 48)).heap[w.heap.size + 1]? = some (.cells #[.int .i64 0,.bool false,.int .i64 0,.string ⟨#[]⟩,.slice none 0 0,.slice none 0 0] 48 (0,0)):=by
  simp only [Kam,World.size_alloc];rw [if_pos trivial]
 have hT1 : Touch (fun x=>x = P ∨ x = Q) w ((w.alloc (.cells #[] 154)).alloc (.cells #[.int .i64 0,.bool false,.int .i64 0,.string ⟨#[]⟩,.slice none 0 0,.slice none 0 0] 48)):=((Touch.refl _ _).alloc _).alloc _
 have HL:=yh (vt_val.get (c:=#[.int .i64 0,.bool false,.int .i64 0,.string ⟨#[]⟩,.slice none 0 0,.slice none 0 0]) rfl h4)
 have HS:=yh (vt_val.put (c:=#[.int .i64 0,.bool false,.int .i64 0,.string ⟨#[]⟩,.slice none 0 0,.slice none 0 0]) rfl (by simp [Value.oneCell']) hp1 hz)
 generalize hWa : (w.alloc (.cells #[] 154)).alloc (.cells #[.int .i64 0,.bool false,.int .i64 0,.string ⟨#[]⟩,.slice none 0 0,.slice none 0 0] 48) = Wa at *
 have hq2:=(setRow_other Wa P Q #[.int .i64 0,.bool false,.int .i64 0,.string ⟨#[]⟩,.slice none 0 0,.slice none 0 0] (fun e=>hne e.symm)).trans hq1
 have hp2:=setRow_heap Wa P z #[.int .i64 0,.bool false,.int .i64 0,.string ⟨#[]⟩,.slice none 0 0,.slice none 0 0] _ _ hp1
 have hT2 : Touch (fun x=>x = P ∨ x = Q) w (Wa.setRow P #[.int .i64 0,.bool false,.int .i64 0,.string ⟨#[]⟩,.slice none 0 0,.slice none 0 0]):=by
  have hs : (Wa.setRow P #[.int .i64 0,.bool false,.int .i64 0,.string ⟨#[]⟩,.slice none 0 0,.slice none 0 0]).heap.size = Wa.heap.size:=by simp
  exact hT1.step (show Touch (fun x=>x = P) Wa (Wa.setRow P #[.int .i64 0,.bool false,.int .i64 0,.string ⟨#[]⟩,.slice none 0 0,.slice none 0 0]) from ⟨rfl,rfl,rfl,by rw [hs];exact Nat.le_refl _,fun b _ hb=>setRow_other Wa P b #[.int .i64 0,.bool false,.int .i64 0,.string ⟨#[]⟩,.slice none 0 0,.slice none 0 0] hb⟩) (fun x _ h=>.inl h)
 have HE:=yh (Kb9.put (c:=#[.int .i64 290]) rfl (by simp [Value.oneCell']) hq2 rfl)
 have hp3:=(setRow_other (Wa.setRow P #[.int .i64 0,.bool false,.int .i64 0,.string ⟨#[]⟩,.slice none 0 0,.slice none 0 0]) Q P #[.int .i64 290] hne).trans hp2
 have hq3:=setRow_heap (Wa.setRow P #[.int .i64 0,.bool false,.int .i64 0,.string ⟨#[]⟩,.slice none 0 0,.slice none 0 0]) Q _ #[.int .i64 290] _ _ hq2
 have hT3 : Touch (fun x=>x = P ∨ x = Q) w ((Wa.setRow P #[.int .i64 0,.bool false,.int .i64 0,.string ⟨#[]⟩,.slice none 0 0,.slice none 0 0]).setRow Q #[.int .i64 290]):=by
  have hs : ((Wa.setRow P #[.int .i64 0,.bool false,.int .i64 0,.string ⟨#[]⟩,.slice none 0 0,.slice none 0 0]).setRow Q #[.int .i64 290]).heap.size = (Wa.setRow P #[.int .i64 0,.bool false,.int .i64 0,.string ⟨#[]⟩,.slice none 0 0,.slice none 0 0]).heap.size:=by simp
  exact hT2.step (show Touch (fun x=>x = Q) (Wa.setRow P #[.int .i64 0,.bool false,.int .i64 0,.string ⟨#[]⟩,.slice none 0 0,.slice none 0 0]) ((Wa.setRow P #[.int .i64 0,.bool false,.int .i64 0,.string ⟨#[]⟩,.slice none 0 0,.slice none 0 0]).setRow Q #[.int .i64 290]) from ⟨rfl,rfl,rfl,by rw [hs];exact Nat.le_refl _,fun b _ hb=>setRow_other _ Q b _ hb⟩) (fun x _ h=>.inr h)
 have HF:=yh (And.intro hp3 (And.intro hq3 hT3))
 clear hB hp1 hq1 h4 hT1 hq2 hp2 hT2 hp3 hq3 hT3
 refine callsD_of_wpS Tryz.func121 rfl fun c₀ cs hu=>?_
 apply wpS_seq
 apply wpS_region
 simp [wpOpsS,go_sem,recoverD,hu,Tryz.ntmps121,Exit.thenS]
 have e : (#[.pointer (some ⟨P,0,none⟩),.pointer (some ⟨Q,0,none⟩)] ++ (Array.replicate 11 undef).setIfInBounds 4 badV : Array Value) = #[.pointer (some ⟨P,0,none⟩),.pointer (some ⟨Q,0,none⟩),undef,undef,undef,undef,badV,undef,undef,undef,undef,undef,undef]:=rfl
 rw [e]
 clear e
 refine wpS_of_wp ?_
 have HU:=yh hu
 clear hu
 go_wp2_with (first
  | ((with_reducible apply Kal);exact HL.out;exact rfl)
  | ((with_reducible apply Kae);exact HS.out;exact rfl;exact rfl)
  | ((with_reducible apply Kae);exact HE.out;exact rfl;exact rfl))
 refine ⟨rfl,.panicking [{ v:=badV,recovered:=true }],?_,_,results_none rfl _ _ _,rfl,rfl,HF.out⟩
 rfl
theorem idleN (p q : Addr) (w : World) :
 CallsD Tryz.prog 139 #[.pointer (some p),.pointer (some q)] .returning w fun e u' w'=>e = .returned (.tuple #[]) ∧ u' = .returning ∧ w' = w:=by
 have hnil : ∀ w : World,(binOp BinOp.eql 20 .nilIface .nilIface).run Tryz.prog w = .ok (.bool true) w:=fun _=>by kernel_rfl
 refine callsD_of_wpS Tryz.func139 rfl fun c₀ cs hu=>?_
 apply wpS_seq
 apply wpS_region
 simp [wpOpsS,go_sem,recoverD,hu,Tryz.ntmps139,Exit.thenS]
 have e : (#[.pointer (some p),.pointer (some q)] ++ (Array.replicate 11 undef).setIfInBounds 4 Value.nilIface : Array Value) = #[.pointer (some p),.pointer (some q),undef,undef,undef,undef,.nilIface,undef,undef,undef,undef,undef,undef]:=rfl
 rw [e]
 clear e
 refine wpS_of_wp ?_
 have HU:=yh hu
 clear hu
 go_wp2
 refine ⟨rfl,.returning,?_,_,results_none rfl _ _ _,rfl,rfl,rfl⟩
 have hu:=HU.out
 cases c₀
 simp_all
theorem caughtN {w : World} {P Q : Nat} {z : Array Value} {n : Int} (hp : w.heap[P]? = some (.cells z 79 (0,0))) (hz : z.size = 1) (hq : w.heap[Q]? = some (.cells #[.int .i64 n] 29 (0,0))) (hne : P ≠ Q) :
 CallsD Tryz.prog 139 #[.pointer (some ⟨P,0,none⟩),.pointer (some ⟨Q,0,none⟩)] (.panicking [{ v:=badV,recovered:=false }]) w fun e u' w' =>
  e = .returned (.tuple #[]) ∧ u' = .panicking [{ v:=badV,recovered:=true }] ∧ w'.heap[P]? = some (.cells #[.int .u64 0] 79 (0,0)) ∧ w'.heap[Q]? = some (.cells #[.int .i64 290] 29 (0,0)) ∧ Touch (fun x=>x = P ∨ x = Q) w w':=by
 have hnil : ∀ w : World,(binOp BinOp.eql 20 badV .nilIface).run Tryz.prog w = .ok (.bool false) w:=fun _=>by rfl
 have hta : ∀ w : World,(Instr.typeAssert badV 20 154 true).run Tryz.prog w = .ok (.tuple #[.agg #[],.bool true]) w:=fun _=>by rfl
 have hB : Below w.heap.size w (w.alloc (.cells #[] 154)):=Kac _
 have hlp:=(Array.getElem?_eq_some_iff.1 hp).1
 have hlq:=(Array.getElem?_eq_some_iff.1 hq).1
 have hp1:=Kai hB hlp hp
 have hq1:=Kai hB hlq hq
 have hT1 : Touch (fun x=>x = P ∨ x = Q) w (w.alloc (.cells #[] 154)):=(Touch.refl _ _).alloc _
 have HS:=yh (vt_u64.put (c:=#[.int .u64 0]) rfl (by simp [Value.oneCell']) hp1 hz)
 generalize hWa : w.alloc (.cells #[] 154) = Wa at *
 have hq2:=(setRow_other Wa P Q #[.int .u64 0] (fun e=>hne e.symm)).trans hq1
 have hp2:=setRow_heap Wa P z #[.int .u64 0] _ _ hp1
 have hT2 : Touch (fun x=>x = P ∨ x = Q) w (Wa.setRow P #[.int .u64 0]):=by
  have hs : (Wa.setRow P #[.int .u64 0]).heap.size = Wa.heap.size:=by simp
  exact hT1.step (show Touch (fun x=>x = P) Wa (Wa.setRow P #[.int .u64 0]) from ⟨rfl,rfl,rfl,by rw [hs];exact Nat.le_refl _,fun b _ hb=>setRow_other Wa P b #[.int .u64 0] hb⟩) (fun x _ h=>.inl h)
 have HE:=yh (Kb9.put (c:=#[.int .i64 290]) rfl (by simp [Value.oneCell']) hq2 rfl)
 have hp3:=(setRow_other (Wa.setRow P #[.int .u64 0]) Q P #[.int .i64 290] hne).trans hp2
 have hq3:=setRow_heap (Wa.setRow P #[.int .u64 0]) Q _ #[.int .i64 290] _ _ hq2
 have hT3 : Touch (fun x=>x = P ∨ x = Q) w ((Wa.setRow P #[.int .u64 0]).setRow Q #[.int .i64 290]):=by
  have hs : ((Wa.setRow P #[.int .u64 0]).setRow Q #[.int .i64 290]).heap.size = (Wa.setRow P #[.int .u64 0]).heap.size:=by simp
  exact hT2.step (show Touch (fun x=>x = Q) (Wa.setRow P #[.int .u64 0]) ((Wa.setRow P #[.int .u64 0]).setRow Q #[.int .i64 290]) from ⟨rfl,rfl,rfl,by rw [hs];exact Nat.le_refl _,fun b _ hb=>setRow_other _ Q b _ hb⟩) (fun x _ h=>.inr h)
 have HF:=yh (And.intro hp3 (And.intro hq3 hT3))
 clear hB hp1 hq1 hT1 hq2 hp2 hT2 hp3 hq3 hT3
 refine callsD_of_wpS Tryz.func139 rfl fun c₀ cs hu=>?_
 apply wpS_seq
 apply wpS_region
 simp [wpOpsS,go_sem,recoverD,hu,Tryz.ntmps139,Exit.thenS]
 have e : (#[.pointer (some ⟨P,0,none⟩),.pointer (some ⟨Q,0,none⟩)] ++ (Array.replicate 11 undef).setIfInBounds 4 badV : Array Value) = #[.pointer (some ⟨P,0,none⟩),.pointer (some ⟨Q,0,none⟩),undef,undef,undef,undef,badV,undef,undef,undef,undef,undef,undef]:=rfl
 rw [e]
 clear e
 refine wpS_of_wp ?_
 have HU:=yh hu
 clear hu
 go_wp2_with (first
  | ((with_reducible apply Kae);exact HS.out;exact rfl;exact rfl)
  | ((with_reducible apply Kae);exact HE.out;exact rfl;exact rfl))
 refine ⟨rfl,.panicking [{ v:=badV,recovered:=true }],?_,_,results_none rfl _ _ _,rfl,rfl,HF.out⟩
 rfl
theorem idleC (p q : Addr) (w : World) :
 CallsD Tryz.prog 129 #[.pointer (some p),.pointer (some q)] .returning w fun e u' w'=>e = .returned (.tuple #[]) ∧ u' = .returning ∧ w' = w:=by
 have hnil : ∀ w : World,(binOp BinOp.eql 20 .nilIface .nilIface).run Tryz.prog w = .ok (.bool true) w:=fun _=>by kernel_rfl
 refine callsD_of_wpS Tryz.func129 rfl fun c₀ cs hu=>?_
 apply wpS_seq
 apply wpS_region
 simp [wpOpsS,go_sem,recoverD,hu,Tryz.ntmps129,Exit.thenS]
 have e : (#[.pointer (some p),.pointer (some q)] ++ (Array.replicate 11 undef).setIfInBounds 4 Value.nilIface : Array Value) = #[.pointer (some p),.pointer (some q),undef,undef,undef,undef,.nilIface,undef,undef,undef,undef,undef,undef]:=rfl
 rw [e]
 clear e
 refine wpS_of_wp ?_
 have HU:=yh hu
 clear hu
 go_wp2
 refine ⟨rfl,.returning,?_,_,results_none rfl _ _ _,rfl,rfl,rfl⟩
 have hu:=HU.out
 cases c₀
 simp_all
theorem caughtC {w : World} {P Q : Nat} {z : Array Value} {n : Int} (hp : w.heap[P]? = some (.cells z 58 (0,0))) (hz : z.size = 1) (hq : w.heap[Q]? = some (.cells #[.int .i64 n] 29 (0,0))) (hne : P ≠ Q) :
 CallsD Tryz.prog 129 #[.pointer (some ⟨P,0,none⟩),.pointer (some ⟨Q,0,none⟩)] (.panicking [{ v:=badV,recovered:=false }]) w fun e u' w' =>
  e = .returned (.tuple #[]) ∧ u' = .panicking [{ v:=badV,recovered:=true }] ∧ w'.heap[P]? = some (.cells #[.slice none 0 0] 58 (0,0)) ∧ w'.heap[Q]? = some (.cells #[.int .i64 290] 29 (0,0)) ∧ Touch (fun x=>x = P ∨ x = Q) w w':=by
 have hnil : ∀ w : World,(binOp BinOp.eql 20 badV .nilIface).run Tryz.prog w = .ok (.bool false) w:=fun _=>by rfl
 have hta : ∀ w : World,(Instr.typeAssert badV 20 154 true).run Tryz.prog w = .ok (.tuple #[.agg #[],.bool true]) w:=fun _=>by rfl
 have hB : Below w.heap.size w (w.alloc (.cells #[] 154)):=Kac _
 have hlp:=(Array.getElem?_eq_some_iff.1 hp).1
 have hlq:=(Array.getElem?_eq_some_iff.1 hq).1
 have hp1:=Kai hB hlp hp
 have hq1:=Kai hB hlq hq
 have hT1 : Touch (fun x=>x = P ∨ x = Q) w (w.alloc (.cells #[] 154)):=(Touch.refl _ _).alloc _
 have HS:=yh (Kcr.put (c:=#[.slice none 0 0]) rfl (by simp [Value.oneCell']) hp1 hz)
 generalize hWa : w.alloc (.cells #[] 154) = Wa at *
 have hq2:=(setRow_other Wa P Q #[.slice none 0 0] (fun e=>hne e.symm)).trans hq1
 have hp2:=setRow_heap Wa P z #[.slice none 0 0] _ _ hp1
 have hT2 : Touch (fun x=>x = P ∨ x = Q) w (Wa.setRow P #[.slice none 0 0]):=by
  have hs : (Wa.setRow P #[.slice none 0 0]).heap.size = Wa.heap.size:=by simp
  exact hT1.step (show Touch (fun x=>x = P) Wa (Wa.setRow P #[.slice none 0 0]) from ⟨rfl,rfl,rfl,by rw [hs];exact Nat.le_refl _,fun b _ hb=>setRow_other Wa P b #[.slice none 0 0] hb⟩) (fun x _ h=>.inl h)
 have HE:=yh (Kb9.put (c:=#[.int .i64 290]) rfl (by simp [Value.oneCell']) hq2 rfl)
 have hp3:=(setRow_other (Wa.setRow P #[.slice none 0 0]) Q P #[.int .i64 290] hne).trans hp2
 have hq3:=setRow_heap (Wa.setRow P #[.slice none 0 0]) Q _ #[.int .i64 290] _ _ hq2
 have hT3 : Touch (fun x=>x = P ∨ x = Q) w ((Wa.setRow P #[.slice none 0 0]).setRow Q #[.int .i64 290]):=by
  have hs : ((Wa.setRow P #[.slice none 0 0]).setRow Q #[.int .i64 290]).heap.size = (Wa.setRow P #[.slice none 0 0]).heap.size:=by simp
  exact hT2.step (show Touch (fun x=>x = Q) (Wa.setRow P #[.slice none 0 0]) ((Wa.setRow P #[.slice none 0 0]).setRow Q #[.int .i64 290]) from ⟨rfl,rfl,rfl,by rw [hs];exact Nat.le_refl _,fun b _ hb=>setRow_other _ Q b _ hb⟩) (fun x _ h=>.inr h)
 have HF:=yh (And.intro hp3 (And.intro hq3 hT3))
 clear hB hp1 hq1 hT1 hq2 hp2 hT2 hp3 hq3 hT3
 refine callsD_of_wpS Tryz.func129 rfl fun c₀ cs hu=>?_
 apply wpS_seq
 apply wpS_region
 simp [wpOpsS,go_sem,recoverD,hu,Tryz.ntmps129,Exit.thenS]
 have e : (#[.pointer (some ⟨P,0,none⟩),.pointer (some ⟨Q,0,none⟩)] ++ (Array.replicate 11 undef).setIfInBounds 4 badV : Array Value) = #[.pointer (some ⟨P,0,none⟩),.pointer (some ⟨Q,0,none⟩),undef,undef,undef,undef,badV,undef,undef,undef,undef,undef,undef]:=rfl
 rw [e]
 clear e
 refine wpS_of_wp ?_
 have HU:=yh hu
 clear hu
 go_wp2_with (first
  | ((with_reducible apply Kae);exact HS.out;exact rfl;exact rfl)
  | ((with_reducible apply Kae);exact HE.out;exact rfl;exact rfl))
 refine ⟨rfl,.panicking [{ v:=badV,recovered:=true }],?_,_,results_none rfl _ _ _,rfl,rfl,HF.out⟩
 rfl
structure RdMid {α : Type} (TY : TypeId) (w W : World) (X : Nat → Prop) (OK : World → α → Array Value → Prop) (Jn : World → Prop) (x : α) (cs : Array Value) (W3 : World) : Prop where
 size : W.heap.size + 3 ≤ W3.heap.size
 b : Below w.heap.size w W3
 keep : ∀ b,b < W.heap.size → ¬ X b → W3.heap[b]? = W.heap[b]?
 q6 : W3.heap[W.heap.size]? = some (.cells cs TY (0,0))
 q7 : W3.heap[W.heap.size + 1]? = some (.cells #[.int .i64 0] 29 (0,0))
 ok : OK W3 x cs
 jn : Jn W3
section
variable {α : Type} {TY : TypeId} {w W W2 W3 W4 : World} {X : Nat → Prop} {OK : World → α → Array Value → Prop} {Jn : World → Prop} {x : α} {cs cz z : Array Value} {mk : Array Value → Value} {fails : Prop} {r : Option α}
theorem RdMid.step (h : RdMid TY w W X OK Jn x cs W3) (hw : w.heap.size ≤ W.heap.size) (hOKk : ∀ (W1 W2 : World) x cs,OK W1 x cs → (∀ b,W.heap.size + 3 ≤ b → b < W1.heap.size → W2.heap[b]? = W1.heap[b]?) → OK W2 x cs) (hJn : ∀ W1 W2 : World,Jn W1 → (∀ b,b < W.heap.size → W2.heap[b]? = W1.heap[b]?) → Jn W2)
 (g : Touch (fun b=>b = W.heap.size ∨ b = W.heap.size + 1) W3 W4) (q6 : W4.heap[W.heap.size]? = some (.cells cs TY (0,0))) (q7 : W4.heap[W.heap.size + 1]? = some (.cells #[.int .i64 0] 29 (0,0))) : RdMid TY w W X OK Jn x cs W4 :=
 ⟨Nat.le_trans h.size g.size,g.below h.b (fun b hb he=>by omega) (by have:=h.size;omega),
   fun b hb hx=>(g.block b (by have:=h.size;omega) (by omega)).trans (h.keep b hb hx),q6,q7,
   hOKk _ _ _ _ h.ok fun b h1 h2=>g.block b h2 (by omega),hJn _ _ h.jn fun b hb=>g.block b (by have:=h.size;omega) (by omega)⟩
theorem RdMid.below (h : RdMid TY w W X OK Jn x cs W3) (hw : w.heap.size ≤ W.heap.size) (hOKk : ∀ (W1 W2 : World) x cs,OK W1 x cs → (∀ b,W.heap.size + 3 ≤ b → b < W1.heap.size → W2.heap[b]? = W1.heap[b]?) → OK W2 x cs) (hJn : ∀ W1 W2 : World,Jn W1 → (∀ b,b < W.heap.size → W2.heap[b]? = W1.heap[b]?) → Jn W2)
 (g : Below W3.heap.size W3 W4) : RdMid TY w W X OK Jn x cs W4 :=
 h.step hw hOKk hJn (Touch.of_below g fun b h1 h2=>absurd h1 (by omega)) (Kai g (by have:=h.size;omega) h.q6) (Kai g (by have:=h.size;omega) h.q7)
theorem touch_row (W3 : World) (b : Nat) (c : Array Value) {S : Nat → Prop} (hS : S b) : Touch S W3 (W3.setRow b c) :=
 ⟨rfl,rfl,rfl,by simp,fun y _ hy=>setRow_other W3 b y c (fun e=>hy (e ▸ hS))⟩
theorem RdMid.set6 (h : RdMid TY w W X OK Jn x cs W3) (hw : w.heap.size ≤ W.heap.size) (hOKk : ∀ (W1 W2 : World) x cs,OK W1 x cs → (∀ b,W.heap.size + 3 ≤ b → b < W1.heap.size → W2.heap[b]? = W1.heap[b]?) → OK W2 x cs) (hJn : ∀ W1 W2 : World,Jn W1 → (∀ b,b < W.heap.size → W2.heap[b]? = W1.heap[b]?) → Jn W2) : RdMid TY w W X OK Jn x cs (W3.setRow W.heap.size cs) :=
 h.step hw hOKk hJn (touch_row W3 _ _ (.inl rfl)) (setRow_heap W3 _ _ cs _ _ h.q6) ((setRow_other W3 _ _ cs (by omega)).trans h.q7)
theorem RdMid.set7 (h : RdMid TY w W X OK Jn x cs W3) (hw : w.heap.size ≤ W.heap.size) (hOKk : ∀ (W1 W2 : World) x cs,OK W1 x cs → (∀ b,W.heap.size + 3 ≤ b → b < W1.heap.size → W2.heap[b]? = W1.heap[b]?) → OK W2 x cs) (hJn : ∀ W1 W2 : World,Jn W1 → (∀ b,b < W.heap.size → W2.heap[b]? = W1.heap[b]?) → Jn W2) : RdMid TY w W X OK Jn x cs (W3.setRow (W.heap.size + 1) #[.int .i64 0]) :=
 h.step hw hOKk hJn (touch_row W3 _ _ (.inr rfl)) ((setRow_other W3 _ _ _ (by omega)).trans h.q6) (setRow_heap W3 _ _ _ _ _ h.q7)
theorem RdMid.first (hw : w.heap.size ≤ W.heap.size) (hX : ∀ b,X b → b < W.heap.size) (hOKk : ∀ (W1 W2 : World) x cs,OK W1 x cs → (∀ b,W.heap.size + 3 ≤ b → b < W1.heap.size → W2.heap[b]? = W1.heap[b]?) → OK W2 x cs) (hJn : ∀ W1 W2 : World,Jn W1 → (∀ b,b < W.heap.size → W2.heap[b]? = W1.heap[b]?) → Jn W2)
 (hs2 : W.heap.size + 3 ≤ W2.heap.size) (hb2 : Below w.heap.size w W2) (hk : ∀ b,b < W.heap.size → ¬ X b → W2.heap[b]? = W.heap[b]?) (h6 : W2.heap[W.heap.size]? = some (.cells z TY (0,0))) (h7 : W2.heap[W.heap.size + 1]? = some (.cells #[.int .i64 0] 29 (0,0))) (ho : OK W2 x cs) (hj : Jn W2) :
 RdMid TY w W X OK Jn x cs (W2.setRow W.heap.size cs):=by
 have g:=touch_row W2 W.heap.size cs (S:=fun b=>b = W.heap.size ∨ b = W.heap.size + 1) (.inl rfl)
 exact ⟨Nat.le_trans hs2 g.size,g.below hb2 (fun b hb he=>by omega) (by omega),fun b hb hx=>(g.block b (by omega) (by omega)).trans (hk b hb hx),setRow_heap W2 _ _ cs _ _ h6,(setRow_other W2 _ _ cs (by omega)).trans h7,hOKk _ _ _ _ ho fun b h1 h2=>g.block b h2 (by omega),hJn _ _ hj fun b hb=>g.block b (by omega) (by omega)⟩
theorem RdMid.bad (h : RdMid TY w W X OK Jn x cs W3) (hw : w.heap.size ≤ W.heap.size) (g : Touch (fun b=>b = W.heap.size ∨ b = W.heap.size + 1) W3 W4) (hr : r = none) (hf : ¬ fails) : ReadPost w W X mk z OK Jn fails r (.returned (.tuple #[mk z,.int .i64 290])) W4:=by
 subst hr
 exact ⟨g.below h.b (fun b hb he=>by omega) (by have:=h.size;omega),by have:=h.size;have:=g.size;omega,fun b hb hx=>(g.block b (by have:=h.size;omega) (by omega)).trans (h.keep b hb hx),rfl,fun k=>absurd k hf⟩
theorem RdMid.good (h : RdMid TY w W X OK Jn x cs W3) (hr : r = some x) : ReadPost w W X mk z OK Jn fails r (.returned (.tuple #[mk cs,.int .i64 0])) W3:=by
 subst hr
 exact ⟨h.b,by have:=h.size;omega,h.keep,cs,rfl,h.ok,h.jn⟩
end
theorem leavesG_bad {fn : Func} {tmps : Array Value} {R : Ending → World → Prop} {W2 : World} {z : Array Value} {n : Int} {B6 B7 : Nat} (h6 : W2.heap[B6]? = some (.cells z 25 (0,0))) (hz : z.size = 4) (h7 : W2.heap[B7]? = some (.cells #[.int .i64 n] 29 (0,0))) (hne : B6 ≠ B7)
 (hres : fn.results = #[.cell 6 25,.cell 7 29]) (t6 : tmps.getD 6 undef = .pointer (some ⟨B6,0,none⟩)) (t7 : tmps.getD 7 undef = .pointer (some ⟨B7,0,none⟩))
 (hR : ∀ W3,Touch (fun x=>x = B6 ∨ x = B7) W2 W3 → R (.returned (.tuple #[.agg #[.slice none 0 0,.slice none 0 0,.int .i64 0,.int .i64 0],.int .i64 290])) W3) :
 Leaves Tryz.prog fn tmps R [{ target:=.fn (.func 104) #[.pointer (some ⟨B6,0,none⟩),.pointer (some ⟨B7,0,none⟩)],args:=#[] }] (.panicking [{ v:=badV,recovered:=false }]) W2:=by
 refine leaves_cons (f:=104) (args:=#[.pointer (some ⟨B6,0,none⟩),.pointer (some ⟨B7,0,none⟩)]) (by simp) (Kbe Tryz.func104 rfl rfl _ _) ((caughtG h6 hz h7 hne).mono ?_)
 rintro e u' w' ⟨rfl,rfl,g1,g2,gT⟩
 exact ⟨_,Kbw hres _ _ ⟨B6,0,none⟩ ⟨B7,0,none⟩ (.agg #[.slice none 0 0,.slice none 0 0,.int .i64 0,.int .i64 0]) (.int .i64 290) t6 t7 (Kdd.get rfl g1) (Kb9.get rfl g2),hR _ gT⟩
theorem leavesG_ok {fn : Func} {tmps : Array Value} {R : Ending → World → Prop} {W2 : World} {z : Array Value} {B6 B7 : Nat} (h6 : W2.heap[B6]? = some (.cells z 25 (0,0))) (hz : z.size = 4) (h7 : W2.heap[B7]? = some (.cells #[.int .i64 0] 29 (0,0)))
 (hres : fn.results = #[.cell 6 25,.cell 7 29]) (t6 : tmps.getD 6 undef = .pointer (some ⟨B6,0,none⟩)) (t7 : tmps.getD 7 undef = .pointer (some ⟨B7,0,none⟩))
 (hR : R (.returned (.tuple #[.agg z,.int .i64 0])) W2) :
 Leaves Tryz.prog fn tmps R [{ target:=.fn (.func 104) #[.pointer (some ⟨B6,0,none⟩),.pointer (some ⟨B7,0,none⟩)],args:=#[] }] .returning W2:=by
 refine leaves_cons (f:=104) (args:=#[.pointer (some ⟨B6,0,none⟩),.pointer (some ⟨B7,0,none⟩)]) (by simp) (Kbe Tryz.func104 rfl rfl _ _) ((idleG _ _ _).mono ?_)
 rintro e u' w' ⟨rfl,rfl,rfl⟩
 exact ⟨_,Kbw hres _ _ ⟨B6,0,none⟩ ⟨B7,0,none⟩ (.agg z) (.int .i64 0) t6 t7 (Kdd.get hz h6) (Kb9.get rfl h7),hR⟩
theorem readG_any {α : Type} (d : Dec α) (okB : α → Bool) {w W : World} {p : Option Addr} {c : Nat} {bs : List UInt8} (hb : Below w.heap.size w W) (hrd : RdB w (.slice p bs.length c) bs) (hlb : bs.length ≤ 1000000) (X : Nat → Prop) (hX : ∀ b,X b → b < W.heap.size)
 (Jn : World → Prop) (hJn : ∀ W1 W2 : World,Jn W1 → (∀ b,b < W.heap.size → W2.heap[b]? = W1.heap[b]?) → Jn W2)
 (OK : World → α → Array Value → Prop) (hOKs : ∀ W1 x cs,OK W1 x cs → cs.size = 4 ∧ ∀ u ∈ cs.toList,u.oneCell' = true)
 (hOKk : ∀ (W1 W2 : World) x cs,OK W1 x cs → (∀ b,W.heap.size + 3 ≤ b → b < W1.heap.size → W2.heap[b]? = W1.heap[b]?) → OK W2 x cs)
 (one : ∀ W1 : World,W1.heap.size = W.heap.size + 3 → RSt 141 w W1 (W.heap.size + 2) bs → (∀ b,b < W.heap.size → W1.heap[b]? = W.heap[b]?) → Calls Tryz.prog 50 #[.pointer (some ⟨W.heap.size + 2,0,none⟩)] W1 fun e W2 =>
   W1.heap.size ≤ W2.heap.size ∧ Below w.heap.size w W2 ∧ (∀ b,b < W1.heap.size → b ≠ W.heap.size + 2 → ¬ X b → W2.heap[b]? = W1.heap[b]?) ∧ ((d bs = none ∧ e = given ∧ ∀ b,X b → W2.heap[b]? = W1.heap[b]?) ∨ ∃ x s cs,d bs = some (x,s) ∧ e = .returned (.agg cs) ∧ OK W2 x cs ∧ RSt 141 w W2 (W.heap.size + 2) s ∧ s.length ≤ bs.length ∧ Jn W2))
 (fine : ∀ W1 x s cs,d bs = some (x,s) → OK W1 x cs → Below w.heap.size w W1 → Calls Tryz.prog 56 #[.agg cs] W1 fun e W2=>e = .returned (.bool (okB x)) ∧ Below W1.heap.size W1 W2) :
 Calls Tryz.prog 49 #[.slice p bs.length c,.func (.func 50) #[] #[],.func (.func 56) #[] #[]] W (ReadPost w W X .agg #[.slice none 0 0,.slice none 0 0,.int .i64 0,.int .i64 0] OK Jn (d bs = none) (readW d okB bs)):=by
 have zl : (bs.length : Int) ≤ 1000000:=by omega
 have hws:=hb.size
 have hb1 : Below W.heap.size W (((W.alloc (.cells #[.slice none 0 0,.slice none 0 0,.int .i64 0,.int .i64 0] 25)).alloc (.cells #[.int .i64 0] 29)).alloc (.cells #[.slice p bs.length c] 141)):=((Kac _).alloc (by simp) _).alloc (by simp;omega) _
 have p6 : (((W.alloc (.cells #[.slice none 0 0,.slice none 0 0,.int .i64 0,.int .i64 0] 25)).alloc (.cells #[.int .i64 0] 29)).alloc (.cells #[.slice p bs.length c] 141)).heap[W.heap.size]? = some (.cells #[.slice none 0 0,.slice none 0 0,.int .i64 0,.int .i64 0] 25 (0,0)):=by
  simp only [Kam,World.size_alloc];rw [if_neg (by omega),if_neg (by omega),if_pos trivial]
 have p7 : (((W.alloc (.cells #[.slice none 0 0,.slice none 0 0,.int .i64 0,.int .i64 0] 25)).alloc (.cells #[.int .i64 0] 29)).alloc (.cells #[.slice p bs.length c] 141)).heap[W.heap.size + 1]? = some (.cells #[.int .i64 0] 29 (0,0)):=by
  simp only [Kam,World.size_alloc];rw [if_neg (by omega),if_pos trivial]
 have p8 : (((W.alloc (.cells #[.slice none 0 0,.slice none 0 0,.int .i64 0,.int .i64 0] 25)).alloc (.cells #[.int .i64 0] 29)).alloc (.cells #[.slice p bs.length c] 141)).heap[W.heap.size + 2]? = some (.cells #[.slice p bs.length c] 141 (0,0)):=by
  have e : W.heap.size + 2 = W.heap.size + 1 + 1:=rfl
  rw [e];simp only [Kam,World.size_alloc];rw [if_pos trivial]
 have hsz : (((W.alloc (.cells #[.slice none 0 0,.slice none 0 0,.int .i64 0,.int .i64 0] 25)).alloc (.cells #[.int .i64 0] 29)).alloc (.cells #[.slice p bs.length c] 141)).heap.size = W.heap.size + 3:=by simp
 have hone:=one _ hsz ⟨Kaa hb hb1,by omega,p,c,p8,hrd⟩ (fun b hbb=>hb1.block b hbb)
 have HO:=yh hone
 have HP:=yh (And.intro hb1 (And.intro p6 (And.intro p7 hsz)))
 have HFN:=yh fine
 have HOS:=yh hOKs
 have HOK:=yh hOKk
 have HJ:=yh hJn
 have HB0:=yh hb
 clear hone hb1 p6 p7 p8 fine hOKs hOKk hJn one hrd hb
 have back : ∀ W2 W3 : World,(((W.alloc (.cells #[.slice none 0 0,.slice none 0 0,.int .i64 0,.int .i64 0] 25)).alloc (.cells #[.int .i64 0] 29)).alloc (.cells #[.slice p bs.length c] 141)).heap.size ≤ W2.heap.size → (∀ b,b < (((W.alloc (.cells #[.slice none 0 0,.slice none 0 0,.int .i64 0,.int .i64 0] 25)).alloc (.cells #[.int .i64 0] 29)).alloc (.cells #[.slice p bs.length c] 141)).heap.size → b ≠ W.heap.size + 2 → ¬ X b → W2.heap[b]? = (((W.alloc (.cells #[.slice none 0 0,.slice none 0 0,.int .i64 0,.int .i64 0] 25)).alloc (.cells #[.int .i64 0] 29)).alloc (.cells #[.slice p bs.length c] 141)).heap[b]?) →
  W2.heap.size ≤ W3.heap.size → (∀ b,b < W2.heap.size → b ≠ W.heap.size → b ≠ W.heap.size + 1 → W3.heap[b]? = W2.heap[b]?) → W.heap.size ≤ W3.heap.size ∧ ∀ b,b < W.heap.size → ¬ X b → W3.heap[b]? = W.heap[b]?:=by
  intro W2 W3 h1 h2 h3 h4
  have hs:=HP.out.2.2.2
  exact ⟨by omega,fun b hb1 hbx=>(h4 b (by omega) (by omega) (by omega)).trans ((h2 b (by omega) (by omega) hbx).trans (HP.out.1.block b hb1))⟩
 have HBK:=yh back
 clear back
 refine calls_of_wp_defers Tryz.func49 rfl ?_
 simp only [Tryz.ntmps49,List.size_toArray,List.length_cons,List.length_nil,Nat.reduceAdd,Nat.reduceSub,Array.replicate_succ,Array.replicate_zero,List.push_toArray,List.append_toArray,List.nil_append,List.cons_append]
 have hres : Tryz.f49.results = #[.cell 6 25,.cell 7 29]:=rfl
 cases hd : d bs with
 | none =>
   have HRW:=yh (readW_none (ok:=okB) hd)
   have HD:=yh hd
   clear hd
   go_wp2_with (go_at_call 50;refine HO.out.mono ?_;rintro e W2 ⟨hs2,hb2,hk2,⟨_,rfl,hx2⟩ | ⟨x,s,cs,he,_⟩⟩;rotate_left;exact absurd he (by rw [HD.out];simp);have H2:=yh (And.intro hs2 (And.intro hb2 (And.intro hk2 hx2)));clear hs2 hb2 hk2 hx2)
   obtain ⟨hs2,hb2,hk2,hx2⟩:=H2.out
   obtain ⟨hb1,p6,p7,hsz⟩:=HP.out
   have hs3 : W.heap.size + 3 ≤ W2.heap.size:=by omega
   refine leavesG_bad (n:=0) ((hk2 _ (by omega) (by omega) (fun h=>by have:=hX _ h;omega)).trans p6) rfl ((hk2 _ (by omega) (by omega) (fun h=>by have:=hX _ h;omega)).trans p7) (by omega) hres rfl rfl fun W3 hT=>?_
   obtain ⟨g1,g2⟩:=HBK.out W2 W3 hs2 hk2 hT.size (fun b hb h6 h7=>hT.block b hb (fun h=>h.elim h6 h7))
   refine ⟨hT.below hb2 (fun b hb he=>by omega) (by omega),g1,g2,?_⟩
   rw [HRW.out]
   exact ⟨rfl,fun _ b hb=>(hT.block b (by have:=hX b hb;omega) (by have:=hX b hb;omega)).trans ((hx2 b hb).trans (hb1.block b (hX b hb)))⟩
 | some pr =>
   obtain ⟨x,s⟩:=pr
   have HD:=yh hd
   clear hd
   have hND : ¬ (d bs = none):=by rw [HD.out];simp
   have HND:=yh hND
   clear hND
   have mid : ∀ W2 cs,(((W.alloc (.cells #[.slice none 0 0,.slice none 0 0,.int .i64 0,.int .i64 0] 25)).alloc (.cells #[.int .i64 0] 29)).alloc (.cells #[.slice p bs.length c] 141)).heap.size ≤ W2.heap.size → Below w.heap.size w W2 → (∀ b,b < (((W.alloc (.cells #[.slice none 0 0,.slice none 0 0,.int .i64 0,.int .i64 0] 25)).alloc (.cells #[.int .i64 0] 29)).alloc (.cells #[.slice p bs.length c] 141)).heap.size → b ≠ W.heap.size + 2 → ¬ X b → W2.heap[b]? = (((W.alloc (.cells #[.slice none 0 0,.slice none 0 0,.int .i64 0,.int .i64 0] 25)).alloc (.cells #[.int .i64 0] 29)).alloc (.cells #[.slice p bs.length c] 141)).heap[b]?) →
    OK W2 x cs → RSt 141 w W2 (W.heap.size + 2) s → Jn W2 → W2.heap[W.heap.size]? = some (.cells #[.slice none 0 0,.slice none 0 0,.int .i64 0,.int .i64 0] 25 (0,0)) ∧ RdMid 25 w W X OK Jn x cs (W2.setRow W.heap.size cs) ∧ ∃ p' c',(W2.setRow W.heap.size cs).cell? ⟨W.heap.size + 2,0,none⟩ = some (.slice p' s.length c'):=by
    intro W2 cs hs2 hb2 hk2 hO hR hj
    obtain ⟨hb1,p6,p7,hsz⟩:=HP.out
    have h6:=(hk2 W.heap.size (by omega) (by omega) (fun h=>by have:=hX _ h;omega)).trans p6
    obtain ⟨p',c',hq,_⟩:=hR.box
    exact ⟨h6,RdMid.first hws hX HOK.out HJ.out (by omega) hb2 (fun b hb hx=>(hk2 b (by omega) (by omega) hx).trans (hb1.block b hb)) h6 ((hk2 (W.heap.size + 1) (by omega) (by omega) (fun h=>by have:=hX _ h;omega)).trans p7) hO hj,
     p',c',Kab (o:=0) ((setRow_other W2 W.heap.size (W.heap.size + 2) cs (by omega)).trans hq) rfl⟩
   have HM:=yh mid
   clear mid HP
   by_cases hs : s = []
   ·subst hs
    cases hok : okB x with
    | true =>
      have HRW:=yh (readW_yes HD.out hok)
      have HOKB:=yh hok
      clear hok
      go_wp2_with (first
       | (go_at_call 50;refine HO.out.mono ?_;rintro e W2 ⟨hs2,hb2,hk2,⟨hn,_⟩ | ⟨x',s',cs,he,rfl,hO,hR2,hl2,hj⟩⟩;exact absurd hn HND.out;obtain ⟨rfl,rfl⟩ : x = x' ∧ [] = s':=(by have e:=HD.out.symm.trans he;simpa using e);obtain ⟨hcs,hcell⟩:=HOS.out W2 x cs hO;obtain ⟨h6,hm,p',c',hq⟩:=HM.out W2 cs hs2 hb2 hk2 hO hR2 hj;have HST:=yh (Kdd.put hcs hcell h6 rfl);generalize W2.setRow W.heap.size cs = W3 at *;have HF:=yh (HFN.out W3 x [] cs he hm.ok hm.b);have HL:=yh (Kdd.get hcs hm.q6);have HMID:=yh hm;have HCS:=yh (And.intro hcs hcell);simp only [List.length_nil] at hq;clear hs2 hb2 hk2 he hO hR2 hl2 hj hcs hcell h6 hm HO HM HFN)
       | (go_at_call 56;refine HF.out.mono ?_;rintro e W4 ⟨rfl,hB4⟩;have hm4:=HMID.out.below hws HOK.out HJ.out hB4;have HL4:=yh (Kdd.get HCS.out.1 hm4.q6);have HS4:=yh (Kdd.put HCS.out.1 HCS.out.2 hm4.q6 HCS.out.1);have hm5:=hm4.set6 hws HOK.out HJ.out;have HS5:=yh (Kb9.put (c:=#[.int .i64 0]) rfl (by simp [Value.oneCell']) hm5.q7 rfl);have HM6:=yh (hm5.set7 hws HOK.out HJ.out);clear hm4 hm5 hB4 HF hq HL HST;rw [HOKB.out])
       | (go_at_call 105;refine (Kax _).mono ?_;rintro e W' ⟨rfl,rfl⟩)
       | ((with_reducible apply Kae);exact HST.out;exact rfl;exact rfl)
       | ((with_reducible apply Kae);exact HS4.out;exact rfl;exact rfl)
       | ((with_reducible apply Kae);exact HS5.out;exact rfl;exact rfl)
       | ((with_reducible apply Kal);exact HL4.out;exact rfl)
       | ((with_reducible apply Keq);exact HL.out;exact rfl;exact rfl))
      exact leavesG_ok HM6.out.q6 HCS.out.1 HM6.out.q7 hres rfl rfl (HM6.out.good HRW.out)
    | false =>
      have HRW:=yh (readW_no HD.out hok)
      have HOKB:=yh hok
      clear hok
      go_wp2_with (first
       | (go_at_call 50;refine HO.out.mono ?_;rintro e W2 ⟨hs2,hb2,hk2,⟨hn,_⟩ | ⟨x',s',cs,he,rfl,hO,hR2,hl2,hj⟩⟩;exact absurd hn HND.out;obtain ⟨rfl,rfl⟩ : x = x' ∧ [] = s':=(by have e:=HD.out.symm.trans he;simpa using e);obtain ⟨hcs,hcell⟩:=HOS.out W2 x cs hO;obtain ⟨h6,hm,p',c',hq⟩:=HM.out W2 cs hs2 hb2 hk2 hO hR2 hj;have HST:=yh (Kdd.put hcs hcell h6 rfl);generalize W2.setRow W.heap.size cs = W3 at *;have HF:=yh (HFN.out W3 x [] cs he hm.ok hm.b);have HL:=yh (Kdd.get hcs hm.q6);have HMID:=yh hm;have HCS:=yh (And.intro hcs hcell);simp only [List.length_nil] at hq;clear hs2 hb2 hk2 he hO hR2 hl2 hj hcs hcell h6 hm HO HM HFN)
       | (go_at_call 56;refine HF.out.mono ?_;rintro e W4 ⟨rfl,hB4⟩;have HM4:=yh (HMID.out.below hws HOK.out HJ.out hB4);clear hB4 HF hq HL HST;rw [HOKB.out])
       | (go_at_call 105;refine (Ka8 _).mono ?_;rintro e W' ⟨rfl,rfl⟩)
       | ((with_reducible apply Kae);exact HST.out;exact rfl;exact rfl)
       | ((with_reducible apply Keq);exact HL.out;exact rfl;exact rfl))
      exact leavesG_bad HM4.out.q6 HCS.out.1 HM4.out.q7 (by omega) hres rfl rfl fun W5 hT=>HM4.out.bad hws hT HRW.out (by first | exact HND.out | exact fun h=>h)
   ·have HRW:=yh (readW_left (ok:=okB) HD.out hs)
    have hls : decide (((s.length : Int)) = 0) = false:=by
     have : s.length ≠ 0:=fun h=>hs (List.length_eq_zero_iff.1 h)
     simp only [decide_eq_false_iff_not];omega
    have HS0:=yh hs
    clear hs
    go_wp2_with (first
     | (go_at_call 50;refine HO.out.mono ?_;rintro e W2 ⟨hs2,hb2,hk2,⟨hn,_⟩ | ⟨x',s',cs,he,rfl,hO,hR2,hl2,hj⟩⟩;exact absurd hn HND.out;obtain ⟨rfl,rfl⟩ : x = x' ∧ s = s':=(by have e:=HD.out.symm.trans he;simpa using e);obtain ⟨hcs,hcell⟩:=HOS.out W2 x cs hO;obtain ⟨h6,hm,p',c',hq⟩:=HM.out W2 cs hs2 hb2 hk2 hO hR2 hj;have HST:=yh (Kdd.put hcs hcell h6 rfl);generalize W2.setRow W.heap.size cs = W3 at *;have HMID:=yh hm;have HCS:=yh (And.intro hcs hcell);clear hs2 hb2 hk2 he hO hR2 hl2 hj hcs hcell h6 hm HO HM HFN)
     | (go_at_call 105;refine (Ka8 _).mono ?_;rintro e W' ⟨rfl,rfl⟩)
     | ((with_reducible apply Kae);exact HST.out;exact rfl;exact rfl))
    exact leavesG_bad HMID.out.q6 HCS.out.1 HMID.out.q7 (by omega) hres rfl rfl fun W5 hT=>HMID.out.bad hws hT HRW.out (by first | exact HND.out | exact fun h=>h)
theorem leavesV_bad {fn : Func} {tmps : Array Value} {R : Ending → World → Prop} {W2 : World} {z : Array Value} {n : Int} {B6 B7 : Nat} (h6 : W2.heap[B6]? = some (.cells z 48 (0,0))) (hz : z.size = 6) (h7 : W2.heap[B7]? = some (.cells #[.int .i64 n] 29 (0,0))) (hne : B6 ≠ B7)
 (hres : fn.results = #[.cell 6 48,.cell 7 29]) (t6 : tmps.getD 6 undef = .pointer (some ⟨B6,0,none⟩)) (t7 : tmps.getD 7 undef = .pointer (some ⟨B7,0,none⟩))
 (hR : ∀ W3,Touch (fun x=>x = B6 ∨ x = B7) W2 W3 → R (.returned (.tuple #[.agg #[.int .i64 0,.bool false,.int .i64 0,.string ⟨#[]⟩,.slice none 0 0,.slice none 0 0],.int .i64 290])) W3) :
 Leaves Tryz.prog fn tmps R [{ target:=.fn (.func 121) #[.pointer (some ⟨B6,0,none⟩),.pointer (some ⟨B7,0,none⟩)],args:=#[] }] (.panicking [{ v:=badV,recovered:=false }]) W2:=by
 refine leaves_cons (f:=121) (args:=#[.pointer (some ⟨B6,0,none⟩),.pointer (some ⟨B7,0,none⟩)]) (by simp) (Kbe Tryz.func121 rfl rfl _ _) ((caughtV h6 hz h7 hne).mono ?_)
 rintro e u' w' ⟨rfl,rfl,g1,g2,gT⟩
 exact ⟨_,Kbw hres _ _ ⟨B6,0,none⟩ ⟨B7,0,none⟩ (.agg #[.int .i64 0,.bool false,.int .i64 0,.string ⟨#[]⟩,.slice none 0 0,.slice none 0 0]) (.int .i64 290) t6 t7 (vt_val.get rfl g1) (Kb9.get rfl g2),hR _ gT⟩
theorem leavesV_ok {fn : Func} {tmps : Array Value} {R : Ending → World → Prop} {W2 : World} {z : Array Value} {B6 B7 : Nat} (h6 : W2.heap[B6]? = some (.cells z 48 (0,0))) (hz : z.size = 6) (h7 : W2.heap[B7]? = some (.cells #[.int .i64 0] 29 (0,0)))
 (hres : fn.results = #[.cell 6 48,.cell 7 29]) (t6 : tmps.getD 6 undef = .pointer (some ⟨B6,0,none⟩)) (t7 : tmps.getD 7 undef = .pointer (some ⟨B7,0,none⟩))
 (hR : R (.returned (.tuple #[.agg z,.int .i64 0])) W2) :
 Leaves Tryz.prog fn tmps R [{ target:=.fn (.func 121) #[.pointer (some ⟨B6,0,none⟩),.pointer (some ⟨B7,0,none⟩)],args:=#[] }] .returning W2:=by
 refine leaves_cons (f:=121) (args:=#[.pointer (some ⟨B6,0,none⟩),.pointer (some ⟨B7,0,none⟩)]) (by simp) (Kbe Tryz.func121 rfl rfl _ _) ((idleV _ _ _).mono ?_)
 rintro e u' w' ⟨rfl,rfl,rfl⟩
 exact ⟨_,Kbw hres _ _ ⟨B6,0,none⟩ ⟨B7,0,none⟩ (.agg z) (.int .i64 0) t6 t7 (vt_val.get hz h6) (Kb9.get rfl h7),hR⟩
theorem readV_any {α : Type} (d : Dec α) (okB : α → Bool) {w W : World} {p : Option Addr} {c : Nat} {bs : List UInt8} (hb : Below w.heap.size w W) (hrd : RdB w (.slice p bs.length c) bs) (hlb : bs.length ≤ 1000000) (X : Nat → Prop) (hX : ∀ b,X b → b < W.heap.size)
 (Jn : World → Prop) (hJn : ∀ W1 W2 : World,Jn W1 → (∀ b,b < W.heap.size → W2.heap[b]? = W1.heap[b]?) → Jn W2)
 (OK : World → α → Array Value → Prop) (hOKs : ∀ W1 x cs,OK W1 x cs → cs.size = 6 ∧ ∀ u ∈ cs.toList,u.oneCell' = true)
 (hOKk : ∀ (W1 W2 : World) x cs,OK W1 x cs → (∀ b,W.heap.size + 3 ≤ b → b < W1.heap.size → W2.heap[b]? = W1.heap[b]?) → OK W2 x cs)
 (one : ∀ W1 : World,W1.heap.size = W.heap.size + 3 → RSt 141 w W1 (W.heap.size + 2) bs → (∀ b,b < W.heap.size → W1.heap[b]? = W.heap[b]?) → Calls Tryz.prog 70 #[.pointer (some ⟨W.heap.size + 2,0,none⟩)] W1 fun e W2 =>
   W1.heap.size ≤ W2.heap.size ∧ Below w.heap.size w W2 ∧ (∀ b,b < W1.heap.size → b ≠ W.heap.size + 2 → ¬ X b → W2.heap[b]? = W1.heap[b]?) ∧ ((d bs = none ∧ e = given ∧ ∀ b,X b → W2.heap[b]? = W1.heap[b]?) ∨ ∃ x s cs,d bs = some (x,s) ∧ e = .returned (.agg cs) ∧ OK W2 x cs ∧ RSt 141 w W2 (W.heap.size + 2) s ∧ s.length ≤ bs.length ∧ Jn W2))
 (fine : ∀ W1 x s cs,d bs = some (x,s) → OK W1 x cs → Below w.heap.size w W1 → Calls Tryz.prog 72 #[.agg cs] W1 fun e W2=>e = .returned (.bool (okB x)) ∧ Below W1.heap.size W1 W2) :
 Calls Tryz.prog 69 #[.slice p bs.length c,.func (.func 70) #[] #[],.func (.func 72) #[] #[]] W (ReadPost w W X .agg #[.int .i64 0,.bool false,.int .i64 0,.string ⟨#[]⟩,.slice none 0 0,.slice none 0 0] OK Jn (d bs = none) (readW d okB bs)):=by
 have zl : (bs.length : Int) ≤ 1000000:=by omega
 have hws:=hb.size
 have hb1 : Below W.heap.size W (((W.alloc (.cells #[.int .i64 0,.bool false,.int .i64 0,.string ⟨#[]⟩,.slice none 0 0,.slice none 0 0] 48)).alloc (.cells #[.int .i64 0] 29)).alloc (.cells #[.slice p bs.length c] 141)):=((Kac _).alloc (by simp) _).alloc (by simp;omega) _
 have p6 : (((W.alloc (.cells #[.int .i64 0,.bool false,.int .i64 0,.string ⟨#[]⟩,.slice none 0 0,.slice none 0 0] 48)).alloc (.cells #[.int .i64 0] 29)).alloc (.cells #[.slice p bs.length c] 141)).heap[W.heap.size]? = some (.cells #[.int .i64 0,.bool false,.int .i64 0,.string ⟨#[]⟩,.slice none 0 0,.slice none 0 0] 48 (0,0)):=by
  simp only [Kam,World.size_alloc];rw [if_neg (by omega),if_neg (by omega),if_pos trivial]
 have p7 : (((W.alloc (.cells #[.int .i64 0,.bool false,.int .i64 0,.string ⟨#[]⟩,.slice none 0 0,.slice none 0 0] 48)).alloc (.cells #[.int .i64 0] 29)).alloc (.cells #[.slice p bs.length c] 141)).heap[W.heap.size + 1]? = some (.cells #[.int .i64 0] 29 (0,0)):=by
  simp only [Kam,World.size_alloc];rw [if_neg (by omega),if_pos trivial]
 have p8 : (((W.alloc (.cells #[.int .i64 0,.bool false,.int .i64 0,.string ⟨#[]⟩,.slice none 0 0,.slice none 0 0] 48)).alloc (.cells #[.int .i64 0] 29)).alloc (.cells #[.slice p bs.length c] 141)).heap[W.heap.size + 2]? = some (.cells #[.slice p bs.length c] 141 (0,0)):=by
  have e : W.heap.size + 2 = W.heap.size + 1 + 1:=rfl
  rw [e];simp only [Kam,World.size_alloc];rw [if_pos trivial]
 have hsz : (((W.alloc (.cells #[.int .i64 0,.bool false,.int .i64 0,.string ⟨#[]⟩,.slice none 0 0,.slice none 0 0] 48)).alloc (.cells #[.int .i64 0] 29)).alloc (.cells #[.slice p bs.length c] 141)).heap.size = W.heap.size + 3:=by simp
 have hone:=one _ hsz ⟨Kaa hb hb1,by omega,p,c,p8,hrd⟩ (fun b hbb=>hb1.block b hbb)
 have HO:=yh hone
 have HP:=yh (And.intro hb1 (And.intro p6 (And.intro p7 hsz)))
 have HFN:=yh fine
 have HOS:=yh hOKs
 have HOK:=yh hOKk
 have HJ:=yh hJn
 have HB0:=yh hb
 clear hone hb1 p6 p7 p8 fine hOKs hOKk hJn one hrd hb
 have back : ∀ W2 W3 : World,(((W.alloc (.cells #[.int .i64 0,.bool false,.int .i64 0,.string ⟨#[]⟩,.slice none 0 0,.slice none 0 0] 48)).alloc (.cells #[.int .i64 0] 29)).alloc (.cells #[.slice p bs.length c] 141)).heap.size ≤ W2.heap.size → (∀ b,b < (((W.alloc (.cells #[.int .i64 0,.bool false,.int .i64 0,.string ⟨#[]⟩,.slice none 0 0,.slice none 0 0] 48)).alloc (.cells #[.int .i64 0] 29)).alloc (.cells #[.slice p bs.length c] 141)).heap.size → b ≠ W.heap.size + 2 → ¬ X b → W2.heap[b]? = (((W.alloc (.cells #[.int .i64 0,.bool false,.int .i64 0,.string ⟨#[]⟩,.slice none 0 0,.slice none 0 0] 48)).alloc (.cells #[.int .i64 0] 29)).alloc (.cells #[.slice p bs.length c] 141)).heap[b]?) →
  W2.heap.size ≤ W3.heap.size → (∀ b,b < W2.heap.size → b ≠ W.heap.size → b ≠ W.heap.size + 1 → W3.heap[b]? = W2.heap[b]?) → W.heap.size ≤ W3.heap.size ∧ ∀ b,b < W.heap.size → ¬ X b → W3.heap[b]? = W.heap[b]?:=by
  intro W2 W3 h1 h2 h3 h4
  have hs:=HP.out.2.2.2
  exact ⟨by omega,fun b hb1 hbx=>(h4 b (by omega) (by omega) (by omega)).trans ((h2 b (by omega) (by omega) hbx).trans (HP.out.1.block b hb1))⟩
 have HBK:=yh back
 clear back
 refine calls_of_wp_defers Tryz.func69 rfl ?_
 simp only [Tryz.ntmps69,List.size_toArray,List.length_cons,List.length_nil,Nat.reduceAdd,Nat.reduceSub,Array.replicate_succ,Array.replicate_zero,List.push_toArray,List.append_toArray,List.nil_append,List.cons_append]
 have hres : Tryz.f69.results = #[.cell 6 48,.cell 7 29]:=rfl
 cases hd : d bs with
 | none =>
   have HRW:=yh (readW_none (ok:=okB) hd)
   have HD:=yh hd
   clear hd
   go_wp2_with (go_at_call 70;refine HO.out.mono ?_;rintro e W2 ⟨hs2,hb2,hk2,⟨_,rfl,hx2⟩ | ⟨x,s,cs,he,_⟩⟩;rotate_left;exact absurd he (by rw [HD.out];simp);have H2:=yh (And.intro hs2 (And.intro hb2 (And.intro hk2 hx2)));clear hs2 hb2 hk2 hx2)
   obtain ⟨hs2,hb2,hk2,hx2⟩:=H2.out
   obtain ⟨hb1,p6,p7,hsz⟩:=HP.out
   have hs3 : W.heap.size + 3 ≤ W2.heap.size:=by omega
   refine leavesV_bad (n:=0) ((hk2 _ (by omega) (by omega) (fun h=>by have:=hX _ h;omega)).trans p6) rfl ((hk2 _ (by omega) (by omega) (fun h=>by have:=hX _ h;omega)).trans p7) (by omega) hres rfl rfl fun W3 hT=>?_
   obtain ⟨g1,g2⟩:=HBK.out W2 W3 hs2 hk2 hT.size (fun b hb h6 h7=>hT.block b hb (fun h=>h.elim h6 h7))
   refine ⟨hT.below hb2 (fun b hb he=>by omega) (by omega),g1,g2,?_⟩
   rw [HRW.out]
   exact ⟨rfl,fun _ b hb=>(hT.block b (by have:=hX b hb;omega) (by have:=hX b hb;omega)).trans ((hx2 b hb).trans (hb1.block b (hX b hb)))⟩
 | some pr =>
   obtain ⟨x,s⟩:=pr
   have HD:=yh hd
   clear hd
   have hND : ¬ (d bs = none):=by rw [HD.out];simp
   have HND:=yh hND
   clear hND
   have mid : ∀ W2 cs,(((W.alloc (.cells #[.int .i64 0,.bool false,.int .i64 0,.string ⟨#[]⟩,.slice none 0 0,.slice none 0 0] 48)).alloc (.cells #[.int .i64 0] 29)).alloc (.cells #[.slice p bs.length c] 141)).heap.size ≤ W2.heap.size → Below w.heap.size w W2 → (∀ b,b < (((W.alloc (.cells #[.int .i64 0,.bool false,.int .i64 0,.string ⟨#[]⟩,.slice none 0 0,.slice none 0 0] 48)).alloc (.cells #[.int .i64 0] 29)).alloc (.cells #[.slice p bs.length c] 141)).heap.size → b ≠ W.heap.size + 2 → ¬ X b → W2.heap[b]? = (((W.alloc (.cells #[.int .i64 0,.bool false,.int .i64 0,.string ⟨#[]⟩,.slice none 0 0,.slice none 0 0] 48)).alloc (.cells #[.int .i64 0] 29)).alloc (.cells #[.slice p bs.length c] 141)).heap[b]?) →
    OK W2 x cs → RSt 141 w W2 (W.heap.size + 2) s → Jn W2 → W2.heap[W.heap.size]? = some (.cells #[.int .i64 0,.bool false,.int .i64 0,.string ⟨#[]⟩,.slice none 0 0,.slice none 0 0] 48 (0,0)) ∧ RdMid 48 w W X OK Jn x cs (W2.setRow W.heap.size cs) ∧ ∃ p' c',(W2.setRow W.heap.size cs).cell? ⟨W.heap.size + 2,0,none⟩ = some (.slice p' s.length c'):=by
    intro W2 cs hs2 hb2 hk2 hO hR hj
    obtain ⟨hb1,p6,p7,hsz⟩:=HP.out
    have h6:=(hk2 W.heap.size (by omega) (by omega) (fun h=>by have:=hX _ h;omega)).trans p6
    obtain ⟨p',c',hq,_⟩:=hR.box
    exact ⟨h6,RdMid.first hws hX HOK.out HJ.out (by omega) hb2 (fun b hb hx=>(hk2 b (by omega) (by omega) hx).trans (hb1.block b hb)) h6 ((hk2 (W.heap.size + 1) (by omega) (by omega) (fun h=>by have:=hX _ h;omega)).trans p7) hO hj,
     p',c',Kab (o:=0) ((setRow_other W2 W.heap.size (W.heap.size + 2) cs (by omega)).trans hq) rfl⟩
   have HM:=yh mid
   clear mid HP
   by_cases hs : s = []
   ·subst hs
    cases hok : okB x with
    | true =>
      have HRW:=yh (readW_yes HD.out hok)
      have HOKB:=yh hok
      clear hok
      go_wp2_with (first
       | (go_at_call 70;refine HO.out.mono ?_;rintro e W2 ⟨hs2,hb2,hk2,⟨hn,_⟩ | ⟨x',s',cs,he,rfl,hO,hR2,hl2,hj⟩⟩;exact absurd hn HND.out;obtain ⟨rfl,rfl⟩ : x = x' ∧ [] = s':=(by have e:=HD.out.symm.trans he;simpa using e);obtain ⟨hcs,hcell⟩:=HOS.out W2 x cs hO;obtain ⟨h6,hm,p',c',hq⟩:=HM.out W2 cs hs2 hb2 hk2 hO hR2 hj;have HST:=yh (vt_val.put hcs hcell h6 rfl);generalize W2.setRow W.heap.size cs = W3 at *;have HF:=yh (HFN.out W3 x [] cs he hm.ok hm.b);have HL:=yh (vt_val.get hcs hm.q6);have HMID:=yh hm;have HCS:=yh (And.intro hcs hcell);simp only [List.length_nil] at hq;clear hs2 hb2 hk2 he hO hR2 hl2 hj hcs hcell h6 hm HO HM HFN)
       | (go_at_call 72;refine HF.out.mono ?_;rintro e W4 ⟨rfl,hB4⟩;have hm4:=HMID.out.below hws HOK.out HJ.out hB4;have HL4:=yh (vt_val.get HCS.out.1 hm4.q6);have HS4:=yh (vt_val.put HCS.out.1 HCS.out.2 hm4.q6 HCS.out.1);have hm5:=hm4.set6 hws HOK.out HJ.out;have HS5:=yh (Kb9.put (c:=#[.int .i64 0]) rfl (by simp [Value.oneCell']) hm5.q7 rfl);have HM6:=yh (hm5.set7 hws HOK.out HJ.out);clear hm4 hm5 hB4 HF hq HL HST;rw [HOKB.out])
       | (go_at_call 105;refine (Kax _).mono ?_;rintro e W' ⟨rfl,rfl⟩)
       | ((with_reducible apply Kae);exact HST.out;exact rfl;exact rfl)
       | ((with_reducible apply Kae);exact HS4.out;exact rfl;exact rfl)
       | ((with_reducible apply Kae);exact HS5.out;exact rfl;exact rfl)
       | ((with_reducible apply Kal);exact HL4.out;exact rfl)
       | ((with_reducible apply Keq);exact HL.out;exact rfl;exact rfl))
      exact leavesV_ok HM6.out.q6 HCS.out.1 HM6.out.q7 hres rfl rfl (HM6.out.good HRW.out)
    | false =>
      have HRW:=yh (readW_no HD.out hok)
      have HOKB:=yh hok
      clear hok
      go_wp2_with (first
       | (go_at_call 70;refine HO.out.mono ?_;rintro e W2 ⟨hs2,hb2,hk2,⟨hn,_⟩ | ⟨x',s',cs,he,rfl,hO,hR2,hl2,hj⟩⟩;exact absurd hn HND.out;obtain ⟨rfl,rfl⟩ : x = x' ∧ [] = s':=(by have e:=HD.out.symm.trans he;simpa using e);obtain ⟨hcs,hcell⟩:=HOS.out W2 x cs hO;obtain ⟨h6,hm,p',c',hq⟩:=HM.out W2 cs hs2 hb2 hk2 hO hR2 hj;have HST:=yh (vt_val.put hcs hcell h6 rfl);generalize W2.setRow W.heap.size cs = W3 at *;have HF:=yh (HFN.out W3 x [] cs he hm.ok hm.b);have HL:=yh (vt_val.get hcs hm.q6);have HMID:=yh hm;have HCS:=yh (And.intro hcs hcell);simp only [List.length_nil] at hq;clear hs2 hb2 hk2 he hO hR2 hl2 hj hcs hcell h6 hm HO HM HFN)
       | (go_at_call 72;refine HF.out.mono ?_;rintro e W4 ⟨rfl,hB4⟩;have HM4:=yh (HMID.out.below hws HOK.out HJ.out hB4);clear hB4 HF hq HL HST;rw [HOKB.out])
       | (go_at_call 105;refine (Ka8 _).mono ?_;rintro e W' ⟨rfl,rfl⟩)
       | ((with_reducible apply Kae);exact HST.out;exact rfl;exact rfl)
       | ((with_reducible apply Keq);exact HL.out;exact rfl;exact rfl))
      exact leavesV_bad HM4.out.q6 HCS.out.1 HM4.out.q7 (by omega) hres rfl rfl fun W5 hT=>HM4.out.bad hws hT HRW.out (by first | exact HND.out | exact fun h=>h)
   ·have HRW:=yh (readW_left (ok:=okB) HD.out hs)
    have hls : decide (((s.length : Int)) = 0) = false:=by
     have : s.length ≠ 0:=fun h=>hs (List.length_eq_zero_iff.1 h)
     simp only [decide_eq_false_iff_not];omega
    have HS0:=yh hs
    clear hs
    go_wp2_with (first
     | (go_at_call 70;refine HO.out.mono ?_;rintro e W2 ⟨hs2,hb2,hk2,⟨hn,_⟩ | ⟨x',s',cs,he,rfl,hO,hR2,hl2,hj⟩⟩;exact absurd hn HND.out;obtain ⟨rfl,rfl⟩ : x = x' ∧ s = s':=(by have e:=HD.out.symm.trans he;simpa using e);obtain ⟨hcs,hcell⟩:=HOS.out W2 x cs hO;obtain ⟨h6,hm,p',c',hq⟩:=HM.out W2 cs hs2 hb2 hk2 hO hR2 hj;have HST:=yh (vt_val.put hcs hcell h6 rfl);generalize W2.setRow W.heap.size cs = W3 at *;have HMID:=yh hm;have HCS:=yh (And.intro hcs hcell);clear hs2 hb2 hk2 he hO hR2 hl2 hj hcs hcell h6 hm HO HM HFN)
     | (go_at_call 105;refine (Ka8 _).mono ?_;rintro e W' ⟨rfl,rfl⟩)
     | ((with_reducible apply Kae);exact HST.out;exact rfl;exact rfl))
    exact leavesV_bad HMID.out.q6 HCS.out.1 HMID.out.q7 (by omega) hres rfl rfl fun W5 hT=>HMID.out.bad hws hT HRW.out (by first | exact HND.out | exact fun h=>h)
theorem leavesN_bad {fn : Func} {tmps : Array Value} {R : Ending → World → Prop} {W2 : World} {z : Array Value} {n : Int} {B6 B7 : Nat} (h6 : W2.heap[B6]? = some (.cells z 79 (0,0))) (hz : z.size = 1) (h7 : W2.heap[B7]? = some (.cells #[.int .i64 n] 29 (0,0))) (hne : B6 ≠ B7)
 (hres : fn.results = #[.cell 6 79,.cell 7 29]) (t6 : tmps.getD 6 undef = .pointer (some ⟨B6,0,none⟩)) (t7 : tmps.getD 7 undef = .pointer (some ⟨B7,0,none⟩))
 (hR : ∀ W3,Touch (fun x=>x = B6 ∨ x = B7) W2 W3 → R (.returned (.tuple #[mk1 #[.int .u64 0],.int .i64 290])) W3) :
 Leaves Tryz.prog fn tmps R [{ target:=.fn (.func 139) #[.pointer (some ⟨B6,0,none⟩),.pointer (some ⟨B7,0,none⟩)],args:=#[] }] (.panicking [{ v:=badV,recovered:=false }]) W2:=by
 refine leaves_cons (f:=139) (args:=#[.pointer (some ⟨B6,0,none⟩),.pointer (some ⟨B7,0,none⟩)]) (by simp) (Kbe Tryz.func139 rfl rfl _ _) ((caughtN h6 hz h7 hne).mono ?_)
 rintro e u' w' ⟨rfl,rfl,g1,g2,gT⟩
 exact ⟨_,Kbw hres _ _ ⟨B6,0,none⟩ ⟨B7,0,none⟩ (mk1 #[.int .u64 0]) (.int .i64 290) t6 t7 (vt_u64.get rfl g1) (Kb9.get rfl g2),hR _ gT⟩
theorem leavesN_ok {fn : Func} {tmps : Array Value} {R : Ending → World → Prop} {W2 : World} {z : Array Value} {B6 B7 : Nat} (h6 : W2.heap[B6]? = some (.cells z 79 (0,0))) (hz : z.size = 1) (h7 : W2.heap[B7]? = some (.cells #[.int .i64 0] 29 (0,0)))
 (hres : fn.results = #[.cell 6 79,.cell 7 29]) (t6 : tmps.getD 6 undef = .pointer (some ⟨B6,0,none⟩)) (t7 : tmps.getD 7 undef = .pointer (some ⟨B7,0,none⟩))
 (hR : R (.returned (.tuple #[mk1 z,.int .i64 0])) W2) :
 Leaves Tryz.prog fn tmps R [{ target:=.fn (.func 139) #[.pointer (some ⟨B6,0,none⟩),.pointer (some ⟨B7,0,none⟩)],args:=#[] }] .returning W2:=by
 refine leaves_cons (f:=139) (args:=#[.pointer (some ⟨B6,0,none⟩),.pointer (some ⟨B7,0,none⟩)]) (by simp) (Kbe Tryz.func139 rfl rfl _ _) ((idleN _ _ _).mono ?_)
 rintro e u' w' ⟨rfl,rfl,rfl⟩
 exact ⟨_,Kbw hres _ _ ⟨B6,0,none⟩ ⟨B7,0,none⟩ (mk1 z) (.int .i64 0) t6 t7 (vt_u64.get hz h6) (Kb9.get rfl h7),hR⟩
theorem readN_any {α : Type} (d : Dec α) (okB : α → Bool) {w W : World} {p : Option Addr} {c : Nat} {bs : List UInt8} {a1 a2 : Option Addr} (hb : Below w.heap.size w W) (hrd : RdB w (.slice p bs.length c) bs) (hlb : bs.length ≤ 1000000) (X : Nat → Prop) (hX : ∀ b,X b → b < W.heap.size)
 (Jn : World → Prop) (hJn : ∀ W1 W2 : World,Jn W1 → (∀ b,b < W.heap.size → W2.heap[b]? = W1.heap[b]?) → Jn W2)
 (OK : World → α → Array Value → Prop) (hOKs : ∀ W1 x cs,OK W1 x cs → cs.size = 1 ∧ ∀ u ∈ cs.toList,u.oneCell' = true)
 (hOKk : ∀ (W1 W2 : World) x cs,OK W1 x cs → (∀ b,W.heap.size + 3 ≤ b → b < W1.heap.size → W2.heap[b]? = W1.heap[b]?) → OK W2 x cs)
 (one : ∀ W1 : World,W1.heap.size = W.heap.size + 3 → RSt 141 w W1 (W.heap.size + 2) bs → (∀ b,b < W.heap.size → W1.heap[b]? = W.heap[b]?) → Calls Tryz.prog 93 #[.pointer (some ⟨W.heap.size + 2,0,none⟩),.pointer a1,.pointer a2] W1 fun e W2 =>
   W1.heap.size ≤ W2.heap.size ∧ Below w.heap.size w W2 ∧ (∀ b,b < W1.heap.size → b ≠ W.heap.size + 2 → ¬ X b → W2.heap[b]? = W1.heap[b]?) ∧ ((d bs = none ∧ e = given ∧ ∀ b,X b → W2.heap[b]? = W1.heap[b]?) ∨ ∃ x s cs,d bs = some (x,s) ∧ e = .returned (mk1 cs) ∧ OK W2 x cs ∧ RSt 141 w W2 (W.heap.size + 2) s ∧ s.length ≤ bs.length ∧ Jn W2))
 (fine : ∀ W1 x s cs,d bs = some (x,s) → OK W1 x cs → Below w.heap.size w W1 → Calls Tryz.prog 94 #[mk1 cs] W1 fun e W2=>e = .returned (.bool (okB x)) ∧ Below W1.heap.size W1 W2) :
 Calls Tryz.prog 92 #[.slice p bs.length c,.func (.func 93) #[] #[.pointer a1,.pointer a2],.func (.func 94) #[] #[]] W (ReadPost w W X mk1 #[.int .u64 0] OK Jn (d bs = none) (readW d okB bs)):=by
 have zl : (bs.length : Int) ≤ 1000000:=by omega
 have hws:=hb.size
 have hb1 : Below W.heap.size W (((W.alloc (.cells #[.int .u64 0] 79)).alloc (.cells #[.int .i64 0] 29)).alloc (.cells #[.slice p bs.length c] 141)):=((Kac _).alloc (by simp) _).alloc (by simp;omega) _
 have p6 : (((W.alloc (.cells #[.int .u64 0] 79)).alloc (.cells #[.int .i64 0] 29)).alloc (.cells #[.slice p bs.length c] 141)).heap[W.heap.size]? = some (.cells #[.int .u64 0] 79 (0,0)):=by
  simp only [Kam,World.size_alloc];rw [if_neg (by omega),if_neg (by omega),if_pos trivial]
 have p7 : (((W.alloc (.cells #[.int .u64 0] 79)).alloc (.cells #[.int .i64 0] 29)).alloc (.cells #[.slice p bs.length c] 141)).heap[W.heap.size + 1]? = some (.cells #[.int .i64 0] 29 (0,0)):=by
  simp only [Kam,World.size_alloc];rw [if_neg (by omega),if_pos trivial]
 have p8 : (((W.alloc (.cells #[.int .u64 0] 79)).alloc (.cells #[.int .i64 0] 29)).alloc (.cells #[.slice p bs.length c] 141)).heap[W.heap.size + 2]? = some (.cells #[.slice p bs.length c] 141 (0,0)):=by
  have e : W.heap.size + 2 = W.heap.size + 1 + 1:=rfl
  rw [e];simp only [Kam,World.size_alloc];rw [if_pos trivial]
 have hsz : (((W.alloc (.cells #[.int .u64 0] 79)).alloc (.cells #[.int .i64 0] 29)).alloc (.cells #[.slice p bs.length c] 141)).heap.size = W.heap.size + 3:=by simp
 have hone:=one _ hsz ⟨Kaa hb hb1,by omega,p,c,p8,hrd⟩ (fun b hbb=>hb1.block b hbb)
 have HO:=yh hone
 have HP:=yh (And.intro hb1 (And.intro p6 (And.intro p7 hsz)))
 have HFN:=yh fine
 have HOS:=yh hOKs
 have HOK:=yh hOKk
 have HJ:=yh hJn
 have HB0:=yh hb
 clear hone hb1 p6 p7 p8 fine hOKs hOKk hJn one hrd hb
 have back : ∀ W2 W3 : World,(((W.alloc (.cells #[.int .u64 0] 79)).alloc (.cells #[.int .i64 0] 29)).alloc (.cells #[.slice p bs.length c] 141)).heap.size ≤ W2.heap.size → (∀ b,b < (((W.alloc (.cells #[.int .u64 0] 79)).alloc (.cells #[.int .i64 0] 29)).alloc (.cells #[.slice p bs.length c] 141)).heap.size → b ≠ W.heap.size + 2 → ¬ X b → W2.heap[b]? = (((W.alloc (.cells #[.int .u64 0] 79)).alloc (.cells #[.int .i64 0] 29)).alloc (.cells #[.slice p bs.length c] 141)).heap[b]?) →
  W2.heap.size ≤ W3.heap.size → (∀ b,b < W2.heap.size → b ≠ W.heap.size → b ≠ W.heap.size + 1 → W3.heap[b]? = W2.heap[b]?) → W.heap.size ≤ W3.heap.size ∧ ∀ b,b < W.heap.size → ¬ X b → W3.heap[b]? = W.heap[b]?:=by
  intro W2 W3 h1 h2 h3 h4
  have hs:=HP.out.2.2.2
  exact ⟨by omega,fun b hb1 hbx=>(h4 b (by omega) (by omega) (by omega)).trans ((h2 b (by omega) (by omega) hbx).trans (HP.out.1.block b hb1))⟩
 have HBK:=yh back
 clear back
 refine calls_of_wp_defers Tryz.func92 rfl ?_
 simp only [Tryz.ntmps92,List.size_toArray,List.length_cons,List.length_nil,Nat.reduceAdd,Nat.reduceSub,Array.replicate_succ,Array.replicate_zero,List.push_toArray,List.append_toArray,List.nil_append,List.cons_append]
 have hres : Tryz.f92.results = #[.cell 6 79,.cell 7 29]:=rfl
 cases hd : d bs with
 | none =>
   have HRW:=yh (readW_none (ok:=okB) hd)
   have HD:=yh hd
   clear hd
   go_wp2_with (go_at_call 93;refine HO.out.mono ?_;rintro e W2 ⟨hs2,hb2,hk2,⟨_,rfl,hx2⟩ | ⟨x,s,cs,he,_⟩⟩;rotate_left;exact absurd he (by rw [HD.out];simp);have H2:=yh (And.intro hs2 (And.intro hb2 (And.intro hk2 hx2)));clear hs2 hb2 hk2 hx2)
   obtain ⟨hs2,hb2,hk2,hx2⟩:=H2.out
   obtain ⟨hb1,p6,p7,hsz⟩:=HP.out
   have hs3 : W.heap.size + 3 ≤ W2.heap.size:=by omega
   refine leavesN_bad (n:=0) ((hk2 _ (by omega) (by omega) (fun h=>by have:=hX _ h;omega)).trans p6) rfl ((hk2 _ (by omega) (by omega) (fun h=>by have:=hX _ h;omega)).trans p7) (by omega) hres rfl rfl fun W3 hT=>?_
   obtain ⟨g1,g2⟩:=HBK.out W2 W3 hs2 hk2 hT.size (fun b hb h6 h7=>hT.block b hb (fun h=>h.elim h6 h7))
   refine ⟨hT.below hb2 (fun b hb he=>by omega) (by omega),g1,g2,?_⟩
   rw [HRW.out]
   exact ⟨rfl,fun _ b hb=>(hT.block b (by have:=hX b hb;omega) (by have:=hX b hb;omega)).trans ((hx2 b hb).trans (hb1.block b (hX b hb)))⟩
 | some pr =>
   obtain ⟨x,s⟩:=pr
   have HD:=yh hd
   clear hd
   have hND : ¬ (d bs = none):=by rw [HD.out];simp
   have HND:=yh hND
   clear hND
   have mid : ∀ W2 cs,(((W.alloc (.cells #[.int .u64 0] 79)).alloc (.cells #[.int .i64 0] 29)).alloc (.cells #[.slice p bs.length c] 141)).heap.size ≤ W2.heap.size → Below w.heap.size w W2 → (∀ b,b < (((W.alloc (.cells #[.int .u64 0] 79)).alloc (.cells #[.int .i64 0] 29)).alloc (.cells #[.slice p bs.length c] 141)).heap.size → b ≠ W.heap.size + 2 → ¬ X b → W2.heap[b]? = (((W.alloc (.cells #[.int .u64 0] 79)).alloc (.cells #[.int .i64 0] 29)).alloc (.cells #[.slice p bs.length c] 141)).heap[b]?) →
    OK W2 x cs → RSt 141 w W2 (W.heap.size + 2) s → Jn W2 → W2.heap[W.heap.size]? = some (.cells #[.int .u64 0] 79 (0,0)) ∧ RdMid 79 w W X OK Jn x cs (W2.setRow W.heap.size cs) ∧ ∃ p' c',(W2.setRow W.heap.size cs).cell? ⟨W.heap.size + 2,0,none⟩ = some (.slice p' s.length c'):=by
    intro W2 cs hs2 hb2 hk2 hO hR hj
    obtain ⟨hb1,p6,p7,hsz⟩:=HP.out
    have h6:=(hk2 W.heap.size (by omega) (by omega) (fun h=>by have:=hX _ h;omega)).trans p6
    obtain ⟨p',c',hq,_⟩:=hR.box
    exact ⟨h6,RdMid.first hws hX HOK.out HJ.out (by omega) hb2 (fun b hb hx=>(hk2 b (by omega) (by omega) hx).trans (hb1.block b hb)) h6 ((hk2 (W.heap.size + 1) (by omega) (by omega) (fun h=>by have:=hX _ h;omega)).trans p7) hO hj,
     p',c',Kab (o:=0) ((setRow_other W2 W.heap.size (W.heap.size + 2) cs (by omega)).trans hq) rfl⟩
   have HM:=yh mid
   clear mid HP
   by_cases hs : s = []
   ·subst hs
    cases hok : okB x with
    | true =>
      have HRW:=yh (readW_yes HD.out hok)
      have HOKB:=yh hok
      clear hok
      go_wp2_with (first
       | (go_at_call 93;refine HO.out.mono ?_;rintro e W2 ⟨hs2,hb2,hk2,⟨hn,_⟩ | ⟨x',s',cs,he,rfl,hO,hR2,hl2,hj⟩⟩;exact absurd hn HND.out;obtain ⟨rfl,rfl⟩ : x = x' ∧ [] = s':=(by have e:=HD.out.symm.trans he;simpa using e);obtain ⟨hcs,hcell⟩:=HOS.out W2 x cs hO;obtain ⟨h6,hm,p',c',hq⟩:=HM.out W2 cs hs2 hb2 hk2 hO hR2 hj;have HST:=yh (vt_u64.put hcs hcell h6 rfl);generalize W2.setRow W.heap.size cs = W3 at *;have HF:=yh (HFN.out W3 x [] cs he hm.ok hm.b);have HL:=yh (vt_u64.get hcs hm.q6);have HMID:=yh hm;have HCS:=yh (And.intro hcs hcell);simp only [List.length_nil] at hq;clear hs2 hb2 hk2 he hO hR2 hl2 hj hcs hcell h6 hm HO HM HFN)
       | (go_at_call 94;refine HF.out.mono ?_;rintro e W4 ⟨rfl,hB4⟩;have hm4:=HMID.out.below hws HOK.out HJ.out hB4;have HL4:=yh (vt_u64.get HCS.out.1 hm4.q6);have HS4:=yh (vt_u64.put HCS.out.1 HCS.out.2 hm4.q6 HCS.out.1);have hm5:=hm4.set6 hws HOK.out HJ.out;have HS5:=yh (Kb9.put (c:=#[.int .i64 0]) rfl (by simp [Value.oneCell']) hm5.q7 rfl);have HM6:=yh (hm5.set7 hws HOK.out HJ.out);clear hm4 hm5 hB4 HF hq HL HST;rw [HOKB.out])
       | (go_at_call 105;refine (Kax _).mono ?_;rintro e W' ⟨rfl,rfl⟩)
       | ((with_reducible apply Kae);exact HST.out;exact rfl;exact rfl)
       | ((with_reducible apply Kae);exact HS4.out;exact rfl;exact rfl)
       | ((with_reducible apply Kae);exact HS5.out;exact rfl;exact rfl)
       | ((with_reducible apply Kal);exact HL4.out;exact rfl)
       | ((with_reducible apply Keq);exact HL.out;exact rfl;exact rfl))
      exact leavesN_ok HM6.out.q6 HCS.out.1 HM6.out.q7 hres rfl rfl (HM6.out.good HRW.out)
    | false =>
      have HRW:=yh (readW_no HD.out hok)
      have HOKB:=yh hok
      clear hok
      go_wp2_with (first
       | (go_at_call 93;refine HO.out.mono ?_;rintro e W2 ⟨hs2,hb2,hk2,⟨hn,_⟩ | ⟨x',s',cs,he,rfl,hO,hR2,hl2,hj⟩⟩;exact absurd hn HND.out;obtain ⟨rfl,rfl⟩ : x = x' ∧ [] = s':=(by have e:=HD.out.symm.trans he;simpa using e);obtain ⟨hcs,hcell⟩:=HOS.out W2 x cs hO;obtain ⟨h6,hm,p',c',hq⟩:=HM.out W2 cs hs2 hb2 hk2 hO hR2 hj;have HST:=yh (vt_u64.put hcs hcell h6 rfl);generalize W2.setRow W.heap.size cs = W3 at *;have HF:=yh (HFN.out W3 x [] cs he hm.ok hm.b);have HL:=yh (vt_u64.get hcs hm.q6);have HMID:=yh hm;have HCS:=yh (And.intro hcs hcell);simp only [List.length_nil] at hq;clear hs2 hb2 hk2 he hO hR2 hl2 hj hcs hcell h6 hm HO HM HFN)
       | (go_at_call 94;refine HF.out.mono ?_;rintro e W4 ⟨rfl,hB4⟩;have HM4:=yh (HMID.out.below hws HOK.out HJ.out hB4);clear hB4 HF hq HL HST;rw [HOKB.out])
       | (go_at_call 105;refine (Ka8 _).mono ?_;rintro e W' ⟨rfl,rfl⟩)
       | ((with_reducible apply Kae);exact HST.out;exact rfl;exact rfl)
       | ((with_reducible apply Keq);exact HL.out;exact rfl;exact rfl))
      exact leavesN_bad HM4.out.q6 HCS.out.1 HM4.out.q7 (by omega) hres rfl rfl fun W5 hT=>HM4.out.bad hws hT HRW.out (by first | exact HND.out | exact fun h=>h)
   ·have HRW:=yh (readW_left (ok:=okB) HD.out hs)
    have hls : decide (((s.length : Int)) = 0) = false:=by
     have : s.length ≠ 0:=fun h=>hs (List.length_eq_zero_iff.1 h)
     simp only [decide_eq_false_iff_not];omega
    have HS0:=yh hs
    clear hs
    go_wp2_with (first
     | (go_at_call 93;refine HO.out.mono ?_;rintro e W2 ⟨hs2,hb2,hk2,⟨hn,_⟩ | ⟨x',s',cs,he,rfl,hO,hR2,hl2,hj⟩⟩;exact absurd hn HND.out;obtain ⟨rfl,rfl⟩ : x = x' ∧ s = s':=(by have e:=HD.out.symm.trans he;simpa using e);obtain ⟨hcs,hcell⟩:=HOS.out W2 x cs hO;obtain ⟨h6,hm,p',c',hq⟩:=HM.out W2 cs hs2 hb2 hk2 hO hR2 hj;have HST:=yh (vt_u64.put hcs hcell h6 rfl);generalize W2.setRow W.heap.size cs = W3 at *;have HMID:=yh hm;have HCS:=yh (And.intro hcs hcell);clear hs2 hb2 hk2 he hO hR2 hl2 hj hcs hcell h6 hm HO HM HFN)
     | (go_at_call 105;refine (Ka8 _).mono ?_;rintro e W' ⟨rfl,rfl⟩)
     | ((with_reducible apply Kae);exact HST.out;exact rfl;exact rfl))
    exact leavesN_bad HMID.out.q6 HCS.out.1 HMID.out.q7 (by omega) hres rfl rfl fun W5 hT=>HMID.out.bad hws hT HRW.out (by first | exact HND.out | exact fun h=>h)
theorem leavesC_bad {fn : Func} {tmps : Array Value} {R : Ending → World → Prop} {W2 : World} {z : Array Value} {n : Int} {B6 B7 : Nat} (h6 : W2.heap[B6]? = some (.cells z 58 (0,0))) (hz : z.size = 1) (h7 : W2.heap[B7]? = some (.cells #[.int .i64 n] 29 (0,0))) (hne : B6 ≠ B7)
 (hres : fn.results = #[.cell 6 58,.cell 7 29]) (t6 : tmps.getD 6 undef = .pointer (some ⟨B6,0,none⟩)) (t7 : tmps.getD 7 undef = .pointer (some ⟨B7,0,none⟩))
 (hR : ∀ W3,Touch (fun x=>x = B6 ∨ x = B7) W2 W3 → R (.returned (.tuple #[mk1 #[.slice none 0 0],.int .i64 290])) W3) :
 Leaves Tryz.prog fn tmps R [{ target:=.fn (.func 129) #[.pointer (some ⟨B6,0,none⟩),.pointer (some ⟨B7,0,none⟩)],args:=#[] }] (.panicking [{ v:=badV,recovered:=false }]) W2:=by
 refine leaves_cons (f:=129) (args:=#[.pointer (some ⟨B6,0,none⟩),.pointer (some ⟨B7,0,none⟩)]) (by simp) (Kbe Tryz.func129 rfl rfl _ _) ((caughtC h6 hz h7 hne).mono ?_)
 rintro e u' w' ⟨rfl,rfl,g1,g2,gT⟩
 exact ⟨_,Kbw hres _ _ ⟨B6,0,none⟩ ⟨B7,0,none⟩ (mk1 #[.slice none 0 0]) (.int .i64 290) t6 t7 (Kcr.get rfl g1) (Kb9.get rfl g2),hR _ gT⟩
theorem leavesC_ok {fn : Func} {tmps : Array Value} {R : Ending → World → Prop} {W2 : World} {z : Array Value} {B6 B7 : Nat} (h6 : W2.heap[B6]? = some (.cells z 58 (0,0))) (hz : z.size = 1) (h7 : W2.heap[B7]? = some (.cells #[.int .i64 0] 29 (0,0)))
 (hres : fn.results = #[.cell 6 58,.cell 7 29]) (t6 : tmps.getD 6 undef = .pointer (some ⟨B6,0,none⟩)) (t7 : tmps.getD 7 undef = .pointer (some ⟨B7,0,none⟩))
 (hR : R (.returned (.tuple #[mk1 z,.int .i64 0])) W2) :
 Leaves Tryz.prog fn tmps R [{ target:=.fn (.func 129) #[.pointer (some ⟨B6,0,none⟩),.pointer (some ⟨B7,0,none⟩)],args:=#[] }] .returning W2:=by
 refine leaves_cons (f:=129) (args:=#[.pointer (some ⟨B6,0,none⟩),.pointer (some ⟨B7,0,none⟩)]) (by simp) (Kbe Tryz.func129 rfl rfl _ _) ((idleC _ _ _).mono ?_)
 rintro e u' w' ⟨rfl,rfl,rfl⟩
 exact ⟨_,Kbw hres _ _ ⟨B6,0,none⟩ ⟨B7,0,none⟩ (mk1 z) (.int .i64 0) t6 t7 (Kcr.get hz h6) (Kb9.get rfl h7),hR⟩
theorem readC_any {α : Type} (d : Dec α) (okB : α → Bool) {w W : World} {p : Option Addr} {c : Nat} {bs : List UInt8} (hb : Below w.heap.size w W) (hrd : RdB w (.slice p bs.length c) bs) (hlb : bs.length ≤ 1000000) (X : Nat → Prop) (hX : ∀ b,X b → b < W.heap.size)
 (Jn : World → Prop) (hJn : ∀ W1 W2 : World,Jn W1 → (∀ b,b < W.heap.size → W2.heap[b]? = W1.heap[b]?) → Jn W2)
 (OK : World → α → Array Value → Prop) (hOKs : ∀ W1 x cs,OK W1 x cs → cs.size = 1 ∧ ∀ u ∈ cs.toList,u.oneCell' = true)
 (hOKk : ∀ (W1 W2 : World) x cs,OK W1 x cs → (∀ b,W.heap.size + 3 ≤ b → b < W1.heap.size → W2.heap[b]? = W1.heap[b]?) → OK W2 x cs)
 (one : ∀ W1 : World,W1.heap.size = W.heap.size + 3 → RSt 141 w W1 (W.heap.size + 2) bs → (∀ b,b < W.heap.size → W1.heap[b]? = W.heap[b]?) → Calls Tryz.prog 80 #[.pointer (some ⟨W.heap.size + 2,0,none⟩)] W1 fun e W2 =>
   W1.heap.size ≤ W2.heap.size ∧ Below w.heap.size w W2 ∧ (∀ b,b < W1.heap.size → b ≠ W.heap.size + 2 → ¬ X b → W2.heap[b]? = W1.heap[b]?) ∧ ((d bs = none ∧ e = given ∧ ∀ b,X b → W2.heap[b]? = W1.heap[b]?) ∨ ∃ x s cs,d bs = some (x,s) ∧ e = .returned (mk1 cs) ∧ OK W2 x cs ∧ RSt 141 w W2 (W.heap.size + 2) s ∧ s.length ≤ bs.length ∧ Jn W2))
 (fine : ∀ W1 x s cs,d bs = some (x,s) → OK W1 x cs → Below w.heap.size w W1 → Calls Tryz.prog 83 #[mk1 cs] W1 fun e W2=>e = .returned (.bool (okB x)) ∧ Below W1.heap.size W1 W2) :
 Calls Tryz.prog 79 #[.slice p bs.length c,.func (.func 80) #[] #[],.func (.func 83) #[] #[]] W (ReadPost w W X mk1 #[.slice none 0 0] OK Jn (d bs = none) (readW d okB bs)):=by
 have zl : (bs.length : Int) ≤ 1000000:=by omega
 have hws:=hb.size
 have hb1 : Below W.heap.size W (((W.alloc (.cells #[.slice none 0 0] 58)).alloc (.cells #[.int .i64 0] 29)).alloc (.cells #[.slice p bs.length c] 141)):=((Kac _).alloc (by simp) _).alloc (by simp;omega) _
 have p6 : (((W.alloc (.cells #[.slice none 0 0] 58)).alloc (.cells #[.int .i64 0] 29)).alloc (.cells #[.slice p bs.length c] 141)).heap[W.heap.size]? = some (.cells #[.slice none 0 0] 58 (0,0)):=by
  simp only [Kam,World.size_alloc];rw [if_neg (by omega),if_neg (by omega),if_pos trivial]
 have p7 : (((W.alloc (.cells #[.slice none 0 0] 58)).alloc (.cells #[.int .i64 0] 29)).alloc (.cells #[.slice p bs.length c] 141)).heap[W.heap.size + 1]? = some (.cells #[.int .i64 0] 29 (0,0)):=by
  simp only [Kam,World.size_alloc];rw [if_neg (by omega),if_pos trivial]
 have p8 : (((W.alloc (.cells #[.slice none 0 0] 58)).alloc (.cells #[.int .i64 0] 29)).alloc (.cells #[.slice p bs.length c] 141)).heap[W.heap.size + 2]? = some (.cells #[.slice p bs.length c] 141 (0,0)):=by
  have e : W.heap.size + 2 = W.heap.size + 1 + 1:=rfl
  rw [e];simp only [Kam,World.size_alloc];rw [if_pos trivial]
 have hsz : (((W.alloc (.cells #[.slice none 0 0] 58)).alloc (.cells #[.int .i64 0] 29)).alloc (.cells #[.slice p bs.length c] 141)).heap.size = W.heap.size + 3:=by simp
 have hone:=one _ hsz ⟨Kaa hb hb1,by omega,p,c,p8,hrd⟩ (fun b hbb=>hb1.block b hbb)
 have HO:=yh hone
 have HP:=yh (And.intro hb1 (And.intro p6 (And.intro p7 hsz)))
 have HFN:=yh fine
 have HOS:=yh hOKs
 have HOK:=yh hOKk
 have HJ:=yh hJn
 have HB0:=yh hb
 clear hone hb1 p6 p7 p8 fine hOKs hOKk hJn one hrd hb
 have back : ∀ W2 W3 : World,(((W.alloc (.cells #[.slice none 0 0] 58)).alloc (.cells #[.int .i64 0] 29)).alloc (.cells #[.slice p bs.length c] 141)).heap.size ≤ W2.heap.size → (∀ b,b < (((W.alloc (.cells #[.slice none 0 0] 58)).alloc (.cells #[.int .i64 0] 29)).alloc (.cells #[.slice p bs.length c] 141)).heap.size → b ≠ W.heap.size + 2 → ¬ X b → W2.heap[b]? = (((W.alloc (.cells #[.slice none 0 0] 58)).alloc (.cells #[.int .i64 0] 29)).alloc (.cells #[.slice p bs.length c] 141)).heap[b]?) →
  W2.heap.size ≤ W3.heap.size → (∀ b,b < W2.heap.size → b ≠ W.heap.size → b ≠ W.heap.size + 1 → W3.heap[b]? = W2.heap[b]?) → W.heap.size ≤ W3.heap.size ∧ ∀ b,b < W.heap.size → ¬ X b → W3.heap[b]? = W.heap[b]?:=by
  intro W2 W3 h1 h2 h3 h4
  have hs:=HP.out.2.2.2
  exact ⟨by omega,fun b hb1 hbx=>(h4 b (by omega) (by omega) (by omega)).trans ((h2 b (by omega) (by omega) hbx).trans (HP.out.1.block b hb1))⟩
 have HBK:=yh back
 clear back
 refine calls_of_wp_defers Tryz.func79 rfl ?_
 simp only [Tryz.ntmps79,List.size_toArray,List.length_cons,List.length_nil,Nat.reduceAdd,Nat.reduceSub,Array.replicate_succ,Array.replicate_zero,List.push_toArray,List.append_toArray,List.nil_append,List.cons_append]
 have hres : Tryz.f79.results = #[.cell 6 58,.cell 7 29]:=rfl
 cases hd : d bs with
 | none =>
   have HRW:=yh (readW_none (ok:=okB) hd)
   have HD:=yh hd
   clear hd
   go_wp2_with (go_at_call 80;refine HO.out.mono ?_;rintro e W2 ⟨hs2,hb2,hk2,⟨_,rfl,hx2⟩ | ⟨x,s,cs,he,_⟩⟩;rotate_left;exact absurd he (by rw [HD.out];simp);have H2:=yh (And.intro hs2 (And.intro hb2 (And.intro hk2 hx2)));clear hs2 hb2 hk2 hx2)
   obtain ⟨hs2,hb2,hk2,hx2⟩:=H2.out
   obtain ⟨hb1,p6,p7,hsz⟩:=HP.out
   have hs3 : W.heap.size + 3 ≤ W2.heap.size:=by omega
   refine leavesC_bad (n:=0) ((hk2 _ (by omega) (by omega) (fun h=>by have:=hX _ h;omega)).trans p6) rfl ((hk2 _ (by omega) (by omega) (fun h=>by have:=hX _ h;omega)).trans p7) (by omega) hres rfl rfl fun W3 hT=>?_
   obtain ⟨g1,g2⟩:=HBK.out W2 W3 hs2 hk2 hT.size (fun b hb h6 h7=>hT.block b hb (fun h=>h.elim h6 h7))
   refine ⟨hT.below hb2 (fun b hb he=>by omega) (by omega),g1,g2,?_⟩
   rw [HRW.out]
   exact ⟨rfl,fun _ b hb=>(hT.block b (by have:=hX b hb;omega) (by have:=hX b hb;omega)).trans ((hx2 b hb).trans (hb1.block b (hX b hb)))⟩
 | some pr =>
   obtain ⟨x,s⟩:=pr
   have HD:=yh hd
   clear hd
   have hND : ¬ (d bs = none):=by rw [HD.out];simp
   have HND:=yh hND
   clear hND
   have mid : ∀ W2 cs,(((W.alloc (.cells #[.slice none 0 0] 58)).alloc (.cells #[.int .i64 0] 29)).alloc (.cells #[.slice p bs.length c] 141)).heap.size ≤ W2.heap.size → Below w.heap.size w W2 → (∀ b,b < (((W.alloc (.cells #[.slice none 0 0] 58)).alloc (.cells #[.int .i64 0] 29)).alloc (.cells #[.slice p bs.length c] 141)).heap.size → b ≠ W.heap.size + 2 → ¬ X b → W2.heap[b]? = (((W.alloc (.cells #[.slice none 0 0] 58)).alloc (.cells #[.int .i64 0] 29)).alloc (.cells #[.slice p bs.length c] 141)).heap[b]?) →
    OK W2 x cs → RSt 141 w W2 (W.heap.size + 2) s → Jn W2 → W2.heap[W.heap.size]? = some (.cells #[.slice none 0 0] 58 (0,0)) ∧ RdMid 58 w W X OK Jn x cs (W2.setRow W.heap.size cs) ∧ ∃ p' c',(W2.setRow W.heap.size cs).cell? ⟨W.heap.size + 2,0,none⟩ = some (.slice p' s.length c'):=by
    intro W2 cs hs2 hb2 hk2 hO hR hj
    obtain ⟨hb1,p6,p7,hsz⟩:=HP.out
    have h6:=(hk2 W.heap.size (by omega) (by omega) (fun h=>by have:=hX _ h;omega)).trans p6
    obtain ⟨p',c',hq,_⟩:=hR.box
    exact ⟨h6,RdMid.first hws hX HOK.out HJ.out (by omega) hb2 (fun b hb hx=>(hk2 b (by omega) (by omega) hx).trans (hb1.block b hb)) h6 ((hk2 (W.heap.size + 1) (by omega) (by omega) (fun h=>by have:=hX _ h;omega)).trans p7) hO hj,
     p',c',Kab (o:=0) ((setRow_other W2 W.heap.size (W.heap.size + 2) cs (by omega)).trans hq) rfl⟩
   have HM:=yh mid
   clear mid HP
   by_cases hs : s = []
   ·subst hs
    cases hok : okB x with
    | true =>
      have HRW:=yh (readW_yes HD.out hok)
      have HOKB:=yh hok
      clear hok
      go_wp2_with (first
       | (go_at_call 80;refine HO.out.mono ?_;rintro e W2 ⟨hs2,hb2,hk2,⟨hn,_⟩ | ⟨x',s',cs,he,rfl,hO,hR2,hl2,hj⟩⟩;exact absurd hn HND.out;obtain ⟨rfl,rfl⟩ : x = x' ∧ [] = s':=(by have e:=HD.out.symm.trans he;simpa using e);obtain ⟨hcs,hcell⟩:=HOS.out W2 x cs hO;obtain ⟨h6,hm,p',c',hq⟩:=HM.out W2 cs hs2 hb2 hk2 hO hR2 hj;have HST:=yh (Kcr.put hcs hcell h6 rfl);generalize W2.setRow W.heap.size cs = W3 at *;have HF:=yh (HFN.out W3 x [] cs he hm.ok hm.b);have HL:=yh (Kcr.get hcs hm.q6);have HMID:=yh hm;have HCS:=yh (And.intro hcs hcell);simp only [List.length_nil] at hq;clear hs2 hb2 hk2 he hO hR2 hl2 hj hcs hcell h6 hm HO HM HFN)
       | (go_at_call 83;refine HF.out.mono ?_;rintro e W4 ⟨rfl,hB4⟩;have hm4:=HMID.out.below hws HOK.out HJ.out hB4;have HL4:=yh (Kcr.get HCS.out.1 hm4.q6);have HS4:=yh (Kcr.put HCS.out.1 HCS.out.2 hm4.q6 HCS.out.1);have hm5:=hm4.set6 hws HOK.out HJ.out;have HS5:=yh (Kb9.put (c:=#[.int .i64 0]) rfl (by simp [Value.oneCell']) hm5.q7 rfl);have HM6:=yh (hm5.set7 hws HOK.out HJ.out);clear hm4 hm5 hB4 HF hq HL HST;rw [HOKB.out])
       | (go_at_call 105;refine (Kax _).mono ?_;rintro e W' ⟨rfl,rfl⟩)
       | ((with_reducible apply Kae);exact HST.out;exact rfl;exact rfl)
       | ((with_reducible apply Kae);exact HS4.out;exact rfl;exact rfl)
       | ((with_reducible apply Kae);exact HS5.out;exact rfl;exact rfl)
       | ((with_reducible apply Kal);exact HL4.out;exact rfl)
       | ((with_reducible apply Keq);exact HL.out;exact rfl;exact rfl))
      exact leavesC_ok HM6.out.q6 HCS.out.1 HM6.out.q7 hres rfl rfl (HM6.out.good HRW.out)
    | false =>
      have HRW:=yh (readW_no HD.out hok)
      have HOKB:=yh hok
      clear hok
      go_wp2_with (first
       | (go_at_call 80;refine HO.out.mono ?_;rintro e W2 ⟨hs2,hb2,hk2,⟨hn,_⟩ | ⟨x',s',cs,he,rfl,hO,hR2,hl2,hj⟩⟩;exact absurd hn HND.out;obtain ⟨rfl,rfl⟩ : x = x' ∧ [] = s':=(by have e:=HD.out.symm.trans he;simpa using e);obtain ⟨hcs,hcell⟩:=HOS.out W2 x cs hO;obtain ⟨h6,hm,p',c',hq⟩:=HM.out W2 cs hs2 hb2 hk2 hO hR2 hj;have HST:=yh (Kcr.put hcs hcell h6 rfl);generalize W2.setRow W.heap.size cs = W3 at *;have HF:=yh (HFN.out W3 x [] cs he hm.ok hm.b);have HL:=yh (Kcr.get hcs hm.q6);have HMID:=yh hm;have HCS:=yh (And.intro hcs hcell);simp only [List.length_nil] at hq;clear hs2 hb2 hk2 he hO hR2 hl2 hj hcs hcell h6 hm HO HM HFN)
       | (go_at_call 83;refine HF.out.mono ?_;rintro e W4 ⟨rfl,hB4⟩;have HM4:=yh (HMID.out.below hws HOK.out HJ.out hB4);clear hB4 HF hq HL HST;rw [HOKB.out])
       | (go_at_call 105;refine (Ka8 _).mono ?_;rintro e W' ⟨rfl,rfl⟩)
       | ((with_reducible apply Kae);exact HST.out;exact rfl;exact rfl)
       | ((with_reducible apply Keq);exact HL.out;exact rfl;exact rfl))
      exact leavesC_bad HM4.out.q6 HCS.out.1 HM4.out.q7 (by omega) hres rfl rfl fun W5 hT=>HM4.out.bad hws hT HRW.out (by first | exact HND.out | exact fun h=>h)
   ·have HRW:=yh (readW_left (ok:=okB) HD.out hs)
    have hls : decide (((s.length : Int)) = 0) = false:=by
     have : s.length ≠ 0:=fun h=>hs (List.length_eq_zero_iff.1 h)
     simp only [decide_eq_false_iff_not];omega
    have HS0:=yh hs
    clear hs
    go_wp2_with (first
     | (go_at_call 80;refine HO.out.mono ?_;rintro e W2 ⟨hs2,hb2,hk2,⟨hn,_⟩ | ⟨x',s',cs,he,rfl,hO,hR2,hl2,hj⟩⟩;exact absurd hn HND.out;obtain ⟨rfl,rfl⟩ : x = x' ∧ s = s':=(by have e:=HD.out.symm.trans he;simpa using e);obtain ⟨hcs,hcell⟩:=HOS.out W2 x cs hO;obtain ⟨h6,hm,p',c',hq⟩:=HM.out W2 cs hs2 hb2 hk2 hO hR2 hj;have HST:=yh (Kcr.put hcs hcell h6 rfl);generalize W2.setRow W.heap.size cs = W3 at *;have HMID:=yh hm;have HCS:=yh (And.intro hcs hcell);clear hs2 hb2 hk2 he hO hR2 hl2 hj hcs hcell h6 hm HO HM HFN)
     | (go_at_call 105;refine (Ka8 _).mono ?_;rintro e W' ⟨rfl,rfl⟩)
     | ((with_reducible apply Kae);exact HST.out;exact rfl;exact rfl))
    exact leavesC_bad HMID.out.q6 HCS.out.1 HMID.out.q7 (by omega) hres rfl rfl fun W5 hT=>HMID.out.bad hws hT HRW.out (by first | exact HND.out | exact fun h=>h)
theorem tot_of {α : Type} {d : Dec α} {e : α → List UInt8} {P : α → Prop} {f : Rs → α × Rs} {sz : α → Nat} {R : α → Prop} (h : RT d e P) (g : DF f e P) (s : DS f sz R) {b r : List UInt8} {x : α} (hd : d b = some (x,r)) : sz x + r.length ≤ b.length ∧ R x:=by
 obtain ⟨h1,h2⟩:=h.sound _ _ _ hd
 have h3:=g x r h2
 rw [← h1] at h3
 have h4:=s.size (b,false) (by rw [h3])
 have h5:=s.rng (b,false)
 rw [h3] at h4 h5
 exact ⟨h4,h5⟩
def errR {α : Type} (o : Option α) : Int:=match o with
 | some _=>0
 | none=>290
theorem Kcz {P : Program} {fn : Func} {p u : Tmp} {ty : TypeId} (h : fn.results = #[.cell p ty,.tmp u]) (tmps : Array Value) (w : World) (ad : Addr) (v : Value)
 (hp : tmps.getD p undef = .pointer (some ad)) (hl : (loadVar ty ad).run P w = .ok v w) : (results fn tmps).run P w = .ok (.tuple #[v,tmps.getD u undef]) w:=by
 have hp' : tmps[p]?.getD undef = .pointer (some ad):=by simpa using hp
 simp [results,h,hp',asAddr,hl]
theorem one_of {α : Type} {d : Dec α} {w W1 W2 : World} {q : Nat} {bs : List UInt8} {n : Nat} {E : World → (Nat → Prop) → α → Array Value → Prop} {K : Nat} (hE : EL E K) (hn : W1.heap.size = n + 3) (hle : ∀ l' x s,d l' = some (x,s) → s.length ≤ l'.length) {e : Ending}
 (h : Reads w W1 q (d bs) (fun x v W'=>∃ cs,v = .agg cs ∧ E W' (fun b=>W1.heap.size ≤ b) x cs) e W2) : W1.heap.size ≤ W2.heap.size ∧ Below w.heap.size w W2 ∧ (∀ b,b < W1.heap.size → b ≠ q → ¬ (fun _=>False : Nat → Prop) b → W2.heap[b]? = W1.heap[b]?) ∧
   ((d bs = none ∧ e = given ∧ ∀ b,(fun _=>False : Nat → Prop) b → W2.heap[b]? = W1.heap[b]?) ∨ ∃ x s cs,d bs = some (x,s) ∧ e = .returned (.agg cs) ∧ E W2 (fun b=>n + 3 ≤ b) x cs ∧ RSt 141 w W2 q s ∧ s.length ≤ bs.length ∧ True):=by
 cases hd : d bs with
 | none =>
   rw [hd] at h
   obtain ⟨t,hb,rfl⟩:=h.none
   exact ⟨t.size,hb,fun b h1 h2 _=>t.keep b h1 h2,.inl ⟨rfl,rfl,fun b hb=>hb.elim⟩⟩
 | some p =>
   obtain ⟨x,s⟩:=p
   rw [hd] at h
   obtain ⟨t,hb,v,rfl,⟨cs,rfl,how⟩,hs⟩:=h.some
   exact ⟨t.size,hb,fun b h1 h2 _=>t.keep b h1 h2,.inr ⟨x,s,cs,rfl,rfl,hE.imp (fun b _ hb=>by omega) how,hs,hle _ _ _ hd,trivial⟩⟩
def Got {α : Type} (E : World → (Nat → Prop) → α → Array Value → Prop) (z : α) (w : World) (o : Option α) (e : Ending) (W' : World) : Prop :=
 ∃ cs,e = .returned (.tuple #[.agg cs,.int .i64 (errR o)]) ∧ E W' (fun b=>w.heap.size ≤ b) (o.getD z) cs ∧ Below w.heap.size w W'
theorem GrOwn.rd {w : World} {P : Nat → Prop} {g : GraphD} {x : Array Value} (h : GrOwn w P g x) (ht : totG g ≤ 900000) : GrRd w g x:=by
 obtain ⟨vn,vr,rfl,h1,h2⟩:=h
 unfold totG at ht
 have k1 : g.nodes.length ≤ (g.nodes.map totN).sum:=Kcb totN fun n _=>totN_pos n
 have k2 : g.rels.length ≤ (g.rels.map totR).sum:=Kcb totR fun n _=>totR_pos n
 obtain ⟨pn,cn,rfl,e1⟩:=h1.rd Kas (F:=NRd) (by omega) fun v hv x hx=>hx.rd (by have:=Kbb totN hv;omega)
 obtain ⟨pr,cr,rfl,e2⟩:=h2.rd Ka5 (F:=RRd) (by omega) fun v hv x hx=>hx.rd (by have:=Kbb totR hv;omega)
 exact ⟨pn,cn,pr,cr,rfl,e1,e2⟩
def graphZ : GraphD:=⟨[],[],0,0⟩
theorem graphZ_own {W : World} {P : Nat → Prop} : GrOwn W P graphZ #[.slice none 0 0,.slice none 0 0,.int .i64 0,.int .i64 0]:=⟨_,_,rfl,GOwn.nil,GOwn.nil⟩
def val0 : V:=.mk 0 false 0 [] [] []
theorem val0_own {W : World} {P : Nat → Prop} : VOwn W P val0 #[.int .i64 0,.bool false,.int .i64 0,.string ⟨#[]⟩,.slice none 0 0,.slice none 0 0]:=Ke9 W P 0 false 0 []
theorem ef_graph : EF GrRd 4:=by
 refine ⟨fun h g=>h.below g,fun h=>?_,fun h u hu=>?_⟩
 ·obtain ⟨pn,cn,pr,cr,rfl,_⟩:=h;rfl
 ·obtain ⟨pn,cn,pr,cr,rfl,_⟩:=h
  simp only [List.mem_cons,List.not_mem_nil,or_false] at hu
  rcases hu with rfl | rfl | rfl | rfl <;> rfl
theorem fineG_any {w : World} (hE : Env w) {g : GraphD} {x : Array Value} (h : GrRd w g x) (ht : totG g ≤ 900000) : Calls Tryz.prog 56 #[.agg x] w fun e w'=>e = .returned (.bool (okG g)) ∧ Below w.heap.size w w':=by
 have hxs:=ef_graph.size h
 have hb:=Kac (w:=w) (.cells x 25)
 have HL:=yh (Kay.get (P:=Tryz.prog) hxs (heap_alloc_new w (.cells x 25)))
 have HC:=yh (Kc5 (hE.b hb) (h.below hb) (by omega))
 have HB:=yh hb
 clear hE hb h
 have hd : decide (errG (okG g) = 0) = okG g:=by cases okG g <;> rfl
 generalize errG (okG g) = er at *
 generalize okG g = r at *
 go_enter Tryz.func56,Tryz.ntmps56
 go_wp2_with (first
  | ((with_reducible apply Kal);exact HL.out;exact rfl)
  | (go_at_call 13;refine HC.out.mono ?_;rintro e W1 ⟨rfl,hb⟩;have HB2:=yh (Kaa HB.out hb);clear hb))
 go_ret
 have e : (er == 0) = r:=by rw [← hd];rfl
 exact ⟨by show Ending.returned (.bool (er == 0)) = _;rw [e],HB2.out⟩
theorem readPub_G {w : World} (hE : Env w) {p : Option Addr} {c : Nat} {bs : List UInt8} (hrd : RdB w (.slice p bs.length c) bs) (hl : bs.length ≤ 900000) :
 Calls Tryz.prog 16 #[.slice p bs.length c] w (Got GrOwn graphZ w (readW rdGraph okG bs)):=by
 have hb:=Kac (w:=w) (.cells #[.slice none 0 0,.slice none 0 0,.int .i64 0,.int .i64 0] 25)
 have hbx:=heap_alloc_new w (.cells #[.slice none 0 0,.slice none 0 0,.int .i64 0,.int .i64 0] 25)
 have hsz : (w.alloc (.cells #[.slice none 0 0,.slice none 0 0,.int .i64 0,.int .i64 0] 25)).heap.size = w.heap.size + 1:=by simp
 have hR:=readG_any rdGraph okG hb hrd (by omega) (fun _=>False) (fun b h=>h.elim) (fun _=>True) (fun _ _ _ _=>trivial)
  (fun W1 x cs=>GrOwn W1 (fun b=>(w.alloc (.cells #[.slice none 0 0,.slice none 0 0,.int .i64 0,.int .i64 0] 25)).heap.size + 3 ≤ b) x cs) (fun W1 x cs h=>⟨Kel.size h,Kel.ones h⟩) (fun W1 W2 x cs h hk=>Kel.keep (fun b hb hlt=>hk b hb hlt) h)
  (fun W1 hs hst hk=>(rgraph_any hst (by omega)).mono fun e W2 h=>one_of Kel hs (fun l' x s hd=>rt_graph.le hd) h)
  (fun W1 x s cs hd how hbw=>by
    have ht:=(tot_of rt_graph df_graph ds_graph hd).1
    exact fineG_any (hE.b hbw) (how.rd (by omega)) (by omega))
 have HR:=yh hR
 have HB:=yh (And.intro hb (And.intro hbx hsz))
 clear hE hrd hb hbx hsz hR
 generalize readW rdGraph okG bs = res at *
 go_enter Tryz.func16,Tryz.ntmps16
 cases res with
 | none =>
   go_wp2_with (first
    | (go_at_call 49;refine HR.out.mono ?_;rintro e W2 ⟨hb2,hs2,hk2,rfl,_⟩
       (
        obtain ⟨hb,hbx,hsz⟩:=HB.out
        have hbx2:=(hk2 w.heap.size (by omega) (fun h=>h)).trans hbx
        have Hst_graph:=yh (Kay.put (cs:=#[.slice none 0 0,.slice none 0 0,.int .i64 0,.int .i64 0]) rfl (by simp [Value.oneCell']) hbx2 rfl)
        have HLD:=yh (Kay.get (P:=Tryz.prog) (cs:=#[.slice none 0 0,.slice none 0 0,.int .i64 0,.int .i64 0]) rfl (setRow_heap W2 w.heap.size _ #[.slice none 0 0,.slice none 0 0,.int .i64 0,.int .i64 0] _ _ hbx2))
        have HF:=yh (Kbz (B:=w.heap.size) hb2 (Nat.le_refl _) #[.slice none 0 0,.slice none 0 0,.int .i64 0,.int .i64 0])
        clear hb hbx hsz hb2 hs2 hk2 hbx2 HR))
    | ((with_reducible apply Kae);exact Hst_graph.out;exact rfl;exact rfl))
   refine bodyPost_ret (Kcz rfl _ _ ⟨w.heap.size,0,none⟩ _ rfl HLD.out) rfl ?_
   exact ⟨#[.slice none 0 0,.slice none 0 0,.int .i64 0,.int .i64 0],rfl,graphZ_own,HF.out⟩
 | some x =>
   go_wp2_with (first
    | (go_at_call 49;refine HR.out.mono ?_;rintro e W2 ⟨hb2,hs2,hk2,cs,rfl,how,_⟩
       (
        obtain ⟨hb,hbx,hsz⟩:=HB.out
        have hbx2:=(hk2 w.heap.size (by omega) (fun h=>h)).trans hbx
        have hcs:=Kel.size how
        have Hst_graph:=yh (Kay.put hcs (Kel.ones how) hbx2 rfl)
        have HLD:=yh (Kay.get (P:=Tryz.prog) hcs (setRow_heap W2 w.heap.size _ cs _ _ hbx2))
        have hown : GrOwn (W2.setRow w.heap.size cs) (fun b=>w.heap.size ≤ b) x cs:=Kel.imp (fun b _ hb=>by omega) (Kel.keep (w':=W2.setRow w.heap.size cs) (fun b hb hlt=>setRow_other W2 _ b _ (by omega)) how)
        have HF:=yh (And.intro hown (Kbz (B:=w.heap.size) hb2 (Nat.le_refl _) cs))
        clear hb hbx hsz hb2 hs2 hk2 hbx2 HR how hcs hown))
    | ((with_reducible apply Kae);exact Hst_graph.out;exact rfl;exact rfl))
   refine bodyPost_ret (Kcz rfl _ _ ⟨w.heap.size,0,none⟩ _ rfl HLD.out) rfl ?_
   exact ⟨cs,rfl,HF.out.1,HF.out.2⟩
theorem fineV_any {w : World} (hE : Env w) {g : V} {x : Array Value} (h : VRd w g x) (ht : totV g ≤ 900000) : Calls Tryz.prog 72 #[.agg x] w fun e w'=>e = .returned (.bool (okV g)) ∧ Below w.heap.size w w':=by
 have hxs:=Kec.size h
 have hb:=Kac (w:=w) (.cells x 48)
 have HL:=yh (Kbp.get (P:=Tryz.prog) hxs (heap_alloc_new w (.cells x 48)))
 have HC:=yh (check_ok (hE.b hb) (h.below hb) (by omega))
 have HB:=yh hb
 clear hE hb h
 have hd : decide (checkV Lib.validD g = 0) = okV g:=by rfl
 generalize checkV Lib.validD g = er at *
 generalize okV g = r at *
 go_enter Tryz.func72,Tryz.ntmps72
 go_wp2_with (first
  | ((with_reducible apply Kal);exact HL.out;exact rfl)
  | (go_at_call 63;refine HC.out.mono ?_;rintro e W1 ⟨rfl,hb⟩;have HB2:=yh (Kaa HB.out hb);clear hb))
 go_ret
 have e : (er == 0) = r:=by rw [← hd];rfl
 exact ⟨by show Ending.returned (.bool (er == 0)) = _;rw [e],HB2.out⟩
theorem readPub_V {w : World} (hE : Env w) {p : Option Addr} {c : Nat} {bs : List UInt8} (hrd : RdB w (.slice p bs.length c) bs) (hl : bs.length ≤ 900000) :
 Calls Tryz.prog 23 #[.slice p bs.length c] w (Got VOwn val0 w (readW (rdVal 64) okV bs)):=by
 have hb:=Kac (w:=w) (.cells #[.int .i64 0,.bool false,.int .i64 0,.string ⟨#[]⟩,.slice none 0 0,.slice none 0 0] 48)
 have hbx:=heap_alloc_new w (.cells #[.int .i64 0,.bool false,.int .i64 0,.string ⟨#[]⟩,.slice none 0 0,.slice none 0 0] 48)
 have hsz : (w.alloc (.cells #[.int .i64 0,.bool false,.int .i64 0,.string ⟨#[]⟩,.slice none 0 0,.slice none 0 0] 48)).heap.size = w.heap.size + 1:=by simp
 have hR:=readV_any (rdVal 64) okV hb hrd (by omega) (fun _=>False) (fun b h=>h.elim) (fun _=>True) (fun _ _ _ _=>trivial)
  (fun W1 x cs=>VOwn W1 (fun b=>(w.alloc (.cells #[.int .i64 0,.bool false,.int .i64 0,.string ⟨#[]⟩,.slice none 0 0,.slice none 0 0] 48)).heap.size + 3 ≤ b) x cs) (fun W1 x cs h=>⟨el_val.size h,el_val.ones h⟩) (fun W1 W2 x cs h hk=>el_val.keep (fun b hb hlt=>hk b hb hlt) h)
  (fun W1 hs hst hk=>(rvalue1_any hst (by omega)).mono fun e W2 h=>one_of el_val hs (fun l' x s hd=>(rt_val 64).le hd) h)
  (fun W1 x s cs hd how hbw=>by
    have ht:=(tot_of (rt_val 64) (df_val 64) (ds_val 64) hd).1
    exact fineV_any (hE.b hbw) (how.rd (by omega)) (by omega))
 have HR:=yh hR
 have HB:=yh (And.intro hb (And.intro hbx hsz))
 clear hE hrd hb hbx hsz hR
 generalize readW (rdVal 64) okV bs = res at *
 go_enter Tryz.func23,Tryz.ntmps23
 cases res with
 | none =>
   go_wp2_with (first
    | (go_at_call 69;refine HR.out.mono ?_;rintro e W2 ⟨hb2,hs2,hk2,rfl,_⟩
       (
        obtain ⟨hb,hbx,hsz⟩:=HB.out
        have hbx2:=(hk2 w.heap.size (by omega) (fun h=>h)).trans hbx
        have Hst_val:=yh (Kbp.put (cs:=#[.int .i64 0,.bool false,.int .i64 0,.string ⟨#[]⟩,.slice none 0 0,.slice none 0 0]) rfl (by simp [Value.oneCell']) hbx2 rfl)
        have HLD:=yh (Kbp.get (P:=Tryz.prog) (cs:=#[.int .i64 0,.bool false,.int .i64 0,.string ⟨#[]⟩,.slice none 0 0,.slice none 0 0]) rfl (setRow_heap W2 w.heap.size _ #[.int .i64 0,.bool false,.int .i64 0,.string ⟨#[]⟩,.slice none 0 0,.slice none 0 0] _ _ hbx2))
        have HF:=yh (Kbz (B:=w.heap.size) hb2 (Nat.le_refl _) #[.int .i64 0,.bool false,.int .i64 0,.string ⟨#[]⟩,.slice none 0 0,.slice none 0 0])
        clear hb hbx hsz hb2 hs2 hk2 hbx2 HR))
    | ((with_reducible apply Kae);exact Hst_val.out;exact rfl;exact rfl))
   refine bodyPost_ret (Kcz rfl _ _ ⟨w.heap.size,0,none⟩ _ rfl HLD.out) rfl ?_
   exact ⟨#[.int .i64 0,.bool false,.int .i64 0,.string ⟨#[]⟩,.slice none 0 0,.slice none 0 0],rfl,val0_own,HF.out⟩
 | some x =>
   go_wp2_with (first
    | (go_at_call 69;refine HR.out.mono ?_;rintro e W2 ⟨hb2,hs2,hk2,cs,rfl,how,_⟩
       (
        obtain ⟨hb,hbx,hsz⟩:=HB.out
        have hbx2:=(hk2 w.heap.size (by omega) (fun h=>h)).trans hbx
        have hcs:=el_val.size how
        have Hst_val:=yh (Kbp.put hcs (el_val.ones how) hbx2 rfl)
        have HLD:=yh (Kbp.get (P:=Tryz.prog) hcs (setRow_heap W2 w.heap.size _ cs _ _ hbx2))
        have hown : VOwn (W2.setRow w.heap.size cs) (fun b=>w.heap.size ≤ b) x cs:=el_val.imp (fun b _ hb=>by omega) (el_val.keep (w':=W2.setRow w.heap.size cs) (fun b hb hlt=>setRow_other W2 _ b _ (by omega)) how)
        have HF:=yh (And.intro hown (Kbz (B:=w.heap.size) hb2 (Nat.le_refl _) cs))
        clear hb hbx hsz hb2 hs2 hk2 hbx2 HR how hcs hown))
    | ((with_reducible apply Kae);exact Hst_val.out;exact rfl;exact rfl))
   refine bodyPost_ret (Kcz rfl _ _ ⟨w.heap.size,0,none⟩ _ rfl HLD.out) rfl ?_
   exact ⟨cs,rfl,HF.out.1,HF.out.2⟩
theorem COwn.rd {w : World} {P : Nat → Prop} {c : ChangeD} {x : Array Value} (h : COwn w P c x) (ht : totC c ≤ 900000) : CRd w c x:=by
 obtain ⟨a,b,e,h1,h2⟩:=h
 unfold totC at ht
 exact ⟨a,b,e,h1.rd (by omega),h2.rd (by omega)⟩
def okCs (l : List ChangeD) : Bool:=decide (l.length ≤ 65536) && l.all okC
theorem fineC_any {w : World} (hE : Env w) {p : Option Addr} {c : Nat} {l : List ChangeD} (h : GRd CRd 11 w p c l) (ht : (l.map totC).sum ≤ 900000) : Calls Tryz.prog 83 #[.slice p l.length c] w fun e w'=>e = .returned (.bool (okCs l)) ∧ Below w.heap.size w w':=by
 have HC:=yh (allC_any hE h (fun x hx=>Nat.le_trans (Kbb totC hx) ht))
 have hok : okCs l = (decide (l.length ≤ 65536) && l.all okC):=rfl
 rw [hok]
 clear hok h ht hE
 generalize l.all okC = r at *
 by_cases hl : l.length ≤ 65536
 ·have z : (l.length : Int) ≤ 65536:=by omega
  rw [decide_eq_true hl]
  clear hl
  go_enter Tryz.func83,Tryz.ntmps83
  go_wp2_with (go_at_call 75;refine HC.out.mono ?_;rintro e W1 ⟨rfl,hb⟩;have HB2:=yh hb;clear hb)
  go_ret
  exact ⟨rfl,HB2.out⟩
 ·have z : ¬ (l.length : Int) ≤ 65536:=by omega
  rw [decide_eq_false hl]
  clear hl
  go_enter Tryz.func83,Tryz.ntmps83
  go_wp2_with (go_at_call 75;refine HC.out.mono ?_;rintro e W1 ⟨rfl,hb⟩;have HB2:=yh hb;clear hb)
  go_ret
  exact ⟨rfl,Below.refl _ _⟩
def GotC (w : World) (o : Option (List ChangeD)) (e : Ending) (W' : World) : Prop :=
 ∃ v,e = .returned (.tuple #[v,.int .i64 (errR o)]) ∧ GOwn COwn 74 11 W' (fun b=>w.heap.size ≤ b) v (o.getD []) ∧ Below w.heap.size w W'
theorem readPub_C {w : World} (hE : Env w) {p : Option Addr} {c : Nat} {bs : List UInt8} (hrd : RdB w (.slice p bs.length c) bs) (hl : bs.length ≤ 900000) :
 Calls Tryz.prog 30 #[.slice p bs.length c] w (GotC w (readW Kee okCs bs)):=by
 have hR:=readC_any Kee okCs (Below.refl w.heap.size w) hrd (by omega) (fun _=>False) (fun b h=>h.elim) (fun _=>True) (fun _ _ _ _=>trivial)
  (fun W1 x cs=>∃ v,cs = #[v] ∧ GOwn COwn 74 11 W1 (fun b=>w.heap.size + 3 ≤ b) v x) (fun W1 x cs h=>by
    obtain ⟨v,rfl,xs,h1,_⟩:=h
    refine ⟨rfl,fun u hu=>?_⟩
    simp only [List.mem_cons,List.not_mem_nil,or_false] at hu
    subst hu
    exact Kdn h1) (fun W1 W2 x cs h hk=>by
    obtain ⟨v,rfl,h1⟩:=h
    exact ⟨v,rfl,h1.keep Ke0 (fun b hb hlt=>hk b hb hlt)⟩)
  (fun W1 hs hst hk=>(rchanges_any hst (by omega)).mono fun e W2 h=>by
    cases hd : Ka2 Kbc bs with
    | none =>
      rw [hd] at h
      obtain ⟨t,hb,rfl⟩:=h.none
      exact ⟨t.size,hb,fun b h1 h2 _=>t.keep b h1 h2,.inl ⟨hd,rfl,fun b hb=>hb.elim⟩⟩
    | some pp =>
      obtain ⟨x,s⟩:=pp
      rw [hd] at h
      obtain ⟨t,hb,v,rfl,how,hs2⟩:=h.some
      exact ⟨t.size,hb,fun b h1 h2 _=>t.keep b h1 h2,.inr ⟨x,s,#[v],hd,rfl,⟨v,rfl,how.imp Ke0 fun b _ hb=>by omega⟩,hs2,rt_changes.le hd,trivial⟩⟩)
  (fun W1 x s cs hd how hbw=>by
    obtain ⟨v,rfl,h1⟩:=how
    have ht:=(tot_of rt_changes df_changes ds_changes hd).1
    have htc : ∀ y ∈ x,totC y ≤ (x.map totC).sum:=fun y hy=>Kbb totC hy
    have hlen : x.length ≤ (x.map totC).sum:=Kcb totC fun n _=>by unfold totC totN;omega
    obtain ⟨pv,cv,rfl,hg⟩:=h1.rd Ke0 (F:=CRd) (by omega) fun y hy z hz=>hz.rd (by have:=htc y hy;omega)
    exact fineC_any (hE.b hbw) hg (by omega))
 have HR:=yh hR
 clear hE hrd hR
 generalize readW Kee okCs bs = res at *
 go_enter Tryz.func30,Tryz.ntmps30
 cases res with
 | none =>
   go_wp2_with (go_at_call 79;refine HR.out.mono ?_;rintro e W2 ⟨hb2,hs2,hk2,rfl,_⟩;have HF:=yh hb2;clear hb2 hs2 hk2 HR)
   go_ret2
   exact ⟨_,rfl,GOwn.nil,HF.out⟩
 | some x =>
   go_wp2_with (go_at_call 79;refine HR.out.mono ?_;rintro e W2 ⟨hb2,hs2,hk2,cs,rfl,⟨v,rfl,how⟩,_⟩;have HF:=yh (And.intro hb2 how);clear hb2 hs2 hk2 HR how)
   go_ret2
   exact ⟨v,rfl,HF.out.2.imp Ke0 fun b _ hb=>by omega,HF.out.1⟩
theorem results_tmp3 {P : Program} {fn : Func} {p q r : Tmp} (h : fn.results = #[.tmp p,.tmp q,.tmp r]) (tmps : Array Value) (w : World) : (results fn tmps).run P w = .ok (.tuple #[tmps.getD p undef,tmps.getD q undef,tmps.getD r undef]) w:=by
 simp [results,h]
def gotN (bs : List UInt8) : Nat × Nat × Int:=match rdN 0 0 bs with
 | some (n,r)=>(n,bs.length - r.length,0)
 | none=>(0,0,290)
theorem readNum_call {w : World} {p : Option Addr} {c : Nat} {bs : List UInt8} (hrd : RdB w (.slice p bs.length c) bs) (hl : bs.length ≤ 900000) :
 Calls Tryz.prog 92 #[.slice p bs.length c,.func (.func 93) #[] #[.pointer (some ⟨w.heap.size,0,none⟩),.pointer (some ⟨w.heap.size + 1,0,none⟩)],.func (.func 94) #[] #[]]
  ((w.alloc (.cells #[.slice p bs.length c] 26)).alloc (.cells #[.int .i64 0] 3)) fun e W'=>e = .returned (.tuple #[.int .u64 ((gotN bs).1 : Int),.int .i64 (gotN bs).2.2]) ∧ Below w.heap.size w W' ∧ W'.heap[w.heap.size + 1]? = some (.cells #[.int .i64 ((gotN bs).2.1 : Int)] 3 (0,0)):=by
 have hb : Below w.heap.size w ((w.alloc (.cells #[.slice p bs.length c] 26)).alloc (.cells #[.int .i64 0] 3)):=(Kac _).alloc (by simp) _
 have hbb : ((w.alloc (.cells #[.slice p bs.length c] 26)).alloc (.cells #[.int .i64 0] 3)).heap[w.heap.size]? = some (.cells #[.slice p bs.length c] 26 (0,0)):=Kai (Kac (w:=w.alloc (.cells #[.slice p bs.length c] 26)) (.cells #[.int .i64 0] 3)) (by simp) (heap_alloc_new w _)
 have hnb : ((w.alloc (.cells #[.slice p bs.length c] 26)).alloc (.cells #[.int .i64 0] 3)).heap[w.heap.size + 1]? = some (.cells #[.int .i64 0] 3 (0,0)):=by
  simp only [Kam,World.size_alloc];rw [if_pos trivial]
 have hsz : ((w.alloc (.cells #[.slice p bs.length c] 26)).alloc (.cells #[.int .i64 0] 3)).heap.size = w.heap.size + 2:=by simp
 generalize (w.alloc (.cells #[.slice p bs.length c] 26)).alloc (.cells #[.int .i64 0] 3) = W at *
 have hR:=readN_any (W:=W) (a1:=some ⟨w.heap.size,0,none⟩) (a2:=some ⟨w.heap.size + 1,0,none⟩) dNum (fun _=>true) hb hrd (by omega) (fun b=>b = w.heap.size + 1) (fun b h=>by omega)
  (fun W1=>W1.heap[w.heap.size + 1]? = some (.cells #[.int .i64 (kNum bs : Int)] 3 (0,0))) (fun W1 W2 h hk=>(hk _ (by omega)).trans h)
  (fun W1 x cs=>cs = #[.int .u64 (x : Int)]) (fun W1 x cs h=>by subst h;exact ⟨rfl,fun u hu=>by simp only [List.mem_cons,List.not_mem_nil,or_false] at hu;subst hu;rfl⟩) (fun W1 W2 x cs h hk=>h)
  (fun W1 hs hst hk=>by
    have hn:=rnumber1_any hst (by omega) ((hk w.heap.size (by omega)).trans hbb) ((hk (w.heap.size + 1) (by omega)).trans hnb) (by omega) (by omega) (by omega)
    refine hn.mono ?_
    rintro e W2 ⟨h1,h2,h3,h4⟩
    refine ⟨h1,h2,fun b hb1 hb2 hb3=>h3 b hb1 hb2 hb3,?_⟩
    rcases h4 with ⟨g1,rfl,g3⟩ | ⟨n,r,g1,rfl,g3,g4⟩
    ·exact .inl ⟨by unfold dNum;rw [g1];rfl,rfl,fun b hb=>by subst hb;exact g3⟩
    ·exact .inr ⟨n,[],#[.int .u64 (n : Int)],by unfold dNum;rw [g1];rfl,rfl,rfl,g3,by simp,by unfold kNum;rw [g1];exact g4⟩)
  (fun W1 x s cs hd how hbw=>by subst how;exact anyNumber _ W1)
 refine hR.mono ?_
 rintro e W' ⟨h1,h2,h3,h4⟩
 cases hd : rdN 0 0 bs with
 | none =>
   have hg : readW dNum (fun _=>true) bs = none:=by unfold readW dNum;rw [hd];rfl
   rw [hg] at h4
   obtain ⟨rfl,h5⟩:=h4
   have e1 : gotN bs = (0,0,290):=by unfold gotN;rw [hd]
   rw [e1]
   exact ⟨rfl,h1,(h5 (by unfold dNum;rw [hd];rfl) _ rfl).trans hnb⟩
 | some pp =>
   obtain ⟨n,r⟩:=pp
   have hg : readW dNum (fun _=>true) bs = some n:=by unfold readW dNum;rw [hd];rfl
   rw [hg] at h4
   obtain ⟨cs,rfl,rfl,h5⟩:=h4
   have e1 : gotN bs = (n,bs.length - r.length,0):=by unfold gotN;rw [hd]
   have e2 : kNum bs = bs.length - r.length:=by unfold kNum;rw [hd]
   rw [e2] at h5
   rw [e1]
   exact ⟨rfl,h1,h5⟩
theorem readPub_N {w : World} {p : Option Addr} {c : Nat} {bs : List UInt8} (hrd : RdB w (.slice p bs.length c) bs) (hl : bs.length ≤ 900000) :
 Calls Tryz.prog 37 #[.slice p bs.length c] w fun e W'=>e = .returned (.tuple #[.int .u64 ((gotN bs).1 : Int),.int .i64 ((gotN bs).2.1 : Int),.int .i64 (gotN bs).2.2]) ∧ Below w.heap.size w W':=by
 have HR:=yh (readNum_call hrd hl)
 clear hrd
 generalize gotN bs = res at *
 go_enter Tryz.func37,Tryz.ntmps37
 go_wp2_with (go_at_call 92;refine HR.out.mono ?_;rintro e W2 ⟨rfl,hb,hn⟩;have HB:=yh (And.intro hb hn);clear hb hn HR)
 obtain ⟨hb,hn⟩:=HB.out
 have hd : W2.drew.heap[w.heap.size + 1]? = some (.cells #[.int .i64 (res.2.1 : Int)] 3 (0,0)):=hn
 refine Kaj (fun W=>W.cell? ⟨w.heap.size + 1,0,none⟩ = some (.int .i64 (res.2.1 : Int))) (by kernel_rfl) (Kab (o:=0) hd rfl) (fun hS=>?_)
 refine tk 0 14 (v:=.int .u64 (res.1 : Int)) rfl rfl (fun W hW=>Kah rfl rfl) ?_
 simp only [Act.put,sA,sZ,sS]
 refine tk 1 15 (v:=.int .i64 (res.2.1 : Int)) rfl rfl (fun W hW=>Kaf rfl rfl (Kag (w:=W) Tryz.underlying3 rfl hW)) ?_
 simp only [Act.put,sA,sZ,sS]
 refine tk 2 16 (v:=.int .i64 res.2.2) rfl rfl (fun W hW=>Kah rfl rfl) ?_
 simp only [Act.put,sA,sZ,sS]
 refine tk 3 2 (v:=.int .u64 (res.1 : Int)) rfl rfl (fun W hW=>Kaz rfl rfl) ?_
 simp only [Act.put,sA,sZ,sS]
 refine tk 4 3 (v:=.int .i64 (res.2.1 : Int)) rfl rfl (fun W hW=>Kaz rfl rfl) ?_
 simp only [Act.put,sA,sZ,sS]
 refine tk 5 4 (v:=.int .i64 res.2.2) rfl rfl (fun W hW=>Kaz rfl rfl) ?_
 simp only [Act.put,sA,sZ,sS]
 refine done (by kernel_rfl) ?_ _
 have HF:=yh hb.drew
 clear hb hn hd hS HB
 go_wp2
 refine bodyPost_ret (results_tmp3 rfl _ _) rfl ?_
 exact ⟨rfl,HF.out⟩
theorem num_err (n : Int) (w : World) : Calls Tryz.prog 12 #[.int .i64 n] w fun e w'=>e = .returned (.int .i64 n) ∧ w = w':=by
 go_enter Tryz.func12,Tryz.ntmps12
 go_wp2
 go_ret
 exact ⟨rfl,rfl⟩
theorem eql_bytesS (a b : List UInt8) (W : World) : (binOp .eql 9 (.string (strB a)) (.string (strB b))).run Tryz.prog W = .ok (.bool (decide (a = b))) W:=by
 have e : (strB a = strB b) ↔ a = b:=strB_inj
 by_cases h : a = b
 ·subst h;simp [go_sem]
 ·rw [decide_eq_false h]
  simp [go_sem,Kb1,h]
theorem bytes_any {w : World} {p p2 : Option Addr} {c c2 : Nat} {l m : List UInt8} (h : RdB w (.slice p l.length c) l) (h2 : RdB w (.slice p2 m.length c2) m) : Calls Tryz.prog 14 #[.slice p l.length c,.slice p2 m.length c2] w fun e w'=>e = .returned (.bool (decide (l = m))) ∧ w = w':=by
 have H1:=yh (bytes_str h)
 have H2:=yh (bytes_str h2)
 have H3:=yh (eql_bytesS l m)
 clear h h2
 generalize strB l = x at *
 generalize strB m = y at *
 generalize decide (l = m) = r at *
 go_enter Tryz.func14,Tryz.ntmps14
 go_wp2_with (first
  | ((with_reducible apply Kcg);exact H1.out;exact rfl)
  | ((with_reducible apply Kcg);exact H2.out;exact rfl)
  | (refine Kbf rfl (exec_bins rfl rfl rfl (H3.out _)) ?_))
 go_ret
 exact ⟨rfl,rfl⟩
theorem own_rdB {w : World} {P : Nat → Prop} {o : Value} {l : List UInt8} (h : OwnsP w P 5 1 o l.length (l.map byteV)) : ∃ p c,o = .slice p l.length c ∧ RdB w (.slice p l.length c) l:=by
 have hc:=fun g=>h.1.cells (g:=g)
 rcases h.1.2 with ⟨rfl,h0⟩ | ⟨g,cap,cur,rfl,_,hg,hnc,hcm,_⟩
 ·have : l = []:=List.eq_nil_of_length_eq_zero h0
  subst this
  exact ⟨none,0,rfl,none,0,rfl,⟨Nat.le_refl _,by simp [maxLen],fun _=>rfl⟩,fun ad had=>by cases had⟩
 ·refine ⟨some ⟨g,0,none⟩,cap,rfl,some ⟨g,0,none⟩,cap,rfl,⟨hnc,hcm,fun h=>by cases h⟩,fun ad had=>⟨fun _=>by cases had;rfl,fun i b hb=>?_⟩⟩
  cases had
  have:=hc g rfl i (byteV b) (by rw [List.getElem?_map,hb];rfl)
  rw [Ka4] at this
  simpa [byteV] using this
theorem lit_rd {W : World} {g : Nat} {cs : Array Value} {T : TypeId} {l : List UInt8} (h : W.heap[g]? = some (.cells cs T (0,0))) (hc : cs.toList = l.map byteV) (hl : l.length ≤ 1000000) : RdB W (.slice (some ⟨g,0,none⟩) l.length l.length) l:=by
 refine ⟨some ⟨g,0,none⟩,l.length,rfl,⟨Nat.le_refl _,by unfold maxLen;omega,fun h=>by cases h⟩,fun ad had=>⟨fun _=>by cases had;rfl,fun i b hb=>?_⟩⟩
 cases had
 refine Kab (o:=0 + i) h ?_
 rw [Nat.zero_add,← Array.getElem?_toList,hc,List.getElem?_map,hb]
 rfl
def Keg : GraphD:=⟨[⟨0,[[65]],[]⟩],[],1,0⟩
theorem wk_okNm : okNm [65] = true:=by
 unfold okNm
 have : Lib.validD [65] = true:=by rfl
 rw [this];rfl
theorem wk_okG : okG Keg = true:=by
 unfold okG okSz okNs okRs okN Keg okPs
 simp [Kbg,Kch,wk_okNm]
theorem wk_graphC : Kep Keg = [1,0,1,1,65,0,0,1,0]:=by
 unfold Kep rowsC nodeC Keg rowsC textC toU
 simp [Kdj]
theorem wk_rng : rngG Keg:=by
 unfold rngG rngN rngR rngP Keg i64T
 simp
theorem wk_tot : totG Keg = 3:=rfl
theorem wk_wf : wfG Keg:=wf_of_okG wk_okG wk_rng (by rw [wk_tot];omega)
theorem wk_readG : readW rdGraph okG [1,0,1,1,65,0,0,1,0] = some Keg:=by
 rw [← wk_graphC]
 exact readW_of rt_graph wk_wf wk_okG
def Kcp : ChangeD:=⟨2,5,0,node0,rel0⟩
theorem wk_okC : ([Kcp] : List ChangeD).all okC = true:=by
 unfold okC Kcp
 simp
theorem wk_changesC : Kbk [Kcp] = [1,2,10]:=by
 unfold Kbk rowsC Ka9 Kcp zzN
 simp [Kdj]
theorem wk_readV : readW (rdVal 64) okV [0,0] = none:=by
 have : rdVal 64 [0,0] = some (.mk 0 false 0 [] [] [],[0]):=by
  rfl
 unfold readW
 rw [this]
theorem wk_readN : gotN [172,2,7] = (300,2,0):=by
 unfold gotN
 have h:=Kcu.full 300 [7] (by unfold u64T;omega)
 have e : numB 300 = [172,2]:=by rw [Keu (by omega),Kdj (by omega)];rfl
 rw [e] at h
 have e2 : ([172,2] : List UInt8) ++ [7] = [172,2,7]:=rfl
 rw [e2] at h
 rw [h]
 rfl
theorem rds_one {W : World} {g : Nat} {T : TypeId} {s : List UInt8} (h : W.heap[g]? = some (.cells #[.string (strB s)] T (0,0))) (hs : s.length ≤ 1000000) : RdS W (some ⟨g,0,none⟩) 1 [s]:=by
 refine ⟨Nat.le_refl _,⟨by simp,by omega⟩,(fun h=>by cases h),(fun x hx=>by simp at hx;subst hx;omega),fun ad had=>⟨fun _=>by cases had;rfl,fun i t ht=>?_⟩⟩
 cases had
 match i,ht with
 | 0,ht=>cases ht;exact Kab (o:=0) h rfl
 | n + 1,ht=>simp at ht
theorem wk_graph_rd {w : World} : GrRd (((w.alloc (.cells #[.string ⟨#[65]⟩] 9)).alloc (.cells #[.int .i64 0,.slice (some ⟨w.heap.size,0,none⟩) 1 1,.slice none 0 0] 70)).alloc (.cells #[.slice (some ⟨w.heap.size + 1,0,none⟩) 1 1,.slice none 0 0,.int .i64 1,.int .i64 0] 25)) Keg
 #[.slice (some ⟨w.heap.size + 1,0,none⟩) 1 1,.slice none 0 0,.int .i64 1,.int .i64 0]:=by
 have h1 : (((w.alloc (.cells #[.string ⟨#[65]⟩] 9)).alloc (.cells #[.int .i64 0,.slice (some ⟨w.heap.size,0,none⟩) 1 1,.slice none 0 0] 70)).alloc (.cells #[.slice (some ⟨w.heap.size + 1,0,none⟩) 1 1,.slice none 0 0,.int .i64 1,.int .i64 0] 25)).heap[w.heap.size + 1]? = some (.cells #[.int .i64 0,.slice (some ⟨w.heap.size,0,none⟩) 1 1,.slice none 0 0] 70 (0,0)):=by
  simp only [Kam,World.size_alloc];rw [if_neg (by omega),if_pos trivial]
 have h0 : (((w.alloc (.cells #[.string ⟨#[65]⟩] 9)).alloc (.cells #[.int .i64 0,.slice (some ⟨w.heap.size,0,none⟩) 1 1,.slice none 0 0] 70)).alloc (.cells #[.slice (some ⟨w.heap.size + 1,0,none⟩) 1 1,.slice none 0 0,.int .i64 1,.int .i64 0] 25)).heap[w.heap.size]? = some (.cells #[.string ⟨#[65]⟩] 9 (0,0)):=by
  simp only [Kam,World.size_alloc];rw [if_neg (by omega),if_neg (by omega),if_pos trivial]
 refine ⟨some ⟨w.heap.size + 1,0,none⟩,1,none,0,rfl,grd_one h1 rfl ?_,grd_none⟩
 exact ⟨some ⟨w.heap.size,0,none⟩,1,none,0,rfl,rds_one (s:=[65]) h0 (by simp),grd_none⟩
theorem wk_callG {w : World} (hE : Env w) : Calls Tryz.prog 11 #[.agg #[.slice (some ⟨w.heap.size + 1,0,none⟩) 1 1,.slice none 0 0,.int .i64 1,.int .i64 0]]
 (((w.alloc (.cells #[.string ⟨#[65]⟩] 9)).alloc (.cells #[.int .i64 0,.slice (some ⟨w.heap.size,0,none⟩) 1 1,.slice none 0 0] 70)).alloc (.cells #[.slice (some ⟨w.heap.size + 1,0,none⟩) 1 1,.slice none 0 0,.int .i64 1,.int .i64 0] 25)) fun e W=>∃ p c,e = .returned (.tuple #[.slice p 9 c,.int .i64 0]) ∧ RdB W (.slice p 9 c) [1,0,1,1,65,0,0,1,0] ∧ Below w.heap.size w W:=by
 have hb : Below w.heap.size w (((w.alloc (.cells #[.string ⟨#[65]⟩] 9)).alloc (.cells #[.int .i64 0,.slice (some ⟨w.heap.size,0,none⟩) 1 1,.slice none 0 0] 70)).alloc (.cells #[.slice (some ⟨w.heap.size + 1,0,none⟩) 1 1,.slice none 0 0,.int .i64 1,.int .i64 0] 25)):=((Kac _).alloc (by simp) _).alloc (by simp;omega) _
 refine (codecGraph_any (hE.b hb) wk_graph_rd wk_rng (by rw [wk_tot];omega)).mono ?_
 rintro e W ⟨o,rfl,ho,hbw⟩
 have e1 : outG Keg = [1,0,1,1,65,0,0,1,0]:=by unfold outG;rw [wk_okG,wk_graphC];rfl
 rw [e1] at ho
 obtain ⟨p,c,rfl,hr⟩:=own_rdB ho
 exact ⟨p,c,by rw [wk_okG];rfl,hr,Kaa hb hbw⟩
theorem wk_callRG {W : World} (hE : Env W) {p : Option Addr} {c : Nat} (h : RdB W (.slice p 9 c) [1,0,1,1,65,0,0,1,0]) : Calls Tryz.prog 16 #[.slice p 9 c] W fun e W'=>∃ pn cn vr,e = .returned (.tuple #[.agg #[.slice pn 1 cn,vr,.int .i64 1,.int .i64 0],.int .i64 0]) ∧ vr.oneCell' = true ∧ Below W.heap.size W W':=by
 refine (readPub_G (bs:=[1,0,1,1,65,0,0,1,0]) hE h (by simp)).mono ?_
 rintro e W' ⟨cs,rfl,ho,hb⟩
 rw [wk_readG] at ho ⊢
 obtain ⟨vn,vr,rfl,h1,h2⟩:=ho
 obtain ⟨pn,cn,rfl⟩:=h1.slice
 refine ⟨pn,cn,vr,rfl,?_,hb⟩
 obtain ⟨xs,h3,_⟩:=h2
 exact Kdn h3
abbrev wkCh : Array Value:=#[.int .i64 2,.int .i64 5,.int .i64 0,.int .i64 0,.slice none 0 0,.slice none 0 0,.int .i64 0,.int .i64 0,.int .i64 0,.string ⟨#[]⟩,.slice none 0 0]
theorem wk_change_rd {W : World} : CRd W Kcp wkCh :=
 ⟨#[.int .i64 0,.slice none 0 0,.slice none 0 0],#[.int .i64 0,.int .i64 0,.int .i64 0,.string ⟨#[]⟩,.slice none 0 0],rfl,⟨none,0,none,0,rfl,⟨Nat.le_refl _,⟨by simp [Kcp,node0],by omega⟩,fun _=>rfl,fun s hs=>(by simp [Kcp,node0] at hs),fun ad h=>by cases h⟩,grd_none⟩,⟨none,0,rfl,by simp [Kcp,rel0],grd_none⟩⟩
theorem wk_callC {W : World} (hE : Env W) : Calls Tryz.prog 27 #[.slice (some ⟨W.heap.size,0,none⟩) 1 1] (W.alloc (.cells wkCh 74)) fun e W'=>∃ p c,e = .returned (.tuple #[.slice p 3 c,.int .i64 0]) ∧ RdB W' (.slice p 3 c) [1,2,10] ∧ Below W.heap.size W W':=by
 have hb:=Kac (w:=W) (.cells wkCh 74)
 have hx:=heap_alloc_new W (.cells wkCh 74)
 refine (Kdz (l:=[Kcp]) (hE.b hb) (grd_one hx rfl wk_change_rd) (fun x hx=>?_) (by simp [Kcp,totC,totN,totR,node0,rel0,totLs,totPs])).mono ?_
 ·simp only [List.mem_cons,List.not_mem_nil,or_false] at hx
  subst hx
  exact ⟨by unfold Kcp i64T;simp,by unfold Kcp i64T;simp,by unfold Kcp i64T;simp,Key,rng_rel0⟩
 ·rintro e W' ⟨o,rfl,ho,hbw⟩
  have e1 : outC [Kcp] = [1,2,10]:=by unfold outC;rw [wk_okC,wk_changesC];rfl
  have e2 : errC [Kcp] = 0:=by unfold errC;rw [wk_okC];rfl
  rw [e1] at ho
  obtain ⟨p,c,rfl,hr⟩:=own_rdB ho
  exact ⟨p,c,by rw [e2];rfl,hr,Kaa hb hbw⟩
theorem wk_callRV {W : World} (hE : Env W) : Calls Tryz.prog 23 #[.slice (some ⟨W.heap.size,0,none⟩) 2 2] (W.alloc (.cells #[.int .u8 0,.int .u8 0] 5)) fun e W'=>∃ cs,e = .returned (.tuple #[.agg cs,.int .i64 290]) ∧ (cs.size = 6 ∧ ∀ u ∈ cs.toList,u.oneCell' = true) ∧ Below W.heap.size W W':=by
 have hb:=Kac (w:=W) (.cells #[.int .u8 0,.int .u8 0] 5)
 have hx:=heap_alloc_new W (.cells #[.int .u8 0,.int .u8 0] 5)
 refine (readPub_V (bs:=[0,0]) (hE.b hb) (lit_rd (l:=[0,0]) hx rfl (by simp)) (by simp)).mono ?_
 rintro e W' ⟨cs,rfl,ho,hbw⟩
 rw [wk_readV] at ho ⊢
 exact ⟨cs,rfl,⟨ho.size6,ho.ones⟩,Kaa hb hbw⟩
theorem wk_callRN {W : World} : Calls Tryz.prog 37 #[.slice (some ⟨W.heap.size,0,none⟩) 3 3] (W.alloc (.cells #[.int .u8 172,.int .u8 2,.int .u8 7] 5)) fun e W'=>e = .returned (.tuple #[.int .u64 300,.int .i64 2,.int .i64 0]) ∧ Below W.heap.size W W':=by
 have hb:=Kac (w:=W) (.cells #[.int .u8 172,.int .u8 2,.int .u8 7] 5)
 have hx:=heap_alloc_new W (.cells #[.int .u8 172,.int .u8 2,.int .u8 7] 5)
 refine (readPub_N (bs:=[172,2,7]) (lit_rd (l:=[172,2,7]) hx rfl (by simp)) (by simp)).mono ?_
 rintro e W' ⟨rfl,hbw⟩
 rw [wk_readN]
 exact ⟨rfl,Kaa hb hbw⟩
abbrev wkL9 : Array Value:=#[.int .u8 1,.int .u8 0,.int .u8 1,.int .u8 1,.int .u8 65,.int .u8 0,.int .u8 0,.int .u8 1,.int .u8 0]
abbrev wkL3 : Array Value:=#[.int .u8 1,.int .u8 2,.int .u8 10]
theorem wk_bytes9 {W : World} {p : Option Addr} {c : Nat} (h : RdB W (.slice p 9 c) [1,0,1,1,65,0,0,1,0]) : Calls Tryz.prog 14 #[.slice p 9 c,.slice (some ⟨W.heap.size,0,none⟩) 9 9] (W.alloc (.cells wkL9 5)) fun e W'=>e = .returned (.bool true) ∧ W.alloc (.cells wkL9 5) = W':=by
 have hb:=Kac (w:=W) (.cells wkL9 5)
 refine (bytes_any (l:=[1,0,1,1,65,0,0,1,0]) (m:=[1,0,1,1,65,0,0,1,0]) (h.below hb) (lit_rd (l:=[1,0,1,1,65,0,0,1,0]) (heap_alloc_new W (.cells wkL9 5)) rfl (by simp))).mono ?_
 rintro e W' ⟨rfl,rfl⟩
 exact ⟨rfl,rfl⟩
theorem wk_bytes3 {W : World} {p : Option Addr} {c : Nat} (h : RdB W (.slice p 3 c) [1,2,10]) : Calls Tryz.prog 14 #[.slice p 3 c,.slice (some ⟨W.heap.size,0,none⟩) 3 3] (W.alloc (.cells wkL3 5)) fun e W'=>e = .returned (.bool true) ∧ W.alloc (.cells wkL3 5) = W':=by
 have hb:=Kac (w:=W) (.cells wkL3 5)
 refine (bytes_any (l:=[1,2,10]) (m:=[1,2,10]) (h.below hb) (lit_rd (l:=[1,2,10]) (heap_alloc_new W (.cells wkL3 5)) rfl (by simp))).mono ?_
 rintro e W' ⟨rfl,rfl⟩
 exact ⟨rfl,rfl⟩
theorem worksG_any {w : World} (hE : Env w) : Calls Tryz.prog 10 #[] w fun e w'=>e = .returned (.bool true) ∧ Below w.heap.size w w':=by
 have HG:=yh (wk_callG hE)
 have HE:=yh hE
 clear hE
 go_enter Tryz.func10,Tryz.ntmps10
 go_wp2_with (first
  | (go_at_call 11;refine HG.out.mono ?_;rintro e W2 ⟨p,c,rfl,hr,hb⟩;have H2:=yh (And.intro hr hb);clear hr hb HG)
  | (go_at_call 16;refine (wk_callRG (HE.out.b H2.out.2) H2.out.1).mono ?_;rintro e W3 ⟨pn,cn,vr,rfl,hv,hb⟩
     (
      have HS:=yh (Kay.fresh (P:=Tryz.prog) (W:=W3) (cs:=#[.slice pn 1 cn,vr,.int .i64 1,.int .i64 0]) rfl (by intro u hu;simp only [List.mem_cons,List.not_mem_nil,or_false] at hu;rcases hu with rfl | rfl | rfl | rfl <;> first | rfl | assumption))
      have H3:=yh (And.intro (H2.out.1.below hb) (Kaa H2.out.2 hb))
      clear hv hb H2))
  | ((with_reducible apply Kae);exact HS.out _ rfl;exact rfl;exact rfl
     (
      have hbn:=Kac (w:=W3) (.cells #[.slice pn 1 cn,vr,.int .i64 1,.int .i64 0] 25)
      have H4:=yh (And.intro (H3.out.1.below hbn) (And.intro (Kaa H3.out.2 hbn) (heap_alloc_new W3 (.cells #[.slice pn 1 cn,vr,.int .i64 1,.int .i64 0] 25))))
      clear hbn HS H3
      generalize W3.alloc (.cells #[.slice pn 1 cn,vr,.int .i64 1,.int .i64 0] 25) = W4 at *
      generalize W3.heap.size = B4 at *
      have HC:=yh (wk_callC (HE.out.b H4.out.2.1))))
  | (go_at_call 27
     (
      refine HC.out.mono ?_;rintro e W5 ⟨p5,c5,rfl,hr5,hb⟩
      have H5:=yh (And.intro (H4.out.1.below hb) (And.intro (Kaa H4.out.2.1 hb) (And.intro (Kai hb (Array.getElem?_eq_some_iff.1 H4.out.2.2).1 H4.out.2.2) hr5)))
      clear hb hr5 HC H4
      have HV:=yh (wk_callRV (HE.out.b H5.out.2.1))))
  | (go_at_call 23
     (
      refine HV.out.mono ?_;rintro e W6 ⟨cv,rfl,hcv,hb⟩
      have HS2:=yh (Kbp.fresh (P:=Tryz.prog) (W:=W6) hcv.1 hcv.2)
      have H6:=yh (And.intro (H5.out.1.below hb) (And.intro (Kaa H5.out.2.1 hb) (And.intro (Kai hb (Array.getElem?_eq_some_iff.1 H5.out.2.2.1).1 H5.out.2.2.1) (H5.out.2.2.2.below hb))))
      clear hb hcv HV H5))
  | ((with_reducible apply Kae);exact HS2.out _ rfl;exact rfl;exact rfl
     (
      have hbn:=Kac (w:=W6) (.cells cv 48)
      have H7:=yh (And.intro (H6.out.1.below hbn) (And.intro (Kaa H6.out.2.1 hbn) (And.intro (Kai hbn (Array.getElem?_eq_some_iff.1 H6.out.2.2.1).1 H6.out.2.2.1) (H6.out.2.2.2.below hbn))))
      clear hbn HS2 H6
      generalize W6.alloc (.cells cv 48) = W7 at *
      generalize W6.heap.size = B6 at *
      have HN:=yh (wk_callRN (W:=W7))))
  | (go_at_call 37
     (
      refine HN.out.mono ?_;rintro e W8 ⟨rfl,hb⟩
      have H8:=yh (And.intro (H7.out.1.below hb) (And.intro (Kaa H7.out.2.1 hb) (And.intro (Kai hb (Array.getElem?_eq_some_iff.1 H7.out.2.2.1).1 H7.out.2.2.1) (H7.out.2.2.2.below hb))))
      clear hb HN H7))
  | (go_at_call 12;refine (num_err _ _).mono ?_;rintro e w' ⟨rfl,rfl⟩)
  | (go_at_call 14
     (
      refine (wk_bytes9 H8.out.1).mono ?_
      rintro e W9 ⟨rfl,h9⟩
      have hb:=Kac (w:=W8) (.cells wkL9 5)
      rw [h9] at hb
      have hc4:=Kab (o:=0) (Kai hb (Array.getElem?_eq_some_iff.1 H8.out.2.2.1).1 H8.out.2.2.1) rfl
      have H9:=yh (And.intro (Kaa H8.out.2.1 hb) (H8.out.2.2.2.below hb))
      clear hb h9 H8))
  | (go_at_call 14
     (
      refine (wk_bytes3 H9.out.2).mono ?_
      rintro e W10 ⟨rfl,h10⟩
      have hb:=Kac (w:=W9) (.cells wkL3 5)
      rw [h10] at hb
      have H10:=yh (Kaa H9.out.1 hb)
      clear hb h10 H9)))
 go_ret
 exact ⟨rfl,H10.out⟩
def SizeLo (left tot r : Nat) : Prop:=(tot ≤ left → r = tot) ∧ (left < tot → left < r) ∧ r ≤ left + 281474976710657
def kSum (ks : List (List UInt8)) : Nat:=(ks.map List.length).sum
theorem kSum_step {ks : List (List UInt8)} {j : Nat} (h : j < ks.length) : kSum (ks.take (j + 1)) = kSum (ks.take j) + ks[j].length:=by
 unfold kSum;rw [List.take_succ_eq_append_getElem h,List.map_append,List.sum_append];simp
theorem kSum_le (ks : List (List UInt8)) (j : Nat) : kSum (ks.take j) ≤ kSum ks:=by
 have e : ks.take j ++ ks.drop j = ks:=List.take_append_drop _ _
 have:=congrArg kSum e
 unfold kSum at *
 rw [List.map_append,List.sum_append] at this
 omega
theorem tVs_step {l : List V} {j : Nat} (h : j < l.length) : totVs (l.take (j + 1)) = totVs (l.take j) + totV l[j]:=by
 rw [List.take_succ_eq_append_getElem h,totVs_append];simp [totVs]
theorem tVs_le (l : List V) (j : Nat) : totVs (l.take j) ≤ totVs l:=by
 have e : l.take j ++ l.drop j = l:=List.take_append_drop _ _
 have:=congrArg totVs e
 rw [totVs_append] at this
 omega
theorem vsz_any : ∀ (v : V) (left : Nat),left ≤ 3000 → ∀ (w : World) (x : Array Value),VRd w v x →
 Calls Tryz.prog 19 #[.agg x,.int .i64 (left : Int)] w fun e w'=>(∃ r : Nat,e = .returned (.int .i64 (r : Int)) ∧ SizeLo left (totV v) r) ∧ Below w.heap.size w w':=by
 refine V.ind fun k b n t ks l ih=>?_
 intro left hle w x hx
 rw [totV_mk]
 obtain ⟨pk,ck,pl,cl,rfl,htx,hk1,hl1⟩:=Kdo.1 hx
 have hT:=OneB.start w #[.int .i64 k,.bool b,.int .i64 n,.string (strB t),.slice pk ks.length ck,.slice pl l.length cl]
 have z1 : (ks.length : Int) ≤ 140737488355328:=by have:=hk1.2.1.1;omega
 have z2 : (l.length : Int) ≤ 140737488355328:=by have:=hl1.1.2.1.1;omega
 have z3 : (t.length : Int) ≤ 140737488355328:=by omega
 have z4 : (left : Int) ≤ 3000:=by omega
 have hst : (strB t).size = t.length:=rfl
 have HI:=yh (fun (a : V) (ha : a ∈ l)=>ih a ha)
 have HK:=yh hk1
 have HL:=yh hl1
 have HT:=yh hT
 clear ih hx hk1 hl1 hT hle
 go_enter Tryz.func19,Tryz.ntmps19
 go_wp2
 go_loopw [5,6] (fun m i W=>∃ j nn : Nat,j ≤ ks.length ∧ i = .int .i64 (j : Int) ∧ m = .int .i64 (nn : Int) ∧ nn ≤ left + 281474976710657 ∧ Hid (nn = 1 + t.length + j + kSum (ks.take j)) ∧ Hid (OneB w W #[.int .i64 k,.bool b,.int .i64 n,.string (strB t),.slice pk ks.length ck,.slice pl l.length cl])) (fun _ i _=>ks.length - (intOf i).toNat)
 case atStart =>
  exact ⟨0,1 + t.length,Nat.zero_le _,rfl,by go_num,by omega,yh (by simp [kSum]),HT⟩
 case round =>
  obtain ⟨j,nn,hj,rfl,rfl,hnb,HS,HT2⟩:=hrel
  clear HT
  have p4:=Kab (o:=4) HT2.out.1 rfl
  have z5 : (nn : Int) ≤ 281474976713657:=by omega
  by_cases hlt : j < ks.length
  ·have hlt1 : j + 1 ≤ ks.length:=hlt
   by_cases hle : nn ≤ left
   ·have hle1 : (nn : Int) ≤ (left : Int):=by omega
    obtain ⟨bk,ok,rfl,q0,hsl⟩:=(HK.out.below HT2.out.2).get hlt
    have hstep:=kSum_step hlt
    generalize ks[j] = kk at *
    have hszk : (strB kk).size = kk.length:=rfl
    have z6 : (kk.length : Int) ≤ 140737488355328:=by omega
    have HF:=yh (And.intro hstep HS.out)
    clear hstep HS
    go_wp2
    go_roundw
    case rel=>exact ⟨j + 1,nn + 1 + kk.length,hlt1,by go_num,by go_num,by omega,yh (by have:=HF.out.1;have:=HF.out.2;omega),HT2⟩
    case measure=>simp [intOf];omega
   ·have hle1 : ¬ (nn : Int) ≤ (left : Int):=by omega
    have hle0 : decide ((nn : Int) ≤ (left : Int)) = false:=by simpa using hle1
    have hsum:=kSum_le ks j
    have HF:=yh (And.intro hsum (And.intro HS.out hle))
    clear hsum HS
    go_wp2
    go_loopw [5,7] (fun m i W=>∃ j2 n2 : Nat,j2 ≤ l.length ∧ i = .int .i64 (j2 : Int) ∧ m = .int .i64 (n2 : Int) ∧ n2 ≤ left + 281474976710657 ∧ Hid ((1 + t.length + ks.length + kSum ks + totVs (l.take j2) ≤ left → n2 = 1 + t.length + ks.length + kSum ks + totVs (l.take j2)) ∧ (left < 1 + t.length + ks.length + kSum ks + totVs (l.take j2) → left < n2)) ∧ Hid (OneB w W #[.int .i64 k,.bool b,.int .i64 n,.string (strB t),.slice pk ks.length ck,.slice pl l.length cl])) (fun _ i _=>l.length - (intOf i).toNat)
    case atStart=>exact ⟨0,nn,Nat.zero_le _,rfl,rfl,hnb,yh (by
     have h:=HF.out
     rw [List.take_zero]
     simp only [totVs]
     exact ⟨fun h2=>by omega,fun _=>by omega⟩),HT2⟩
    case round =>
     clear p4 HT2 HF hnb z5
     obtain ⟨j2,n2,hj2,rfl,rfl,hnb2,HQ,HT3⟩:=hrel
     have p5:=Kab (o:=5) HT3.out.1 rfl
     have z6 : (n2 : Int) ≤ 281474976713657:=by omega
     by_cases hlt2 : j2 < l.length
     ·have hlt3 : j2 + 1 ≤ l.length:=hlt2
      by_cases hle2 : n2 ≤ left
      ·have hle3 : (n2 : Int) ≤ (left : Int):=by omega
       obtain ⟨g1,o1,pk1,ck1,pl1,cl1,rfl,⟨a0,a1,a2,a3,a4,a5⟩,hv1⟩:=(HL.out.below HT3.out.2).at hlt2
       have hstep:=tVs_step hlt2
       have hsub : ((left : Int) - (n2 : Int)) = ((left - n2 : Nat) : Int):=by omega
       have hcall:=HI.out l[j2] (List.getElem_mem hlt2) (left - n2) (by omega) wr _ hv1
       rw [← hsub] at hcall
       generalize l[j2] = s1 at *
       have HD:=yh (And.intro hcall (And.intro hstep (And.intro HQ.out HT3.out)))
       clear hcall hstep hv1 hsub
       go_wp2_with (go_at_call 19
                    (
                      refine HD.out.1.mono ?_
                      rintro e w3 ⟨⟨r,rfl,hr⟩,hb3⟩
                      have HG:=yh (And.intro hr (HD.out.2.2.2.below hb3))
                      have z7 : (r : Int) ≤ 281474976713657:=by have:=hr.2.2;omega
                      clear hr hb3))
       go_roundw
       case rel =>
        obtain ⟨⟨h1,h2,h3⟩,hT4⟩:=HG.out
        obtain ⟨_,hstep,⟨g1,g2⟩,_⟩:=HD.out
        refine ⟨j2 + 1,n2 + r,hlt3,by go_num,by go_num,by omega,yh ⟨fun h=>?_,fun h=>?_⟩,yh hT4⟩
        ·rw [hstep] at h ⊢
         have e1:=g1 (by omega)
         have e2:=h1 (by omega)
         omega
        ·rw [hstep] at h
         by_cases hc : 1 + t.length + ks.length + kSum ks + totVs (l.take j2) ≤ left
         ·have e1:=g1 hc
          have e2:=h2 (by omega)
          omega
         ·have:=g2 (by omega);omega
       case measure=>simp [intOf];omega
      ·have hle3 : ¬ (n2 : Int) ≤ (left : Int):=by omega
       have hle4 : decide ((n2 : Int) ≤ (left : Int)) = false:=by simpa using hle3
       have hsum:=tVs_le l j2
       have HF2:=yh (And.intro HQ.out (And.intro hsum (And.intro HT3.out.2 hle2)))
       clear hsum
       go_wp2
       go_ret
       obtain ⟨⟨g1,g2⟩,hsum,hbb,hgt⟩:=HF2.out
       refine ⟨⟨n2,rfl,⟨fun h=>?_,fun h=>by omega,hnb2⟩⟩,hbb⟩
       exact absurd (g1 (by unfold kSum;omega)) (by unfold kSum;omega)
     ·obtain rfl : j2 = l.length:=by omega
      have HF2:=yh (And.intro HQ.out HT3.out.2)
      go_wp2
      go_ret
      obtain ⟨⟨g1,g2⟩,hbb⟩:=HF2.out
      rw [List.take_length] at g1 g2
      exact ⟨⟨n2,rfl,⟨g1,g2,hnb2⟩⟩,hbb⟩
  ·obtain rfl : j = ks.length:=by omega
   have HF:=yh HS.out
   clear HS
   go_wp2
   go_loopw [5,7] (fun m i W=>∃ j2 n2 : Nat,j2 ≤ l.length ∧ i = .int .i64 (j2 : Int) ∧ m = .int .i64 (n2 : Int) ∧ n2 ≤ left + 281474976710657 ∧ Hid ((1 + t.length + ks.length + kSum ks + totVs (l.take j2) ≤ left → n2 = 1 + t.length + ks.length + kSum ks + totVs (l.take j2)) ∧ (left < 1 + t.length + ks.length + kSum ks + totVs (l.take j2) → left < n2)) ∧ Hid (OneB w W #[.int .i64 k,.bool b,.int .i64 n,.string (strB t),.slice pk ks.length ck,.slice pl l.length cl])) (fun _ i _=>l.length - (intOf i).toNat)
   case atStart=>exact ⟨0,nn,Nat.zero_le _,rfl,rfl,hnb,yh (by
    have h:=HF.out
    rw [List.take_zero]
    simp only [totVs]
    rw [List.take_length] at h;exact ⟨fun h2=>by omega,fun _=>by omega⟩),HT2⟩
   case round =>
    clear p4 HT2 HF hnb z5
    obtain ⟨j2,n2,hj2,rfl,rfl,hnb2,HQ,HT3⟩:=hrel
    have p5:=Kab (o:=5) HT3.out.1 rfl
    have z6 : (n2 : Int) ≤ 281474976713657:=by omega
    by_cases hlt2 : j2 < l.length
    ·have hlt3 : j2 + 1 ≤ l.length:=hlt2
     by_cases hle2 : n2 ≤ left
     ·have hle3 : (n2 : Int) ≤ (left : Int):=by omega
      obtain ⟨g1,o1,pk1,ck1,pl1,cl1,rfl,⟨a0,a1,a2,a3,a4,a5⟩,hv1⟩:=(HL.out.below HT3.out.2).at hlt2
      have hstep:=tVs_step hlt2
      have hsub : ((left : Int) - (n2 : Int)) = ((left - n2 : Nat) : Int):=by omega
      have hcall:=HI.out l[j2] (List.getElem_mem hlt2) (left - n2) (by omega) wr _ hv1
      rw [← hsub] at hcall
      generalize l[j2] = s1 at *
      have HD:=yh (And.intro hcall (And.intro hstep (And.intro HQ.out HT3.out)))
      clear hcall hstep hv1 hsub
      go_wp2_with (go_at_call 19
                   (
                     refine HD.out.1.mono ?_
                     rintro e w3 ⟨⟨r,rfl,hr⟩,hb3⟩
                     have HG:=yh (And.intro hr (HD.out.2.2.2.below hb3))
                     have z7 : (r : Int) ≤ 281474976713657:=by have:=hr.2.2;omega
                     clear hr hb3))
      go_roundw
      case rel =>
       obtain ⟨⟨h1,h2,h3⟩,hT4⟩:=HG.out
       obtain ⟨_,hstep,⟨g1,g2⟩,_⟩:=HD.out
       refine ⟨j2 + 1,n2 + r,hlt3,by go_num,by go_num,by omega,yh ⟨fun h=>?_,fun h=>?_⟩,yh hT4⟩
       ·rw [hstep] at h ⊢
        have e1:=g1 (by omega)
        have e2:=h1 (by omega)
        omega
       ·rw [hstep] at h
        by_cases hc : 1 + t.length + ks.length + kSum ks + totVs (l.take j2) ≤ left
        ·have e1:=g1 hc
         have e2:=h2 (by omega)
         omega
        ·have:=g2 (by omega);omega
      case measure=>simp [intOf];omega
     ·have hle3 : ¬ (n2 : Int) ≤ (left : Int):=by omega
      have hle4 : decide ((n2 : Int) ≤ (left : Int)) = false:=by simpa using hle3
      have hsum:=tVs_le l j2
      have HF2:=yh (And.intro HQ.out (And.intro hsum (And.intro HT3.out.2 hle2)))
      clear hsum
      go_wp2
      go_ret
      obtain ⟨⟨g1,g2⟩,hsum,hbb,hgt⟩:=HF2.out
      refine ⟨⟨n2,rfl,⟨fun h=>?_,fun h=>by omega,hnb2⟩⟩,hbb⟩
      exact absurd (g1 (by unfold kSum;omega)) (by unfold kSum;omega)
    ·obtain rfl : j2 = l.length:=by omega
     have HF2:=yh (And.intro HQ.out HT3.out.2)
     go_wp2
     go_ret
     obtain ⟨⟨g1,g2⟩,hbb⟩:=HF2.out
     rw [List.take_length] at g1 g2
     exact ⟨⟨n2,rfl,⟨g1,g2,hnb2⟩⟩,hbb⟩
end Go.Proofs.YthdfedfholmbmaaGreatDoor
