/- GraphApply, for what is of bulk at most 1048576: the law returns true, and the arguments read as they did. The listed tables of Go's library read as the program's text lays them. -/
import Derived.Test.YtihfnegakcghiaaGreatDoorZGapplyb
import Derived.Test.YtihfnegakcghiaaGreatDoorZGapplye
import Derived.Test.YtihfnegakcghiaaGreatDoorCards
import Derived.Test.YtihfnegakcghiaaGreatDoorTie
set_option linter.unusedSimpArgs false
set_option linter.unusedVariables false
set_option linter.unnecessarySimpa false
set_option maxRecDepth 100000
set_option maxHeartbeats 64000000
namespace Go.Proofs.YtihfnegakcghiaaGreatDoor
open Go.RowKit
theorem len_putN (n : NodeD) (l : List NodeD) : (putN n l).length ≤ l.length + 1:=by rw [putN_eq];exact len_putBy NodeD.id n l
theorem len_putR (n : RelD) (l : List RelD) : (putR n l).length ≤ l.length + 1:=by rw [putR_eq];exact len_putBy RelD.id n l
theorem refapply_any {w : World} {g : GraphD} {x : Array Value} (h : GrRd w g x) {p : Option Addr} {c : Nat} {l : List ChangeD} (hl : GRd CRd 11 w p c l) (ht : GApt g l.length) (hcs : ∀ c ∈ l,NOk c.node ∧ ROk c.rel) :
 Calls Tryz.prog 19 #[.agg x,.slice p l.length c] w fun e w'=>∃ y,e = .returned (.tuple #[.agg y,.int .i64 (Kbz g l).2]) ∧ GrRd w' (Kbz g l).1 y ∧ Below w.heap.size w w':=by
 have ha:=AP.start h
 have hb2:=Kai (w:=w.alloc (.cells x 25)) (.cells grZ 25)
 obtain ⟨xh,hld,hrd⟩:=ha.rd
 have hlx : xh = x:=by
  have e1:=StT.get (P:=Tryz.prog) Kay (Kbs.size h) (Kak hb2 (by simp) (heap_alloc_new w (.cells x 25)))
  have:=e1.symm.trans hld
  simpa using this.symm
 subst hlx
 have HLX:=yh hld
 have HCX:=yh (refcheck_any hrd ht.ok.tot)
 have HA0:=yh ha
 have z1 : (l.length : Int) ≤ 140737488355328:=by have:=hl.1.2.1;omega
 have HIN:=yh (And.intro hl (And.intro ht hcs))
 clear hb2 hld hrd ha h hl ht hcs
 cases hok : okG g with
 | false =>
   rw [hok] at HCX
   have HD:=yh (show Kbz g l = (Kbu,2) by unfold Kbz;rw [if_pos hok])
   clear hok
   go_enter Tryz.func19,Tryz.ntmps19
   go_wp2_with (first
    | ((with_reducible apply Kap);exact HLX.out;exact rfl;clear HLX)
    | (go_at_call 11
       (
        refine HCX.out.mono ?_
        rintro e W5 ⟨rfl,hb5⟩
        obtain ⟨W3,d1,d2,d3,d4⟩:=(HA0.out.below hb5).zero
        have HST:=yh d1
        have HLE:=yh d2
        have HF:=yh (And.intro d3 d4)
        clear d1 d2 d3 d4 hb5))
    | ((with_reducible apply Kaq);exact HST.out;exact rfl;exact rfl;clear HST))
   refine bodyPost_ret (Ka2 rfl _ _ ⟨w.heap.size + 1,0,none⟩ _ rfl HLE.out) rfl ?_
   rw [HD.out]
   exact ⟨_,rfl,HF.out⟩
 | true =>
   rw [hok] at HCX
   have HOK:=yh hok
   clear hok
   go_enter Tryz.func19,Tryz.ntmps19
   go_wp2_with (first
    | ((with_reducible apply Kap);exact HLX.out;exact rfl;clear HLX)
    | (go_at_call 11;refine HCX.out.mono ?_;rintro e W5 ⟨rfl,hb5⟩;have HA:=yh (HA0.out.below hb5);clear hb5))
   go_loopw [6] (fun i wr=>∃ j : Nat,j ≤ l.length ∧ i = .int .i64 (j : Int) ∧ Hid (∃ x,Kbw g (l.take j) = some x ∧ AP w wr x)) (fun i _=>l.length - (intOf i).toNat)
   case atStart=>exact ⟨0,Nat.zero_le _,rfl,yh ⟨g,rfl,HA.out⟩⟩
   case round =>
    clear HA
    obtain ⟨j,hj,rfl,HJ⟩:=hrel
    obtain ⟨h,hap,ha⟩:=HJ.out
    by_cases hlt : j < l.length
    ·have hlt1:=Nat.succ_le_of_lt hlt
     obtain ⟨b,of,cs,rfl,hs,hc,hv⟩:=(HIN.out.1.below (fun h=>h.below ha.b) ha.b).get hlt
     have HL1:=yh (StT.load (P:=Tryz.prog) (g:=b) (o:=of + j * 11) (W:=wr) st_change hs fun i u hu=>hc i u hu)
     have HS1:=yh (StT.fresh st_change hs (ef_change.ones hv) (W:=wr))
     have hbn:=Kai (w:=wr) (.cells cs 55)
     have hbx:=heap_alloc_new wr (.cells cs 55)
     have han:=ha.below hbn
     have hst:=apply_step hap hlt
     have hcut:=apply_cut hap hlt
     have htc:=HIN.out.2.2 _ (List.getElem_mem hlt)
     have hbd : GApt h (l.length - j):=by
      refine GApt.all (l.take j) (g:=g) ?_ (fun c hc=>HIN.out.2.2 c (List.mem_of_mem_take hc)) hap
      have e : (l.take j).length + (l.length - j) = l.length:=by rw [List.length_take];omega
      rw [e];exact HIN.out.2.1
     have hvV : CRd (mask (two w.heap.size) (wr.alloc (.cells cs 55))) l[j] cs:=by
      obtain ⟨b',of',cs',e',hs',hc',hv'⟩:=HIN.out.1.get hlt
      cases e'
      have ecs : cs' = cs:=by
       apply Array.ext (by rw [hs,hs'])
       intro k q1 q2
       have g1:=hc' k _ (Array.getElem?_eq_getElem q1)
       have g2:=hc k _ (Array.getElem?_eq_getElem q2)
       exact Option.some.inj ((Kag ha.b (ltOf g1) g1).symm.trans g2)
      subst ecs
      exact hv'.ext (mask_of han.b fun b hb=>by rcases hb with rfl | rfl <;> omega)
     obtain ⟨ca,cb,ecs,hna,hrb⟩:=hvV
     have ka:=Kbo.size hna
     have kb:=Kcc.size hrb
     have kA : ∀ (i : Nat) (u : Value),ca[i]? = some u → cs[3 + i]? = some u:=fun i u hu=>by
      rw [ecs,Array.append_assoc,Array.getElem?_append_right (by simp),Array.getElem?_append_left (by have:=(Array.getElem?_eq_some_iff.1 hu).1;simp;omega)]
      simpa using hu
     have kB : ∀ (i : Nat) (u : Value),cb[i]? = some u → cs[6 + i]? = some u:=fun i u hu=>by
      rw [ecs,Array.getElem?_append_right (by rw [Array.size_append,ka];simp),Array.size_append,ka]
      simpa using hu
     have HLN:=yh (StT.load (P:=Tryz.prog) (g:=wr.heap.size) (o:=3) (W:=wr.alloc (.cells cs 55)) Ka7 ka fun i u hu=>Kah (o:=3 + i) hbx (kA i u hu))
     have HLR:=yh (StT.load (P:=Tryz.prog) (g:=wr.heap.size) (o:=6) (W:=wr.alloc (.cells cs 55)) Kbv kb fun i u hu=>Kah (o:=6 + i) hbx (kB i u hu))
     have k0 : cs[0]? = some (.int .i64 l[j].kind):=by rw [ecs,Array.append_assoc,Array.getElem?_append_left (by simp)];rfl
     have k1 : cs[1]? = some (.int .i64 l[j].id):=by rw [ecs,Array.append_assoc,Array.getElem?_append_left (by simp)];rfl
     have k2 : cs[2]? = some (.int .i64 l[j].other):=by rw [ecs,Array.append_assoc,Array.getElem?_append_left (by simp)];rfl
     obtain ⟨pn,cn,pr,cr,hbxg,hns,hrs⟩:=han.open
     have p0:=Kah (o:=0) hbx k0
     have p1:=Kah (o:=1) hbx k1
     have p2:=Kah (o:=2) hbx k2
     have g0 : (wr.alloc (.cells cs 55)).cell? ⟨w.heap.size,0,none⟩ = some (.slice pn h.nodes.length cn):=Kah (o:=0) hbxg rfl
     have g1 : (wr.alloc (.cells cs 55)).cell? ⟨w.heap.size,1,none⟩ = some (.slice pr h.rels.length cr):=Kah (o:=1) hbxg rfl
     have hbd3:=hbd.2.2
     have HY:=yh (And.intro han (And.intro hst (And.intro hns (And.intro hrs (And.intro hna (And.intro hrb (And.intro hbd hbx)))))))
     have HCUT:=yh hcut
     have HKK:=yh (And.intro k1 k2)
     generalize l[j] = cj at *
     clear hs hc hv hbn hbx han hst hcut htc hbd ecs hna hrb ka kb kA kB k0 k1 k2 hbxg hns hrs ha hap HJ
     have hext:=mask_ext (two w.heap.size) (wr.alloc (.cells cs 55))
     have HEX:=yh hext
     clear hext
     obtain hk | hk | hk | hk | hk | hk : cj.kind = 0 ∨ cj.kind = 1 ∨ cj.kind = 2 ∨ cj.kind = 3 ∨ cj.kind = 4 ∨ (cj.kind ≠ 0 ∧ cj.kind ≠ 1 ∧ cj.kind ≠ 2 ∧ cj.kind ≠ 3 ∧ cj.kind ≠ 4):=by omega
     ·rw [hk] at p0
      have HAC:=yh (show Kbt h cj = some ⟨putN cj.node h.nodes,h.rels,h.nextNode,h.nextRel⟩ by unfold Kbt;simp only [hk];rfl)
      have HC:=yh (withNode_any HEX.out HY.out.2.2.1 HY.out.2.2.2.2.1 (by omega))
      go_wp2_with (first
       | ((with_reducible apply Kap);exact HL1.out;exact rfl;clear HL1)
       | ((with_reducible apply Kaq);exact HS1.out _ rfl;exact rfl;exact rfl;clear HS1)
       | ((with_reducible apply Kap);exact HLN.out;exact rfl;clear HLN)
       | (go_at_call 56
          (
           refine HC.out.mono ?_
           rintro e W7 ⟨q,d,rfl,hrow⟩
           obtain ⟨e1,e2⟩:=HY.out.1.setN hrow (by have:=len_putN cj.node h.nodes;omega)
           have HST:=yh e1
           have HN:=yh (show ∃ x,Kbw g (l.take (j + 1)) = some x ∧ AP w _ x from ⟨_,by rw [HY.out.2.1];exact HAC.out,e2⟩)
           clear e1 e2 hrow HC))
       | ((with_reducible apply Kaq);exact HST.out;exact rfl;exact rfl;clear HST))
      clear p0 p1 p2 g0 g1
      go_roundw
      case rel=>exact ⟨j + 1,hlt1,by go_num,HN⟩
      case measure=>simp [intOf];omega
     ·rw [hk] at p0
      have HAC:=yh (show Kbt h cj = some ⟨h.nodes,putR cj.rel h.rels,h.nextNode,h.nextRel⟩ by unfold Kbt;simp only [hk];rfl)
      have HC:=yh (withRel_any HEX.out HY.out.2.2.2.1 HY.out.2.2.2.2.2.1 (by omega))
      go_wp2_with (first
       | ((with_reducible apply Kap);exact HL1.out;exact rfl;clear HL1)
       | ((with_reducible apply Kaq);exact HS1.out _ rfl;exact rfl;exact rfl;clear HS1)
       | ((with_reducible apply Kap);exact HLR.out;exact rfl;clear HLR)
       | (go_at_call 57
          (
           refine HC.out.mono ?_
           rintro e W7 ⟨q,d,rfl,hrow⟩
           obtain ⟨e1,e2⟩:=HY.out.1.setR hrow (by have:=len_putR cj.rel h.rels;omega)
           have HST:=yh e1
           have HN:=yh (show ∃ x,Kbw g (l.take (j + 1)) = some x ∧ AP w _ x from ⟨_,by rw [HY.out.2.1];exact HAC.out,e2⟩)
           clear e1 e2 hrow HC))
       | ((with_reducible apply Kaq);exact HST.out;exact rfl;exact rfl;clear HST))
      clear p0 p1 p2 g0 g1
      go_roundw
      case rel=>exact ⟨j + 1,hlt1,by go_num,HN⟩
      case measure=>simp [intOf];omega
     ·rw [hk] at p0
      have HAC:=yh (show Kbt h cj = some ⟨h.nodes.filter fun n=>!(n.id == cj.id),h.rels,h.nextNode,h.nextRel⟩ by unfold Kbt;simp only [hk];rfl)
      have HC:=yh (withoutN_any (i:=cj.id) HEX.out HY.out.2.2.1 (by omega))
      go_wp2_with (first
       | ((with_reducible apply Kap);exact HL1.out;exact rfl;clear HL1)
       | ((with_reducible apply Kaq);exact HS1.out _ rfl;exact rfl;exact rfl;clear HS1)
       | (go_at_call 58
          (
           refine HC.out.mono ?_
           rintro e W7 ⟨q,d,rfl,hrow⟩
           obtain ⟨e1,e2⟩:=HY.out.1.setN hrow (by have:=List.length_filter_le (fun n : NodeD=>!(n.id == cj.id)) h.nodes;omega)
           have HST:=yh e1
           have HN:=yh (show ∃ x,Kbw g (l.take (j + 1)) = some x ∧ AP w _ x from ⟨_,by rw [HY.out.2.1];exact HAC.out,e2⟩)
           clear e1 e2 hrow HC))
       | ((with_reducible apply Kaq);exact HST.out;exact rfl;exact rfl;clear HST))
      clear p0 p1 p2 g0 g1
      go_roundw
      case rel=>exact ⟨j + 1,hlt1,by go_num,HN⟩
      case measure=>simp [intOf];omega
     ·rw [hk] at p0
      have HAC:=yh (show Kbt h cj = some ⟨h.nodes,h.rels.filter fun n=>!(n.id == cj.id),h.nextNode,h.nextRel⟩ by unfold Kbt;simp only [hk];rfl)
      have HC:=yh (withoutR_any (i:=cj.id) HEX.out HY.out.2.2.2.1 (by omega))
      go_wp2_with (first
       | ((with_reducible apply Kap);exact HL1.out;exact rfl;clear HL1)
       | ((with_reducible apply Kaq);exact HS1.out _ rfl;exact rfl;exact rfl;clear HS1)
       | (go_at_call 59
          (
           refine HC.out.mono ?_
           rintro e W7 ⟨q,d,rfl,hrow⟩
           obtain ⟨e1,e2⟩:=HY.out.1.setR hrow (by have:=List.length_filter_le (fun n : RelD=>!(n.id == cj.id)) h.rels;omega)
           have HST:=yh e1
           have HN:=yh (show ∃ x,Kbw g (l.take (j + 1)) = some x ∧ AP w _ x from ⟨_,by rw [HY.out.2.1];exact HAC.out,e2⟩)
           clear e1 e2 hrow HC))
       | ((with_reducible apply Kaq);exact HST.out;exact rfl;exact rfl;clear HST))
      clear p0 p1 p2 g0 g1
      go_roundw
      case rel=>exact ⟨j + 1,hlt1,by go_num,HN⟩
      case measure=>simp [intOf];omega
     ·rw [hk] at p0
      have HAC:=yh (show Kbt h cj = some ⟨h.nodes,h.rels,cj.id,cj.other⟩ by unfold Kbt;simp only [hk];rfl)
      have HK:=yh (And.intro p1 p2)
      go_wp2_with (first
       | ((with_reducible apply Kap);exact HL1.out;exact rfl;clear HL1)
       | ((with_reducible apply Kaq);exact HS1.out _ rfl;exact rfl;exact rfl;clear HS1))
      have hbx:=HY.out.2.2.2.2.2.2.2
      obtain ⟨W1,W9,m0,m1,mk,m2⟩:=(HY.out.1.below (Below.refl _ _).drew).nums cj.id cj.other
      have hlt9:=HY.out.1.lt
      have hwz : (wr.alloc (.cells cs 55)).heap.size = wr.heap.size + 1:=by simp
      have hS0 : (wr.alloc (.cells cs 55)).drew.heap[wr.heap.size]? = some (.cells cs 55 (0,0)):=hbx
      have hwlt : w.heap.size < wr.heap.size:=by
       rcases Nat.lt_or_ge w.heap.size wr.heap.size with q | q
       ·exact q
       ·omega
      have hS1 : W1.heap[wr.heap.size]? = some (.cells cs 55 (0,0)):=(mk _ (by omega)).trans hS0
      have q1:=HKK.out.1
      have q2:=HKK.out.2
      refine Kaf (fun W=>W.heap[wr.heap.size]? = some (.cells cs 55 (0,0))) (by kernel_rfl) hS0 (fun hS=>?_)
      refine tk 0 61 (v:=.pointer (some ⟨wr.heap.size,1,none⟩)) rfl rfl (fun W hW=>Kac rfl rfl (fa_chg _ W).2.1) ?_
      simp only [Act.put,sA,sZ,sS]
      refine tk 1 62 (v:=.int .i64 cj.id) rfl rfl (fun W hW=>Kad rfl rfl (Kae (w:=W) Tryz.underlying2 rfl (Kah (o:=1) hW q1))) ?_
      simp only [Act.put,sA,sZ,sS]
      refine tk 2 63 (v:=.pointer (some ⟨wr.heap.size,2,none⟩)) rfl rfl (fun W hW=>Kac rfl rfl (fa_chg _ W).2.2.1) ?_
      simp only [Act.put,sA,sZ,sS]
      refine tk 3 64 (v:=.int .i64 cj.other) rfl rfl (fun W hW=>Kad rfl rfl (Kae (w:=W) Tryz.underlying2 rfl (Kah (o:=2) hW q2))) ?_
      simp only [Act.put,sA,sZ,sS]
      refine tk 4 65 (v:=.pointer (some ⟨w.heap.size,2,none⟩)) rfl rfl (fun W hW=>Kac rfl rfl (fa_gr 2 (by omega) _ W)) ?_
      simp only [Act.put,sA,sZ,sS]
      refine Kbr 5 rfl rfl (by kernel_rfl) rfl (Kbx rfl rfl rfl m0) (.inr hS1) ?_
      refine tk 6 66 (v:=.pointer (some ⟨w.heap.size,3,none⟩)) rfl rfl (fun W hW=>Kac rfl rfl (fa_gr 3 (by omega) _ W)) ?_
      simp only [Act.put,sA,sZ,sS]
      refine Kbr 7 rfl rfl (by kernel_rfl) rfl (Kbx rfl rfl rfl m1) (.inl (by kernel_rfl)) ?_
      refine done (by kernel_rfl) ?_ _
      have HN:=yh (show ∃ x,Kbw g (l.take (j + 1)) = some x ∧ AP w W9 x from ⟨_,by rw [HY.out.2.1];exact HAC.out,m2⟩)
      clear hbx m0 m1 mk m2 hlt9 hS0 hS1 hS q1 q2 p0 p1 p2 g0 g1 hwlt hwz
      go_wp2
      go_roundw
      case rel=>exact ⟨j + 1,hlt1,by go_num,HN⟩
      case measure=>simp [intOf];omega
     ·obtain ⟨n0,n1,n2,n3,n4⟩:=hk
      have HNO:=yh (show Kbt h cj = none by unfold Kbt;rw [if_neg n0,if_neg n1,if_neg n2,if_neg n3,if_neg n4])
      obtain ⟨W3,d1,d2,d3,d4⟩:=HY.out.1.zero
      have HST:=yh d1
      have HLE:=yh d2
      have HF:=yh (And.intro d3 d4)
      have HD:=yh (show Kbz g l = (Kbu,2) by unfold Kbz;rw [if_neg (by rw [HOK.out];simp),HCUT.out HNO.out])
      clear d1 d2 d3 d4
      clear g0 g1 p1 p2
      go_wp2_with (first
       | ((with_reducible apply Kap);exact HL1.out;exact rfl;clear HL1)
       | ((with_reducible apply Kaq);exact HS1.out _ rfl;exact rfl;exact rfl;clear HS1)
       | ((with_reducible apply Kaq);exact HST.out;exact rfl;exact rfl;clear HST))
      refine bodyPost_ret (Ka2 rfl _ _ ⟨w.heap.size + 1,0,none⟩ _ rfl HLE.out) rfl ?_
      rw [HD.out]
      exact ⟨_,rfl,HF.out⟩
    ·obtain rfl : j = l.length:=by omega
     rw [List.take_length] at hap
     have htx : GApt h 0:=GApt.all l (by simpa using HIN.out.2.1) HIN.out.2.2 hap
     obtain ⟨pn,cn,pr,cr,hbxg,hns,hrs⟩:=ha.open
     have g0 : wr.cell? ⟨w.heap.size,0,none⟩ = some (.slice pn h.nodes.length cn):=Kah (o:=0) hbxg rfl
     have g1 : wr.cell? ⟨w.heap.size,1,none⟩ = some (.slice pr h.rels.length cr):=Kah (o:=1) hbxg rfl
     have hz3:=htx.2.2
     have hw1 : IntKind.i64.wrap ((h.nodes.length : Int) + (h.rels.length : Int)) = (h.nodes.length : Int) + (h.rels.length : Int):=by rw [IntKind.wrap_i64];omega
     obtain ⟨xh,hld,hrd⟩:=ha.rd
     have HLD:=yh hld
     have HCK:=yh (refcheck_any hrd htx.ok.tot)
     have HA:=yh ha
     have HAP:=yh hap
     clear hbxg hns hrs htx hld hrd ha hap HJ
     by_cases hbig : 65536 < h.nodes.length + h.rels.length
     ·have hb1 : (65536 : Int) < (h.nodes.length : Int) + (h.rels.length : Int):=by omega
      have hb2 : decide ((65536 : Int) < (h.nodes.length : Int) + (h.rels.length : Int)) = true:=decide_eq_true hb1
      obtain ⟨W3,d1,d2,d3,d4⟩:=HA.out.zero
      have HST:=yh d1
      have HLE:=yh d2
      have HF:=yh (And.intro d3 d4)
      have HD:=yh (show Kbz g l = (Kbu,151) by unfold Kbz;rw [if_neg (by rw [HOK.out];simp),HAP.out];simp only;rw [if_pos hbig])
      clear d1 d2 d3 d4
      go_wp2_with ((with_reducible apply Kaq);exact HST.out;exact rfl;exact rfl;clear HST)
      refine bodyPost_ret (Ka2 rfl _ _ ⟨w.heap.size + 1,0,none⟩ _ rfl HLE.out) rfl ?_
      rw [HD.out]
      exact ⟨_,rfl,HF.out⟩
     ·have hb1 : ¬ (65536 : Int) < (h.nodes.length : Int) + (h.rels.length : Int):=by omega
      have hb2 : decide ((65536 : Int) < (h.nodes.length : Int) + (h.rels.length : Int)) = false:=decide_eq_false hb1
      cases hok2 : okG h with
      | false =>
        rw [hok2] at HCK
        have HD:=yh (show Kbz g l = (Kbu,2) by unfold Kbz;rw [if_neg (by rw [HOK.out];simp),HAP.out];simp only;rw [if_neg hbig,if_pos hok2])
        clear hok2
        go_wp2_with (first
         | ((with_reducible apply Kap);exact HLD.out;exact rfl;clear HLD)
         | (go_at_call 11
            (
             refine HCK.out.mono ?_
             rintro e W5 ⟨rfl,hb5⟩
             obtain ⟨W3,d1,d2,d3,d4⟩:=(HA.out.below hb5).zero
             have HST:=yh d1
             have HLE:=yh d2
             have HF:=yh (And.intro d3 d4)
             clear d1 d2 d3 d4 hb5))
         | ((with_reducible apply Kaq);exact HST.out;exact rfl;exact rfl;clear HST))
        refine bodyPost_ret (Ka2 rfl _ _ ⟨w.heap.size + 1,0,none⟩ _ rfl HLE.out) rfl ?_
        rw [HD.out]
        exact ⟨_,rfl,HF.out⟩
      | true =>
        rw [hok2] at HCK
        have HD:=yh (show Kbz g l = (h,0) by unfold Kbz;rw [if_neg (by rw [HOK.out];simp),HAP.out];simp only;rw [if_neg hbig,if_neg (by rw [hok2];simp)])
        clear hok2
        go_wp2_with (first
         | ((with_reducible apply Kap);exact HLD.out;exact rfl;clear HLD)
         | (go_at_call 11
            (
             refine HCK.out.mono ?_
             rintro e W5 ⟨rfl,hb5⟩
             obtain ⟨y,W3,d0,d1,d2,d3,d4⟩:=(HA.out.below hb5).done
             have HLY:=yh d0
             have HST:=yh d1
             have HLE:=yh d2
             have HF:=yh (And.intro d3 d4)
             clear d0 d1 d2 d3 d4 hb5))
         | ((with_reducible apply Kap);exact HLY.out;exact rfl;clear HLY)
         | ((with_reducible apply Kaq);exact HST.out;exact rfl;exact rfl;clear HST))
        refine bodyPost_ret (Ka2 rfl _ _ ⟨w.heap.size + 1,0,none⟩ _ rfl HLE.out) rfl ?_
        rw [HD.out]
        exact ⟨_,rfl,HF.out⟩
theorem applyD_ok {g : GraphD} {l : List ChangeD} (h : GApt g l.length) (hc : ∀ c ∈ l,NOk c.node ∧ ROk c.rel) : GOk (Kbz g l).1:=by
 have h0 : GOk Kbu:=⟨by decide,by decide,fun n hn=>absurd hn (by simp [Kbu]),fun n hn=>absurd hn (by simp [Kbu])⟩
 unfold Kbz
 split
 ·exact h0
 ·split
  ·exact h0
  ·rename_i x hx
   split
   ·exact h0
   ·split
    ·exact h0
    ·exact (GApt.all l (n:=0) (by simpa using h) hc hx).ok
theorem ia_change {b o n len c : Nat} (h : n < len) (W : World) : (Instr.indexAt 52 (.slice (some ⟨b,o,none⟩) len c) (.int .i64 (n : Int))).run Tryz.prog W = .ok (.pointer (some ⟨b,o + n * 11,none⟩)) W:=by simp [go_sem,h]
theorem fa_chg34 (b o : Nat) (W : World) : (Instr.fieldAt 55 (.pointer (some ⟨b,o,none⟩)) 3).run Tryz.prog W = .ok (.pointer (some ⟨b,o + 3,none⟩)) W ∧ (Instr.fieldAt 55 (.pointer (some ⟨b,o,none⟩)) 4).run Tryz.prog W = .ok (.pointer (some ⟨b,o + 6,none⟩)) W:=by
 refine ⟨?_,?_⟩ <;> simp [go_sem]
theorem exec_buildGr2 {a : Act} {w : World} {o : Oper} {x0 x1 : Operand} {p q : Option Addr} {n m c d : Nat} (ho : o.op = .build 25 #[(0,x0),(1,x1)]) (h0 : a.eval x0 = .slice p n c) (h1 : a.eval x1 = .slice q m d) : (execOp a.eval o).run Tryz.prog w = .ok (.value (.agg #[.slice p n c,.slice q m d,.int .i64 0,.int .i64 0])) w:=by
 unfold execOp;simp [ho,go_sem,h0,h1,Act.eval] at h0 h1 ⊢;simp [h0,h1]
theorem grd_1 {α : Type} {F : World → α → Array Value → Prop} {K : Nat} {W : World} {g : Nat} {cs : Array Value} {T : TypeId} {v : α} (h : W.heap[g]? = some (.cells cs T (0,0))) (hs : cs.size = K) (hv : F W v cs) : GRd F K W (some ⟨g,0,none⟩) 1 [v]:=by
 refine ⟨⟨Nat.le_refl _,⟨by simp,by omega⟩,fun h=>by cases h⟩,fun ad had=>⟨fun _=>by cases had;rfl,fun j u hu=>?_⟩⟩
 cases had
 match j,hu with
 | 0,hu =>
   cases hu
   exact ⟨cs,hs,fun i u hi=>by simp only [Nat.zero_mul,Nat.zero_add];exact Kah h hi,hv⟩
 | n + 1,hu=>simp at hu
structure LQA (w W : World) (g : GraphD) (x : Array Value) (p : Option Addr) (c : Nat) (l : List ChangeD) : Prop where
 b1 : Lies w.heap.size 25 x W
 gx : GrRd W g x
 cs : GRd CRd 11 W p c l
 b : Below w.heap.size w W
section
variable {w W W' : World} {g : GraphD} {x : Array Value} {p : Option Addr} {c : Nat} {l : List ChangeD}
theorem LQA.below (h : LQA w W g x p c l) (k : Below W.heap.size W W') : LQA w W' g x p c l:=⟨h.b1.below k,h.gx.below k,h.cs.below (fun h=>h.below k) k,Kaa h.b k⟩
theorem LQA.lg (h : LQA w W g x p c l) : (loadVar 25 ⟨w.heap.size,0,none⟩).run Tryz.prog W = .ok (.agg x) W:=h.b1.get (Kbs.size h.gx)
theorem LQA.start (h1 : GrRd w g x) (h2 : GRd CRd 11 w p c l) : LQA w (w.alloc (.cells x 25)) g x p c l:=by
 have b1:=Kai (w:=w) (.cells x 25)
 exact ⟨Lies.new x _ w,h1.below b1,h2.below (fun h=>h.below b1) b1,b1⟩
end
theorem one_graph {W W2 : World} {n : NodeD} {r : RelD} {ca cb : Array Value} {b1 b2 : Nat} (hn : NRd W n ca) (hr : RRd W r cb) (hb : Below W.heap.size W W2) (h1 : W2.heap[b1]? = some (.cells ca 45 (0,0))) (h2 : W2.heap[b2]? = some (.cells cb 49 (0,0))) :
 GrRd W2 ⟨[n],[r],0,0⟩ #[.slice (some ⟨b1,0,none⟩) 1 1,.slice (some ⟨b2,0,none⟩) 1 1,.int .i64 0,.int .i64 0] :=
 ⟨_,_,_,_,rfl,grd_1 h1 (Kbo.size hn) (hn.below hb),grd_1 h2 (Kcc.size hr) (hr.below hb)⟩
theorem gapply_any {w : World} (hE : Env w) {g : GraphD} {x : Array Value} {p : Option Addr} {c : Nat} {l : List ChangeD} (h1 : GrRd w g x) (h2 : GRd CRd 11 w p c l) (hr : ∀ c ∈ l,rngC c) (k1 : GOk g) (k2 : l.length ≤ 1100000 ∧ ∀ c ∈ l,NOk c.node ∧ ROk c.rel) : Calls Tryz.prog 4 #[.agg x,.slice p l.length c] w fun e w'=>e = .returned (.bool true) ∧ Below w.heap.size w w':=by
 have HQ:=yh (LQA.start h1 h2)
 have HE:=yh hE
 have z1 : (l.length : Int) ≤ 1100000:=by have:=k2.1;omega
 have hids : ∀ c ∈ l,i64R c.node.id ∧ i64R c.rel.id:=fun c hc=>⟨i64R_of (hr c hc).2.2.2.1.1,i64R_of (hr c hc).2.2.2.2.1⟩
 have HK:=yh (And.intro k1 (And.intro k1.tot (And.intro k2.2 hids)))
 clear h1 h2 hE k1 k2 hr hids
 have HV1:=yh (vastL_any HQ.out.gx HK.out.2.1)
 by_cases hbig : 20 < l.length
 ·have hb1 : (20 : Int) < (l.length : Int):=by omega
  have hb2 : decide ((20 : Int) < (l.length : Int)) = true:=decide_eq_true hb1
  clear hbig
  go_enter Tryz.func4,Tryz.ntmps4
  go_wp2_with (first
   | ((with_reducible apply Kap);exact HQ.out.lg;exact rfl)
   | (go_at_call 9
      (
       refine HV1.out.mono ?_
       rintro e wv ⟨⟨bv,rfl,hvl⟩,hb⟩
       clear hvl
       have HBK:=yh (Kaa HQ.out.b hb)
       clear hb HV1
       cases bv))
   | (go_at_call 12;refine (known_any (HE.out.b HBK.out)).mono ?_;rintro e wk ⟨rfl,hb⟩;have HB9:=yh (Kaa HBK.out hb);clear hb))
  all_goals (go_ret;exact ⟨rfl,HB9.out⟩)
 have hb1 : ¬ (20 : Int) < (l.length : Int):=by omega
 have hb2 : decide ((20 : Int) < (l.length : Int)) = false:=decide_eq_false hb1
 have HLEN:=yh hbig
 clear hbig
 go_enter Tryz.func4,Tryz.ntmps4
 go_wp2_with (first
  | ((with_reducible apply Kap);exact HQ.out.lg;exact rfl)
  | (go_at_call 9
     (
      refine HV1.out.mono ?_
      rintro e wv ⟨⟨bv,rfl,hvl⟩,hb⟩
      have HVL:=yh hvl
      clear hvl
      replace HQ:=yh (HQ.out.below hb)
      have HBK:=yh HQ.out.b
      clear hb HV1
      cases bv))
  | (go_at_call 12;refine (known_any (HE.out.b HBK.out)).mono ?_;rintro e wk ⟨rfl,hb⟩;have HB9:=yh (Kaa HBK.out hb);clear hb))
 all_goals try (go_ret;exact ⟨rfl,HB9.out⟩)
 clear hb1 hb2 HBK
 go_loopw [5] (fun i W=>∃ j : Nat,j ≤ l.length ∧ i = .int .i64 (j : Int) ∧ Hid (Below wv.heap.size wv W)) (fun i _=>l.length - (intOf i).toNat)
 case atStart=>exact ⟨0,Nat.zero_le _,rfl,yh (Below.refl _ _)⟩
 case round =>
  obtain ⟨j,hj,rfl,HJ⟩:=hrel
  have HQ0:=HQ
  replace HQ:=yh (HQ.out.below HJ.out)
  by_cases hlt : j < l.length
  ·have hlt1:=Nat.succ_le_of_lt hlt
   obtain ⟨b1,o1,cs,rfl,hs,hc,hv⟩:=HQ.out.cs.get hlt
   have htc:=HK.out.2.2.1 _ (List.getElem_mem hlt)
   have htot : GTot ⟨[l[j].node],[l[j].rel],0,0⟩:=⟨fun n hn=>by rw [List.mem_singleton.1 hn];exact htc.1.2.2.tot,fun n hn=>by rw [List.mem_singleton.1 hn];exact htc.2.2.tot⟩
   obtain ⟨ca,cb,ecs,hna,hrb⟩:=hv
   have hsa:=Kbo.size hna
   have hsb:=Kcc.size hrb
   have kA : ∀ (i : Nat) (u : Value),ca[i]? = some u → cs[3 + i]? = some u:=fun i u hu=>by
    rw [ecs,Array.append_assoc,Array.getElem?_append_right (by simp),Array.getElem?_append_left (by have:=(Array.getElem?_eq_some_iff.1 hu).1;simp;omega)]
    simpa using hu
   have kB : ∀ (i : Nat) (u : Value),cb[i]? = some u → cs[6 + i]? = some u:=fun i u hu=>by
    rw [ecs,Array.getElem?_append_right (by rw [Array.size_append,hsa];simp),Array.size_append,hsa]
    simpa using hu
   have qkA : ∀ (i : Nat) (u : Value),ca[i]? = some u → wr.cell? ⟨b1,o1 + j * 11 + 3 + i,none⟩ = some u:=fun i u hu=>by rw [Nat.add_assoc];exact hc _ _ (kA i u hu)
   have qkB : ∀ (i : Nat) (u : Value),cb[i]? = some u → wr.cell? ⟨b1,o1 + j * 11 + 6 + i,none⟩ = some u:=fun i u hu=>by rw [Nat.add_assoc];exact hc _ _ (kB i u hu)
   have hln : ∀ W : World,Below wr.heap.size wr W → (loadVar 45 ⟨b1,o1 + j * 11 + 3,none⟩).run Tryz.prog W = .ok (.agg ca) W:=fun W hW=>StT.load (P:=Tryz.prog) (g:=b1) (o:=o1 + j * 11 + 3) (W:=W) Ka7 hsa fun i u hu=>Kag hW (ltOf (qkA i u hu)) (qkA i u hu)
   have hlr : ∀ W : World,Below wr.heap.size wr W → (loadVar 49 ⟨b1,o1 + j * 11 + 6,none⟩).run Tryz.prog W = .ok (.agg cb) W:=fun W hW=>StT.load (P:=Tryz.prog) (g:=b1) (o:=o1 + j * 11 + 6) (W:=W) Kbv hsb fun i u hu=>Kag hW (ltOf (qkB i u hu)) (qkB i u hu)
   have hi1 : ∀ W' : World,(Instr.indexAt 52 (.slice (some ⟨b1,o1,none⟩) l.length c) (.int .i64 (j : Int))).run Tryz.prog W' = .ok (.pointer (some ⟨b1,o1 + j * 11,none⟩)) W':=fun W'=>ia_change hlt W'
   have hB0 : Below wr.heap.size wr wr.drew:=(Below.refl _ wr).drew
   generalize l[j] = cj at *
   have HY:=yh (And.intro hi1 (And.intro hln (And.intro hlr (And.intro hna (And.intro hrb (And.intro hsa (And.intro hsb (And.intro htot hB0))))))))
   clear hs hc htc ecs kA kB qkA qkB hi1 hln hlr hna hrb hsa hsb htot hB0
   go_wp2
   obtain ⟨hi1,hln,hlr,hna,hrb,hsa,hsb,htot,hB0⟩:=HY.out
   refine Kaf (fun W=>Below wr.heap.size wr W) (by kernel_rfl) hB0 (fun hS=>?_)
   refine tk 0 25 (v:=.slice (some ⟨b1,o1,none⟩) l.length c) rfl rfl (fun W hW=>Kab rfl rfl) ?_
   simp only [Act.put,sA,sZ,sS]
   refine tk 1 26 (v:=.int .i64 (j : Int)) rfl rfl (fun W hW=>Kab rfl rfl) ?_
   simp only [Act.put,sA,sZ,sS]
   refine tk 2 27 (v:=.pointer (some ⟨b1,o1 + j * 11,none⟩)) rfl rfl (fun W hW=>Kaj rfl rfl rfl (hi1 W)) ?_
   simp only [Act.put,sA,sZ,sS]
   refine tk 3 28 (v:=.pointer (some ⟨b1,o1 + j * 11 + 3,none⟩)) rfl rfl (fun W hW=>Kac rfl rfl ((fa_chg34 _ _ W).1)) ?_
   simp only [Act.put,sA,sZ,sS]
   refine tk 4 29 (v:=.agg ca) rfl rfl (fun W hW=>Kad rfl rfl (hln W hW)) ?_
   simp only [Act.put,sA,sZ,sS]
   refine tk 6 31 (v:=.slice (some ⟨b1,o1,none⟩) l.length c) rfl rfl (fun W hW=>Kab rfl rfl) ?_
   simp only [Act.put,sA,sZ,sS]
   refine tk 7 32 (v:=.int .i64 (j : Int)) rfl rfl (fun W hW=>Kab rfl rfl) ?_
   simp only [Act.put,sA,sZ,sS]
   refine tk 8 33 (v:=.pointer (some ⟨b1,o1 + j * 11,none⟩)) rfl rfl (fun W hW=>Kaj rfl rfl rfl (hi1 W)) ?_
   simp only [Act.put,sA,sZ,sS]
   refine tk 9 34 (v:=.pointer (some ⟨b1,o1 + j * 11 + 6,none⟩)) rfl rfl (fun W hW=>Kac rfl rfl ((fa_chg34 _ _ W).2)) ?_
   simp only [Act.put,sA,sZ,sS]
   refine tk 10 35 (v:=.agg cb) rfl rfl (fun W hW=>Kad rfl rfl (hlr W hW)) ?_
   simp only [Act.put,sA,sZ,sS]
   refine either 5 11 (by kernel_rfl) ?_ ?_
   ·have hbsA:=Kas (P:=Tryz.prog) (w:=wr.drew) (v:=.agg ca) Tryz.underlying22 Tryz.sizeOf45 Tryz.zeroValue45 hsa (by omega) (by omega)
    have hbsB:=Kas (P:=Tryz.prog) (w:=wr.drew.alloc (.cells ca 45)) (v:=.agg cb) Tryz.underlying23 Tryz.sizeOf49 Tryz.zeroValue49 hsb (by omega) (by omega)
    have n1:=Kai (w:=wr.drew) (.cells ca 45)
    have n2:=Kai (w:=wr.drew.alloc (.cells ca 45)) (.cells cb 49)
    have hS1:=Kaa hB0 n1
    have hS2:=Kaa hS1 n2
    have hA2:=Kak n2 (by simp) (heap_alloc_new wr.drew (.cells ca 45))
    have hB2:=heap_alloc_new (wr.drew.alloc (.cells ca 45)) (.cells cb 49)
    simp only [World.size_alloc,World.size_drew] at hbsA hbsB hA2 hB2
    refine opRun 5 30 (v:=.slice (some ⟨wr.heap.size,0,none⟩) 1 1) rfl rfl (by kernel_rfl) (Kaz rfl rfl hbsA) ⟨.inr hS1,?_⟩
    simp only [Act.put,sA,sZ,sS]
    refine Kce 11 36 (v:=.slice (some ⟨wr.heap.size + 1,0,none⟩) 1 1) rfl rfl (by kernel_rfl) rfl (Kaz rfl rfl hbsB) (.inr hS2) ?_
    simp only [Act.put,sA,sZ,sS]
    refine tk 12 37 (v:=.agg #[.slice (some ⟨wr.heap.size,0,none⟩) 1 1,.slice (some ⟨wr.heap.size + 1,0,none⟩) 1 1,.int .i64 0,.int .i64 0]) rfl rfl (fun W hW=>exec_buildGr2 rfl rfl rfl) ?_
    simp only [Act.put,sA,sZ,sS]
    have hgr:=one_graph hna hrb hS2 hA2 hB2
    refine Kao 13 38 rfl rfl (by kernel_rfl) rfl (Kan [.agg #[.slice (some ⟨wr.heap.size,0,none⟩) 1 1,.slice (some ⟨wr.heap.size + 1,0,none⟩) 1 1,.int .i64 0,.int .i64 0]] rfl rfl Tryz.func9 (by kernel_rfl) (by kernel_rfl)) ?_
    refine (vast_any hgr htot).mono ?_
    rintro e W13 ⟨⟨bh,rfl⟩,hb13⟩
    have hS13:=Kaa hS2 hb13
    refine ⟨_,rfl,.inr hS13,?_⟩
    simp only [Act.put,sA,sZ,sS]
    refine done (by kernel_rfl) ?_ _
    have HBK:=yh (Kaa HQ.out.b hS13)
    have HBN:=yh (Kaa HJ.out hS13)
    clear hS hbsA hbsB n1 n2 hS1 hS2 hA2 hB2 hgr hb13 hS13 hi1 hln hlr hna hrb hsa hsb htot hB0 HY
    cases bh with
    | true =>
      go_wp2_with (go_at_call 12;refine (known_any (HE.out.b HBK.out)).mono ?_;rintro e wk ⟨rfl,hb⟩;have HB9:=yh (Kaa HBK.out hb);clear hb)
      go_ret
      exact ⟨rfl,HB9.out⟩
    | false =>
      go_wp2
      go_roundw
      case rel=>exact ⟨j + 1,hlt1,by go_num,HBN⟩
      case measure=>simp [intOf];omega
   ·have hbsA:=Kas (P:=Tryz.prog) (w:=wr.drew) (v:=.agg cb) Tryz.underlying23 Tryz.sizeOf49 Tryz.zeroValue49 hsb (by omega) (by omega)
    have hbsB:=Kas (P:=Tryz.prog) (w:=wr.drew.alloc (.cells cb 49)) (v:=.agg ca) Tryz.underlying22 Tryz.sizeOf45 Tryz.zeroValue45 hsa (by omega) (by omega)
    have n1:=Kai (w:=wr.drew) (.cells cb 49)
    have n2:=Kai (w:=wr.drew.alloc (.cells cb 49)) (.cells ca 45)
    have hS1:=Kaa hB0 n1
    have hS2:=Kaa hS1 n2
    have hA2:=Kak n2 (by simp) (heap_alloc_new wr.drew (.cells cb 49))
    have hB2:=heap_alloc_new (wr.drew.alloc (.cells cb 49)) (.cells ca 45)
    simp only [World.size_alloc,World.size_drew] at hbsA hbsB hA2 hB2
    refine opRun 11 36 (v:=.slice (some ⟨wr.heap.size,0,none⟩) 1 1) rfl rfl (by kernel_rfl) (Kaz rfl rfl hbsA) ⟨.inr hS1,?_⟩
    simp only [Act.put,sA,sZ,sS]
    refine Kce 5 30 (v:=.slice (some ⟨wr.heap.size + 1,0,none⟩) 1 1) rfl rfl (by kernel_rfl) rfl (Kaz rfl rfl hbsB) (.inr hS2) ?_
    simp only [Act.put,sA,sZ,sS]
    refine tk 12 37 (v:=.agg #[.slice (some ⟨wr.heap.size + 1,0,none⟩) 1 1,.slice (some ⟨wr.heap.size,0,none⟩) 1 1,.int .i64 0,.int .i64 0]) rfl rfl (fun W hW=>exec_buildGr2 rfl rfl rfl) ?_
    simp only [Act.put,sA,sZ,sS]
    have hgr:=one_graph hna hrb hS2 hB2 hA2
    refine Kao 13 38 rfl rfl (by kernel_rfl) rfl (Kan [.agg #[.slice (some ⟨wr.heap.size + 1,0,none⟩) 1 1,.slice (some ⟨wr.heap.size,0,none⟩) 1 1,.int .i64 0,.int .i64 0]] rfl rfl Tryz.func9 (by kernel_rfl) (by kernel_rfl)) ?_
    refine (vast_any hgr htot).mono ?_
    rintro e W13 ⟨⟨bh,rfl⟩,hb13⟩
    have hS13:=Kaa hS2 hb13
    refine ⟨_,rfl,.inr hS13,?_⟩
    simp only [Act.put,sA,sZ,sS]
    refine done (by kernel_rfl) ?_ _
    have HBK:=yh (Kaa HQ.out.b hS13)
    have HBN:=yh (Kaa HJ.out hS13)
    clear hS hbsA hbsB n1 n2 hS1 hS2 hA2 hB2 hgr hb13 hS13 hi1 hln hlr hna hrb hsa hsb htot hB0 HY
    cases bh with
    | true =>
      go_wp2_with (go_at_call 12;refine (known_any (HE.out.b HBK.out)).mono ?_;rintro e wk ⟨rfl,hb⟩;have HB9:=yh (Kaa HBK.out hb);clear hb)
      go_ret
      exact ⟨rfl,HB9.out⟩
    | false =>
      go_wp2
      go_roundw
      case rel=>exact ⟨j + 1,hlt1,by go_num,HBN⟩
      case measure=>simp [intOf];omega
  ·obtain rfl : j = l.length:=by omega
   clear HJ HQ0
   have h60:=HVL.out (by trivial)
   have hlen:=HLEN.out
   have hapt : GApt g l.length:=⟨HK.out.1.2.2.1,HK.out.1.2.2.2,by omega⟩
   have hok:=applyD_ok hapt HK.out.2.2.1
   have HD:=yh (And.intro hapt hok)
   clear h60 hlen hapt hok
   generalize hAD : Kbz g l = ad at *
   have HAD:=yh hAD
   clear hAD
   go_wp2_with (first
    | ((with_reducible apply Kap);exact HQ.out.lg;exact rfl)
    | ((with_reducible apply Kap);exact (HLZ.out).get HSZ.out;exact rfl)
    | (go_at_call 13
       (
        refine (copyG_any HQ.out.gx HK.out.1).mono ?_
        rintro e wd ⟨z,rfl,hz,hb⟩
        have hzr:=hz.rdO HK.out.1
        have hn9:=Kai (w:=wd) (.cells z 25)
        have HSTC:=yh (StT.fresh (P:=Tryz.prog) (W:=wd) Kay (Kbs.size hzr) (Kbs.ones hzr))
        have HLZ:=yh (show Lies wd.heap.size 25 z (wd.alloc (.cells z 25)) from heap_alloc_new wd _)
        have HSZ:=yh (Kbs.size hzr)
        have HCR:=yh (hzr.below hn9)
        replace HQ:=yh ((HQ.out.below hb).below hn9)
        clear hb hz hzr hn9))
    | ((with_reducible apply Kaq);exact HSTC.out _ rfl;exact rfl;exact rfl;clear HSTC)
    | (go_at_call 18
       (
        have hc1:=apply_any (HE.out.b HQ.out.b) HQ.out.gx HQ.out.cs HK.out.2.2.2 HD.out.1 HK.out.2.2.1
        rw [HAD.out] at hc1
        refine hc1.mono ?_
        rintro e wd2 ⟨z2,rfl,hz,hb⟩
        have hzr:=hz.rdO HD.out.2
        have hn9:=Kai (w:=wd2) (.cells z2 25)
        have hba:=Kaa hb hn9
        have HSTC:=yh (StT.fresh (P:=Tryz.prog) (W:=wd2) Kay (Kbs.size hzr) (Kbs.ones hzr))
        have HL7:=yh (show Lies wd2.heap.size 25 z2 (wd2.alloc (.cells z2 25)) from heap_alloc_new wd2 _)
        have HR7:=yh (hzr.below hn9)
        replace HLZ:=yh (HLZ.out.below hba)
        replace HCR:=yh (HCR.out.below hba)
        replace HQ:=yh (HQ.out.below hba)
        clear hb hz hzr hn9 hc1 hba))
    | (go_at_call 19
       (
        have hc1:=refapply_any HCR.out HQ.out.cs HD.out.1 HK.out.2.2.1
        rw [HAD.out] at hc1
        refine hc1.mono ?_
        rintro e wd3 ⟨z3,rfl,hzr,hb⟩
        have hn9:=Kai (w:=wd3) (.cells z3 25)
        have hba:=Kaa hb hn9
        have HSTC:=yh (StT.fresh (P:=Tryz.prog) (W:=wd3) Kay (Kbs.size hzr) (Kbs.ones hzr))
        have HL9:=yh (show Lies wd3.heap.size 25 z3 (wd3.alloc (.cells z3 25)) from heap_alloc_new wd3 _)
        have HR9:=yh (hzr.below hn9)
        replace HL7:=yh (HL7.out.below hba)
        replace HR7:=yh (HR7.out.below hba)
        replace HLZ:=yh (HLZ.out.below hba)
        replace HCR:=yh (HCR.out.below hba)
        replace HQ:=yh (HQ.out.below hba)
        have hs1:=sameRefG_any HR7.out HR9.out
        rw [(sameGQ_iff ad.1 ad.1).2 rfl] at hs1
        have HS1:=yh hs1
        clear hb hzr hn9 hc1 hba hs1))
    | ((with_reducible apply Kcu);exact HL7.out.get (Kbs.size HR7.out);exact rfl;exact rfl)
    | ((with_reducible apply Kcu);exact HL9.out.get (Kbs.size HR9.out);exact rfl;exact rfl)
    | ((with_reducible apply Kcu);exact HQ.out.lg;exact rfl;exact rfl)
    | ((with_reducible apply Kcu);exact HLZ.out.get HSZ.out;exact rfl;exact rfl)
    | (go_at_call 17
       (
        refine HS1.out.mono ?_
        rintro e ws ⟨rfl,hb⟩
        replace HLZ:=yh (HLZ.out.below hb)
        replace HCR:=yh (HCR.out.below hb)
        replace HQ:=yh (HQ.out.below hb)
        have hs2:=sameRefG_any HQ.out.gx HCR.out
        rw [(sameGQ_iff g g).2 rfl] at hs2
        have HS2:=yh hs2
        clear hb hs2 HS1 HL7 HL9))
    | (go_at_call 17
       (
        refine HS2.out.mono ?_
        rintro e ws ⟨rfl,hb⟩
        replace HQ:=yh (HQ.out.below hb)
        have HBK:=yh HQ.out.b
        clear hb HS2 HLZ))
    | (go_at_call 12;refine (known_any (HE.out.b HBK.out)).mono ?_;rintro e wk ⟨rfl,hb⟩;have HB9:=yh (Kaa HBK.out hb);clear hb))
   go_ret
   exact ⟨rfl,HB9.out⟩
end Go.Proofs.YtihfnegakcghiaaGreatDoor
namespace Go.Proofs.YtihfnegakcghiaaGreatDoor
open Go.ChangeShapes Go.WideShapes Go.ChangeAt Go.RowKit Go.Joins
theorem graphApply_reads (os : Os) {H : Type} (enc : TypeId × Value → H) : ∃ x : List (DataW H) × List (DataW H) × List MemPlace,DataW.whole enc Tryz.checked.prog ((World.laidAll Tryz.prog os LD).forCall (fun _ _=>0) ⟨#[],#[.agg #[.slice none 0 0,.slice none 0 0,.int .i64 0,.int .i64 0],.slice none 0 0],[]⟩).memory Tryz.f4.params.toList (Rows.OpenSpec.upto Rows.graphApplySpec).vars false #[.agg #[.slice none 0 0,.slice none 0 0,.int .i64 0,.int .i64 0],.slice none 0 0].toList 8 = some x ∧ Rows.uptoSmall H (x.1 ++ x.2.1) = true:=by
 refine ⟨([.agg [.nil,.nil,.lit (.int .i64 0),.lit (.int .i64 0)],.nil],[],[]),?_,?_⟩
 ·kernel_rfl
 ·kernel_rfl
theorem graphApply_lifted (os : Os) (started : os.Started) (H : Type) (enc : TypeId × Value → H) (F : Stop.Interp) :
 ReturnsInHanded {} Tryz.checked os 4 .any ((Rows.OpenSpec.upto Rows.graphApplySpec).preRow enc Tryz.prog Tryz.f4 [] false LD) (((Rows.OpenSpec.upto Rows.graphApplySpec).at F).post enc Tryz.prog Tryz.f4 false true false false):=by
 obtain ⟨xr,hxr,hsm⟩:=graphApply_reads os enc
 refine returns_upto started (by kernel_rfl) Tryz.func4 #[.agg #[.slice none 0 0,.slice none 0 0,.int .i64 0,.int .i64 0],.slice none 0 0] (by kernel_rfl) (by kernel_rfl) (by kernel_rfl) hxr hsm (by kernel_rfl) (wit_laid _ _) ?_
 intro W base args ds gs before hval0 hW hbk hz hE
 have hval : ∀ (j : Nat) t v,Tryz.f4.params[j]? = some t → args[j]? = some v → Value.okWide Tryz.prog W .any base t v:=hval0
 have hW':=hW
 obtain ⟨p,q,hA0,hV,rfl,hfz,hnd⟩:=hW
 have hA : DataW.TrodAll enc Tryz.prog W 0 (fun _=>true) true Tryz.f4.params.toList args.toList ds p:=hA0
 rw [Tryz.params4] at hA hval
 obtain ⟨v0,vs0,d0,ds0,p0,q0,hargs,rfl,rfl,h0,r0⟩:=trodAll_cons hA
 obtain ⟨v1,vs1,d1,ds1,p1,q1,rfl,rfl,rfl,h1,r1⟩:=trodAll_cons r0
 obtain ⟨rfl,rfl,rfl⟩:=trodAll_nil r1
 obtain ⟨rfl,rfl⟩:=trodVars_none hV
 obtain rfl : args = #[v0,v1]:=by cases args;simp_all
 rw [Tryz.params4] at hz
 simp only [List.append_nil,Rows.uptoBulkAll] at hbk
 obtain ⟨z0,z1⟩:=fits_two hz
 obtain ⟨a0,x0,rfl,hx0,hr0,hk0⟩:=graph_inU (hval 0 25 v0 rfl rfl) h0 z0
 have hk0:=hk0 (by omega)
 obtain ⟨b1,c1,l1,rfl,hx1,hr1,hk1⟩:=changes_inU (hval 1 52 v1 rfl rfl) h1 z1
 have hk1:=hk1 (by omega)
 clear hA0 hval0
 refine (gapply_any hE hx0 hx1 hr1 hk0 hk1).mono fun e W' ⟨he,hg⟩=>?_
 subst he
 exact ⟨_,rfl,law_post laidT (by decide +kernel) Tryz.underlying4 (by kernel_rfl) rfl hW' rfl hg⟩
theorem graphApply_row : Rows.GraphApplyUptoSaid :=
 OpenClaim.holds_of_cond 4 Tryz.f4 rfl rfl rfl rfl rfl rfl rfl ⟨rfl,rfl,rfl,rfl,rfl⟩ rfl rfl rfl rfl rfl (by kernel_rfl) Tryz.func4 (by kernel_rfl)
  (of_decide_eq_true (by kernel_rfl)) (by unfold Func.isWrapper;first | (rw [if_pos (by decide +kernel)];kernel_rfl) | (rw [if_neg (by decide +kernel)];exact ⟨rfl,rfl⟩))
  (fun os started H enc _ F=>by rw [OpenClaim.pre_eq_preRow];exact graphApply_lifted os started H enc F)
theorem gapply_law_holds : Rows.GraphApplyUptoCardSaid :=
 Claim7.holds_tied_plain_at .later [] _ _ _ _
  graphApply_row (fun _ h=>by cases h) (by kernel_rfl) (fun _ h=>by cases h) graphApplyUpto_row_tie rfl ⟨rfl,rfl⟩ (by kernel_rfl) rfl
  (fun f fn hf hfn=>by
    obtain rfl : f = 4 := Option.some.inj ((show Tryz.prog.funcNamed "lattice/latticelaw05.GraphApply" = some 4 by kernel_rfl).symm.trans hf) |>.symm
    obtain rfl : fn = Tryz.f4:=(Option.some.inj (Tryz.func4.symm.trans hfn)).symm
    exact ⟨by kernel_rfl,fun j t ht=>by
     rw [Tryz.params4] at ht
     have hm : t ∈ [25,52]:=by simpa using Array.mem_of_getElem? ht
     have hall : ([25,52].all fun u=>!Tryz.prog.wantsStandIn u) = true:=by kernel_rfl
     exact (show Tryz.prog.wantsStandIn t = false by simpa using List.all_eq_true.1 hall t hm)⟩)
  (by kernel_rfl)
#print axioms gapply_law_holds
end Go.Proofs.YtihfnegakcghiaaGreatDoor
