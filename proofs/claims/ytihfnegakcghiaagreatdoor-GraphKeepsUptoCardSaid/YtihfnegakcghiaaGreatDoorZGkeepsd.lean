/- Texts that the proof shares (each declaration is a lemma of this layer). -/
import Derived.Test.YtihfnegakcghiaaGreatDoorZGkeepsa
import Derived.Test.YtihfnegakcghiaaGreatDoorZGkeepsb
import Derived.Test.YtihfnegakcghiaaGreatDoorZGkeepsc
set_option linter.unusedSimpArgs false
set_option linter.unusedVariables false
set_option linter.unnecessarySimpa false
set_option maxRecDepth 100000
set_option maxHeartbeats 64000000
namespace Go.Proofs.YtihfnegakcghiaaGreatDoor
open Go.RowKit
def relZ : Array Value:=#[.int .i64 0,.int .i64 0,.int .i64 0,.string ⟨#[]⟩,.slice none 0 0]
def hasR (g : GraphD) (k : Int) : Bool:=g.rels.any fun r=>r.id == k
theorem GM.lookR {S : Nat → Prop} {W : World} {B : GB} {ma : Int → Option Value} {s : GS} (h : GM S W B ma s) (k : Int) :
 ∃ x,x.size = 5 ∧ (∀ u ∈ x.toList,u.oneCell' = true) ∧ (∀ W' : World,W'.heap[B.br]? = W.heap[B.br]? → (Instr.lookup 69 (.map (some B.br)) (.int .i64 k) true).run Tryz.prog W' = .ok (.tuple #[.agg x,.bool (hasR s.graph k)]) W') ∧ (∀ a ∈ s.rels,a.id = k → ROwn W (fun b=>S b ∧ ¬ GSp B ma b) a x) ∧ (hasR s.graph k = false → x = relZ):=by
 obtain ⟨x,h1,h2,h3⟩:=h.rels.get2 (P:=Tryz.prog) Tryz.underlying69 Tryz.underlying2 (z:=relZ) (fun w=>Tryz.zeroValue49 w) k
 have hh : hasR s.graph k = s.rels.any fun a=>a.id == k:=rfl
 rw [← hh] at h1 h3
 refine ⟨x,?_,?_,h1,h2,h3⟩
 ·cases hf : hasR s.graph k with
  | false=>rw [h3 hf];rfl
  | true =>
    rw [hh,List.any_eq_true] at hf
    obtain ⟨a,ha,e⟩:=hf
    exact Kbi.size (h2 a ha (by simpa using e))
 ·cases hf : hasR s.graph k with
  | false=>rw [h3 hf];simp [relZ,Value.oneCell']
  | true =>
    rw [hh,List.any_eq_true] at hf
    obtain ⟨a,ha,e⟩:=hf
    exact Kbi.ones (h2 a ha (by simpa using e))
theorem dropD_rel (g : GraphD) (i : Int) : dropD g true i = if hasR g i = false then (g,5) else (⟨g.nodes,g.rels.filter fun r=>!(r.id == i),g.nextNode,g.nextRel⟩,0):=by
 unfold dropD hasR
 simp only [if_true]
 cases g.rels.any fun r=>r.id == i <;> rfl
theorem dropD_node (g : GraphD) (i : Int) : dropD g false i = if hasN g i = false then (g,5) else if Kbj g.rels i ≠ [] then (g,150) else (⟨g.nodes.filter fun n=>!(n.id == i),g.rels,g.nextNode,g.nextRel⟩,0):=by
 unfold dropD
 rw [if_neg (by simp)]
theorem dropN_any {S : Nat → Prop} {w : World} {B : GB} {g : GraphD} (hg : GG S w B g) (hS : ∀ b,w.heap.size ≤ b → S b) (hok : okG g = true) (i : Int) :
 Calls Tryz.prog 38 #[.pointer (some ⟨B.gx,0,none⟩),.bool false,.int .i64 i] w fun e w'=>e = .returned (.int .i64 (dropD g false i).2) ∧ GG S w' B (dropD g false i).1 ∧ Touch S w w':=by
 have HG:=yh hg
 obtain ⟨ma,h⟩:=hg
 obtain ⟨⟨k1,_⟩,_⟩:=(Kdj _).1 hok
 have HNO:=yh (none_no h.box)
 obtain ⟨xa,hza,hoa,hlka,_,_⟩:=h.look i
 have hgr : (gsOf g).graph = g:=rfl
 rw [hgr] at hlka
 have hlk0:=hlka w rfl
 have hb1:=Kai (w:=w) (.cells xa 45)
 have h1:=h.below hb1
 have HSTA:=yh (StT.fresh (P:=Tryz.prog) (W:=w) Kbd hza hoa nodeZ rfl)
 have p0 : w.cell? ⟨B.gx,0,none⟩ = some (.map (some B.bn)):=Kag (o:=0) h.box rfl
 rw [dropD_node]
 have hrl:=touchD_len g.rels i
 cases hfa : hasN g i with
 | false =>
   rw [hfa] at hlk0
   have HLKA:=yh hlk0
   have HB1:=yh hb1
   rw [if_pos rfl]
   clear hlk0 hlka h h1 hb1 hgr hza hoa k1 hok hfa hrl
   go_enter Tryz.func38,Tryz.ntmps38
   go_wp2_with (first
    | (go_at_call 42;refine HNO.out.mono ?_;rintro e w0 ⟨rfl,hw0⟩;have hw0:=hw0.symm;subst hw0)
    | ((with_reducible apply Ka0);exact HLKA.out;exact rfl;exact rfl;clear HLKA)
    | ((with_reducible apply Kar);exact HSTA.out;exact rfl;exact rfl;clear HSTA))
   go_ret
   exact ⟨rfl,HG.out.below HB1.out,Ka8 HB1.out⟩
 | true =>
   rw [hfa] at hlk0
   have HLKA:=yh hlk0
   rw [if_neg (by simp)]
   have p01 : (w.alloc (.cells xa 45)).cell? ⟨B.gx,0,none⟩ = some (.map (some B.bn)):=Kag (o:=0) h1.box rfl
   have p21 : (w.alloc (.cells xa 45)).cell? ⟨B.gx,2,none⟩ = some (.map (some B.ba)):=Kag (o:=2) h1.box rfl
   have hrw:=h1.adj.row i
   obtain ⟨pr,cr,hre⟩:=Kbk hrw
   have hlr : (Instr.lookup 70 (.map (some B.ba)) (.int .i64 i) false).run Tryz.prog (w.alloc (.cells xa 45)) = .ok (.slice pr (Kbj g.rels i).length cr) (w.alloc (.cells xa 45)):=by rw [look_row h1.adj.map i,hre];rfl
   have HLKR:=yh hlr
   by_cases ht : Kbj g.rels i = []
   ·rw [if_neg (by simp [ht])]
    have hz : (Kbj g.rels i).length = 0:=by rw [ht];rfl
    rw [hz] at HLKR
    obtain ⟨w2,d1,d2,d3,d4⟩:=h1.delNode i 45 0
    have hdel:=fun T2 ty=>h1.delNode i T2 ty
    have HDEL:=yh (fun T2 ty=>h1.delNode i T2 ty)
    have HH:=yh (And.intro h hb1)
    have HT:=yh ht
    clear hlk0 hlka h h1 hb1 hgr hza hoa k1 hok hfa hrw hre hlr hz ht d1 d2 d3 d4 hdel hrl w2
    obtain ⟨TN,hTN⟩ : ∃ T : TypeId,T = 2:=⟨_,rfl⟩
    obtain ⟨w2,d1,d2,d3,d4⟩:=HDEL.out 2 0
    have p22 : w2.cell? ⟨B.gx,2,none⟩ = some (.map (some B.ba)):=Kag (o:=2) d2.box rfl
    obtain ⟨w3,ma3,q1,q2,q3,q4,q5⟩:=d2.delRow i 2 0
    have HD1:=yh d1
    have HD2:=yh q1
    have HF:=yh (And.intro q2 (And.intro (d3.mono (S':=S) fun b _ e=>by rw [e];exact HH.out.1.own.2.1) (q4.mono (S':=S) fun b _ e=>by rw [e];exact HH.out.1.adj.own)))
    clear d1 d2 d3 d4 q1 q2 q3 q4 q5 hTN
    go_enter Tryz.func38,Tryz.ntmps38
    go_wp2_with (first
     | (go_at_call 42;refine HNO.out.mono ?_;rintro e w0 ⟨rfl,hw0⟩;have hw0:=hw0.symm;subst hw0)
     | ((with_reducible apply Ka0);exact HLKA.out;exact rfl;exact rfl;clear HLKA)
     | ((with_reducible apply Kar);exact HSTA.out;exact rfl;exact rfl;clear HSTA)
     | ((with_reducible apply Ka0);exact HLKR.out;exact rfl;exact rfl;clear HLKR)
     | ((with_reducible apply op_delete);exact HD1.out;exact rfl;exact rfl;clear HD1)
     | ((with_reducible apply op_delete);exact HD2.out;exact rfl;exact rfl;clear HD2))
    go_ret
    refine ⟨rfl,⟨ma3,?_⟩,Touch.pre HH.out.2 (HF.out.2.1.step HF.out.2.2 fun b _ hs=>hs)⟩
    have hq:=HF.out.1
    have e : setI (gsOf g).adj i [] = Kbj g.rels:=by
     funext j
     unfold setI
     split
     ·rename_i e;rw [e,HT.out]
     ·rfl
    rw [e] at hq
    exact hq
   ·rw [if_pos ht]
    have hz : (0 : Int) < ((Kbj g.rels i).length : Int):=by
     cases hl : Kbj g.rels i with
     | nil=>exact absurd hl ht
     | cons a r=>simp
    have HB1:=yh hb1
    generalize (Kbj g.rels i).length = tn at *
    clear hlk0 hlka h h1 hb1 hgr hza hoa k1 hok hfa hrw hre hlr ht
    go_enter Tryz.func38,Tryz.ntmps38
    go_wp2_with (first
     | (go_at_call 42;refine HNO.out.mono ?_;rintro e w0 ⟨rfl,hw0⟩;have hw0:=hw0.symm;subst hw0)
     | ((with_reducible apply Ka0);exact HLKA.out;exact rfl;exact rfl;clear HLKA)
     | ((with_reducible apply Kar);exact HSTA.out;exact rfl;exact rfl;clear HSTA)
     | ((with_reducible apply Ka0);exact HLKR.out;exact rfl;exact rfl;clear HLKR))
    go_ret
    exact ⟨rfl,HG.out.below HB1.out,Ka8 HB1.out⟩
theorem dropR_any {S : Nat → Prop} {w : World} {B : GB} {g : GraphD} (hg : GG S w B g) (hS : ∀ b,w.heap.size ≤ b → S b) (hok : okG g = true) (i : Int) :
 Calls Tryz.prog 38 #[.pointer (some ⟨B.gx,0,none⟩),.bool true,.int .i64 i] w fun e w'=>e = .returned (.int .i64 (dropD g true i).2) ∧ GG S w' B (dropD g true i).1 ∧ Touch S w w':=by
 have HG:=yh hg
 obtain ⟨ma,h⟩:=hg
 obtain ⟨⟨k1,_⟩,_,_,_,k9⟩:=(Kdj _).1 hok
 have HNO:=yh (none_no h.box)
 obtain ⟨xa,hza,hoa,hlka,hown,_⟩:=h.lookR i
 have hgr : (gsOf g).graph = g:=rfl
 rw [hgr] at hlka
 have hlk0:=hlka w rfl
 have p0 : w.cell? ⟨B.gx,1,none⟩ = some (.map (some B.br)):=Kag (o:=1) h.box rfl
 rw [dropD_rel]
 cases hfa : hasR g i with
 | false =>
   rw [hfa] at hlk0
   have HLKA:=yh hlk0
   have HB1:=yh (Kai (w:=w) (.cells xa 49))
   have HSTA:=yh (StT.fresh (P:=Tryz.prog) (W:=w) Kb1 hza hoa relZ rfl)
   rw [if_pos rfl]
   clear hlk0 hlka h hgr hza hoa k1 k9 hok hfa hown
   go_enter Tryz.func38,Tryz.ntmps38
   go_wp2_with (first
    | (go_at_call 42;refine HNO.out.mono ?_;rintro e w0 ⟨rfl,hw0⟩;have hw0:=hw0.symm;subst hw0)
    | ((with_reducible apply Ka0);exact HLKA.out;exact rfl;exact rfl;clear HLKA)
    | ((with_reducible apply Kar);exact HSTA.out;exact rfl;exact rfl;clear HSTA))
   go_ret
   exact ⟨rfl,HG.out.below HB1.out,Ka8 HB1.out⟩
 | true =>
   rw [hfa] at hlk0
   have HLKA:=yh hlk0
   rw [if_neg (by simp)]
   obtain ⟨r,hr,hri⟩ : ∃ r ∈ g.rels,r.id = i:=by
    unfold hasR at hfa
    rw [List.any_eq_true] at hfa
    obtain ⟨r,hr,e⟩:=hfa
    exact ⟨r,hr,by simpa using e⟩
   obtain ⟨vp,exa,hvp⟩:=hown r hr hri
   obtain ⟨pp,cp,rfl⟩:=hvp.slice
   have exa2 : xa = Ka6 r pp cp:=exa
   rw [exa2] at HLKA
   obtain ⟨w1,hbs,hg1,hr1,hp1,hs1,hbc,hL1⟩:=link_start h.box h.adj r pp cp
   have HSTA:=yh (StT.fresh (P:=Tryz.prog) (W:=w) Kb1 (show (Ka6 r pp cp).size = 5 from rfl) (by simp [Ka6,Value.oneCell']) relZ rfl)
   have hx8:=heap_alloc_new w (.cells (Ka6 r pp cp) 49)
   have p1 : (w.alloc (.cells (Ka6 r pp cp) 49)).cell? ⟨w.heap.size,1,none⟩ = some (.int .i64 r.src):=Kag (o:=1) hx8 rfl
   have p2 : (w.alloc (.cells (Ka6 r pp cp) 49)).cell? ⟨w.heap.size,2,none⟩ = some (.int .i64 r.dst):=Kag (o:=2) hx8 rfl
   have HBS:=yh hbs
   have HH:=yh (And.intro h hbc)
   have HB0:=yh h.adj
   have HG1:=yh hg1
   have HG0:=yh h.box
   have HP:=yh hp1
   have HS1:=yh hs1
   have HS:=yh hS
   have HL1:=yh hL1
   have HADJ:=yh (adj_drop (s:=gsOf g) (fun j=>rfl) (Kcv _ k9) hr)
   have HRI:=yh hri
   clear hlk0 hlka h hgr hza hoa k1 k9 hok hfa hown hr hvp exa exa2 hbs hg1 hr1 hp1 hs1 hbc hL1 hx8 hS hri
   go_enter Tryz.func38,Tryz.ntmps38
   go_wp2_with (first
    | (go_at_call 42;refine HNO.out.mono ?_;rintro e w0 ⟨rfl,hw0⟩;have hw0:=hw0.symm;subst hw0)
    | ((with_reducible apply Ka0);exact HLKA.out;exact rfl;exact rfl;clear HLKA)
    | ((with_reducible apply Kar);exact HSTA.out;exact rfl;exact rfl;clear HSTA)
    | ((with_reducible apply op_bs2);exact HBS.out;exact rfl;exact rfl;clear HBS))
   clear p0 p1 p2
   go_loopw [65] (fun i wr=>∃ j : Nat,j ≤ 2 ∧ i = .int .i64 (j : Int) ∧ Hid (LInv S w1 wr B.ba ma (cutJ (Kbj g.rels) r.src r.dst r.id j))) (fun i _=>2 - (intOf i).toNat)
   case atStart=>exact ⟨0,Nat.zero_le _,rfl,HL1⟩
   case round =>
    obtain ⟨j,hj,rfl,HJ⟩:=hrel
    by_cases hlt : j < 2
    ·obtain ⟨maj,hA,hsub,hT⟩:=HJ.out
     obtain ⟨k,hk⟩ : ∃ k,[r.src,r.dst][j]? = some k:=⟨_,List.getElem?_eq_getElem (by simpa using hlt)⟩
     have hnx:=cutJ_succ (Kbj g.rels) (r:=r.id) hk
     have hs1:=HS1.out
     have hgx : wr.heap[B.gx]? = some (.cells (gBoxV B (gsOf g)) 72 (0,0)):=HJ.out.box HB0.out HG0.out HG1.out
     have hpb : wr.heap[w.heap.size + 1]? = some (.cells #[.int .i64 r.src,.int .i64 r.dst] 2 (0,0)):=(HJ.out.far HB0.out (by omega) (by omega)).trans HP.out
     have HC:=yh (Kaf (w:=wr) (ad:=⟨w.heap.size + 1,j,none⟩) Tryz.underlying2 rfl (Kag (o:=j) hpb (by
      have : (#[Value.int .i64 r.src,.int .i64 r.dst] : Array Value)[j]? = ([r.src,r.dst][j]?).map (Value.int .i64):=by
       match j,hlt with
       | 0,_=>rfl
       | 1,_=>rfl
      rw [this,hk];rfl)))
     have hsea : ∀ W,Below wr.heap.size wr W → Calls Tryz.prog 96 #[rowAt maj k,.int .i64 r.id] W fun e w'=>e = .returned (.tuple #[.int .i64 (((cutJ (Kbj g.rels) r.src r.dst r.id j k).countP (· < r.id) : Nat) : Int),.bool ((cutJ (Kbj g.rels) r.src r.dst r.id j k).contains r.id)]) ∧ Below W.heap.size W w':=fun W g=>by
      have hA2:=hA.below g
      have h2:=hA2.row k
      refine (search_any r.id h2.1 (hA2.rise k) (hA2.few k)).mono ?_
      rintro e w' ⟨rfl,q,rfl⟩
      exact ⟨rfl,below_drewN _ q⟩
     have hfew:=hA.few k
     have hSw : ∀ b,wr.heap.size ≤ b → S b:=fun b hb=>HS.out b (by have:=hT.size;omega)
     have hgn:=hA.other hgx (by decide)
     have hlt1:=Nat.succ_le_of_lt hlt
     have hcut:=fun W8 (hA8 : AtM S W8 B.ba maj (cutJ (Kbj g.rels) r.src r.dst r.id j)) (hT8 : Touch (fun b=>b = B.ba ∨ Rows ma b) w1 W8) (hS8 : ∀ b,W8.heap.size ≤ b → S b) hc=>row_cut (k:=k) (x:=r.id) hA8 hsub hT8 hS8 hc
     have hcno:=fun hc=>cutK_none (f:=cutJ (Kbj g.rels) r.src r.dst r.id j) (k:=k) (x:=r.id) hc
     have hcp : (cutJ (Kbj g.rels) r.src r.dst r.id j k).countP (· < r.id) ≤ 1100000:=Nat.le_trans List.countP_le_length hfew
     have HRI2:=HRI.out
     rw [HRI.out] at hsea hcut hcno hcp hnx
     generalize hfj : cutJ (Kbj g.rels) r.src r.dst i j = fj at *
     have hri3 : cutJ (Kbj g.rels) r.src r.dst r.id j = fj:=by rw [HRI.out];exact hfj
     rw [hri3] at hA
     obtain ⟨rv,hrv⟩ : ∃ rv,rv = rowAt maj k:=⟨_,rfl⟩
     obtain ⟨pp2,hpp⟩ : ∃ pp,pp = (fj k).countP (· < i):=⟨_,rfl⟩
     obtain ⟨bb,hbb⟩ : ∃ bb,bb = (fj k).contains i:=⟨_,rfl⟩
     simp only [← hrv,← hpp,← hbb,hri3] at hsea
     rw [← hpp] at hcp
     have hlk : ∀ W : World,IntMap W B.ba maj → (Instr.lookup 70 (.map (some B.ba)) (.int .i64 k) false).run Tryz.prog W = .ok rv W:=fun W hW=>by rw [hrv];exact look_row hW k
     have p20 : wr.cell? ⟨B.gx,2,none⟩ = some (.map (some B.ba)):=Kag (o:=2) hgx rfl
     have HLK:=yh (hlk wr hA.map)
     have HSEA:=yh (hsea wr (Below.refl _ _))
     have HX:=yh (And.intro hA (And.intro hsub (And.intro hT (And.intro hnx (And.intro hgx (And.intro hSw (And.intro hgn (And.intro hlk (And.intro hrv (And.intro hpp (And.intro hbb hri3)))))))))))
     have HCUT:=yh (And.intro hcut hcno)
     clear hA hsub hT hnx hs1 hgx hpb hsea hSw hgn hlk hrv hpp hk hfj hcut hcno hfew hri3 HRI2
     cases bb with
     | false =>
       have HBB:=yh hbb
       clear hbb hcp
       go_wp2_with (first
        | ((with_reducible apply Kaq);exact HC.out;exact rfl;clear HC)
        | ((with_reducible apply Ka0);exact HLK.out;exact rfl;exact rfl;clear HLK)
        | (go_at_call 96;refine HSEA.out.mono ?_;rintro e W8 ⟨rfl,hb⟩;have HB8:=yh hb;clear hb))
       go_roundw
       case rel =>
        refine ⟨j + 1,hlt1,by go_num,yh ?_⟩
        obtain ⟨hA,hsub,hT,hnx,_⟩:=HX.out
        rw [HRI.out,hnx,HCUT.out.2 HBB.out.symm]
        exact ⟨maj,hA.below HB8.out,hsub,hT.grow HB8.out⟩
       case measure=>simp [intOf];omega
     | true =>
       have HBB:=yh hbb
       have hw1 : IntKind.i64.wrap ((pp2 : Int) + 1) = (pp2 : Int) + 1:=by rw [IntKind.wrap_i64];omega
       have hadd1 : ∀ W : World,(binOp .add 3 (.int .i64 (pp2 : Int)) (.int .i64 1)).run Tryz.prog W = .ok (.int .i64 ((pp2 : Int) + 1)) W:=fun W=>by simp [go_sem,hw1]
       have HADD:=yh hadd1
       clear hbb hcp hw1 hadd1
       go_wp2_with (first
        | ((with_reducible apply Kaq);exact HC.out;exact rfl;clear HC)
        | ((with_reducible apply Ka0);exact HLK.out;exact rfl;exact rfl;clear HLK)
        | (go_at_call 96;refine HSEA.out.mono ?_;rintro e W8 ⟨rfl,hb⟩;have HB8:=yh hb;clear hb))
       obtain ⟨hA,hsub,hT,hnx,hgx,hSw,hgn,hlk,hrv,hpp,hbb2,hri3⟩:=HX.out
       have hA8:=hA.below HB8.out
       have hT8:=hT.grow HB8.out
       have hSw8 : ∀ b,W8.heap.size ≤ b → S b:=fun b hb=>hSw b (by have:=HB8.out.size;omega)
       have hg8 : W8.heap[B.gx]? = some (.cells (gBoxV B (gsOf g)) 72 (0,0)):=Kal HB8.out (Array.getElem?_eq_some_iff.1 hgx).1 hgx
       have c3:=HCUT.out.1 W8 hA8 hT8 hSw8 HBB.out.symm
       have hadd:=HADD.out
       simp only [← hrv,← hpp] at c3
       have hS0 : W8.drew.heap[B.gx]? = some (.cells (gBoxV B (gsOf g)) 72 (0,0)) ∧ IntMap W8.drew B.ba maj:=⟨hg8,hA8.map.of_heap rfl⟩
       refine Kah (fun W=>W.heap[B.gx]? = some (.cells (gBoxV B (gsOf g)) 72 (0,0)) ∧ IntMap W B.ba maj) (by kernel_rfl) hS0 (fun hS=>?_)
       refine tk 0 81 (v:=.pointer (some ⟨B.gx,0,none⟩)) rfl rfl (fun W hW=>Kab rfl rfl) ?_
       simp only [Act.put,sA,sZ,sS]
       refine tk 1 82 (v:=.pointer (some ⟨B.gx,0,none⟩)) rfl rfl (fun W hW=>rfl) ?_
       simp only [Act.put,sA,sZ,sS]
       refine tk 2 83 (v:=.pointer (some ⟨B.gx,2,none⟩)) rfl rfl (fun W hW=>Kac rfl rfl (Kbo 2 (by omega) _ W)) ?_
       simp only [Act.put,sA,sZ,sS]
       refine tk 3 84 (v:=.map (some B.ba)) rfl rfl (fun W hW=>Kad rfl rfl (Kaf (w:=W) Tryz.underlying70 rfl (Kag (o:=2) hW.1 rfl))) ?_
       simp only [Act.put,sA,sZ,sS]
       refine tk 4 85 (v:=.int .i64 k) rfl rfl (fun W hW=>Kab rfl rfl) ?_
       simp only [Act.put,sA,sZ,sS]
       refine tk 5 86 (v:=.pointer (some ⟨B.gx,0,none⟩)) rfl rfl (fun W hW=>Kab rfl rfl) ?_
       simp only [Act.put,sA,sZ,sS]
       refine tk 6 87 (v:=.pointer (some ⟨B.gx,0,none⟩)) rfl rfl (fun W hW=>rfl) ?_
       simp only [Act.put,sA,sZ,sS]
       refine tk 7 88 (v:=.pointer (some ⟨B.gx,2,none⟩)) rfl rfl (fun W hW=>Kac rfl rfl (Kbo 2 (by omega) _ W)) ?_
       simp only [Act.put,sA,sZ,sS]
       refine tk 8 89 (v:=.map (some B.ba)) rfl rfl (fun W hW=>Kad rfl rfl (Kaf (w:=W) Tryz.underlying70 rfl (Kag (o:=2) hW.1 rfl))) ?_
       simp only [Act.put,sA,sZ,sS]
       refine tk 9 90 (v:=.int .i64 k) rfl rfl (fun W hW=>Kab rfl rfl) ?_
       simp only [Act.put,sA,sZ,sS]
       refine tk 10 91 (v:=rv) rfl rfl (fun W hW=>Kb5 rfl rfl rfl (hlk W hW.2)) ?_
       simp only [Act.put,sA,sZ,sS]
       refine tk 11 92 (v:=.int .i64 (pp2 : Int)) rfl rfl (fun W hW=>Kab rfl rfl) ?_
       simp only [Act.put,sA,sZ,sS]
       refine tk 12 93 (v:=.int .i64 (pp2 : Int)) rfl rfl (fun W hW=>Kab rfl rfl) ?_
       simp only [Act.put,sA,sZ,sS]
       refine tk 13 94 (v:=.int .i64 ((pp2 : Int) + 1)) rfl rfl (fun W hW=>Kam rfl rfl rfl (hadd W)) ?_
       simp only [Act.put,sA,sZ,sS]
       refine Kao 14 95 rfl rfl (by kernel_rfl) rfl (Kan [rv,.int .i64 (pp2 : Int),.int .i64 ((pp2 : Int) + 1)] rfl rfl Tryz.func97 (by kernel_rfl) (by kernel_rfl)) ?_
       refine c3.mono ?_
       rintro e W15 ⟨v15,rfl,m0,W16,m1,m2⟩
       have hS15 : W15.heap[B.gx]? = some (.cells (gBoxV B (gsOf g)) 72 (0,0)) ∧ IntMap W15 B.ba maj:=⟨(m0 _ (Array.getElem?_eq_some_iff.1 hg8).1 hgn.2).trans hg8,hA8.map.of_heap (m0 _ hA8.map.lt hA8.ne)⟩
       refine ⟨_,rfl,.inr hS15,?_⟩
       simp only [Act.put,sA,sZ,sS]
       refine Kce 15 rfl rfl (by kernel_rfl) rfl (Kbt rfl rfl rfl rfl m1) (.inl (by kernel_rfl)) ?_
       refine done (by kernel_rfl) ?_ _
       have HN:=yh (show LInv S w1 W16 B.ba ma (cutJ (Kbj g.rels) r.src r.dst r.id (j + 1)) from by rw [HRI.out,hnx];exact m2)
       clear hA hsub hT hnx hgx hSw hgn hlk hrv hpp hbb2 hri3 hA8 hT8 hSw8 hg8 c3 hadd hS0 hS m0 m1 m2 hS15
       go_wp2
       go_roundw
       case rel=>exact ⟨j + 1,hlt1,by go_num,HN⟩
       case measure=>simp [intOf];omega
    ·obtain rfl : j = 2:=by omega
     obtain ⟨m2,h1,h2,h3⟩:=HJ.out
     have hg1:=HH.out.1.below HH.out.2
     have hg2:=hg1.linked h1 (fun b hb hr=>h2 b hb hr) h3
     obtain ⟨w9,q1,q2,q3,q4⟩:=hg2.delRel i 2 0
     have p12 : wr.cell? ⟨B.gx,1,none⟩ = some (.map (some B.br)):=Kag (o:=1) hg2.box rfl
     have HD:=yh q1
     have hTs : Touch S w w9:=(Touch.pre HH.out.2 (h3.mono (S':=S) fun b _ e=>e.elim (fun e=>by rw [e];exact HB0.out.own) fun e=>(HB0.out.block e).2.1)).step (q3.mono (S':=S) fun b _ e=>by rw [e];exact hg2.own.2.2) fun b _ hs=>hs
     have HF:=yh (And.intro q2 hTs)
     clear h1 h2 h3 hg1 hg2 q1 q2 q3 q4 hTs
     go_wp2_with ((with_reducible apply op_delete);exact HD.out;exact rfl;exact rfl;clear HD)
     go_ret
     refine ⟨rfl,⟨m2,?_⟩,HF.out.2⟩
     have hq:=HF.out.1
     have ha:=gsOf_eq HADJ.out
     rw [cutJ_two] at hq
     have e : (⟨g.nodes,g.rels.filter (fun y=>!(y.id == i)),cutK (cutK (Kbj g.rels) r.src r.id) r.dst r.id,g.nextNode,g.nextRel⟩ : GS) = gsOf ⟨g.nodes,g.rels.filter fun y=>!(y.id == i),g.nextNode,g.nextRel⟩:=by
      rw [← HRI.out]
      exact ha
     rw [← e]
     exact hq
theorem addNode_gg {S : Nat → Prop} {w : World} {B : GB} {g : GraphD} (hE : Env w) (hg : GG S w B g) (hS : ∀ b,w.heap.size ≤ b → S b) (hok : okG g = true) {pl : Option Addr} {cl : Nat} {labels : List (List UInt8)} (hl : RdS w pl cl labels) (hl1 : labels.length ≤ 1100000) {pp : Option Addr} {cp : Nat} {props : List PropD} (hp : GRd PRd 7 w pp cp props) (hp1 : PsOk props) :
 Calls Tryz.prog 15 #[.pointer (some ⟨B.gx,0,none⟩),.slice pl labels.length cl,.slice pp props.length cp] w fun e w'=>e = .returned (.tuple #[.int .i64 (Kbf g labels props).2.1,.int .i64 (Kbf g labels props).2.2]) ∧ GG S w' B (Kbf g labels props).1 ∧ Touch S w w':=by
 obtain ⟨ma,h⟩:=hg
 refine (addNode_any hE h hS hok hl hl1 hp hp1).mono ?_
 rintro e w' ⟨he,h1,h2⟩
 have hgr : (gsOf g).graph = g:=rfl
 rw [hgr] at he h1
 refine ⟨he,⟨ma,?_⟩,h2⟩
 have hr : (Kbf g labels props).1.rels = g.rels:=by
  unfold Kbf
  split
  ·rfl
  ·split <;> rfl
 unfold gsOf
 rw [hr]
 exact h1
theorem drop_gg {S : Nat → Prop} {w : World} {B : GB} {g : GraphD} (hg : GG S w B g) (hS : ∀ b,w.heap.size ≤ b → S b) (hok : okG g = true) (rel : Bool) (i : Int) :
 Calls Tryz.prog 38 #[.pointer (some ⟨B.gx,0,none⟩),.bool rel,.int .i64 i] w fun e w'=>e = .returned (.int .i64 (dropD g rel i).2) ∧ GG S w' B (dropD g rel i).1 ∧ Touch S w w':=by
 cases rel with
 | false=>exact dropN_any hg hS hok i
 | true=>exact dropR_any hg hS hok i
theorem RdS.pair {W : World} {g : Nat} {a b : List UInt8} (h : W.heap[g]? = some (.cells #[.string (strB a),.string (strB b)] 9 (0,0))) (ha : a.length ≤ 1000) (hb : b.length ≤ 1000) : RdS W (some ⟨g,0,none⟩) 2 [a,b]:=by
 refine ⟨Nat.le_refl _,by simp,fun e=>(by cases e),fun s hs=>?_,fun ad had=>?_⟩
 ·rcases List.mem_cons.1 hs with rfl | hs
  ·omega
  ·rw [List.mem_singleton.1 hs];omega
 ·cases had
  refine ⟨fun _=>rfl,fun i s hs=>?_⟩
  match i,hs with
  | 0,hs=>cases hs;exact Kag (o:=0) h rfl
  | 1,hs=>cases hs;exact Kag (o:=1) h rfl
  | n + 2,hs=>simp at hs
theorem GRd.single {W : World} {g : Nat} {p : PropD} {x : Array Value} (h : W.heap[g]? = some (.cells x 47 (0,0))) (hx : PRd W p x) : GRd PRd 7 W (some ⟨g,0,none⟩) 1 [p]:=by
 refine ⟨⟨Nat.le_refl _,by simp,fun e=>(by cases e)⟩,fun ad had=>?_⟩
 cases had
 refine ⟨fun _=>rfl,fun j v hv=>?_⟩
 match j,hv with
 | 0,hv =>
   cases hv
   refine ⟨x,ef_prop.size hx,fun i u hu=>?_,hx⟩
   have:=Kag (o:=i) h hu
   simpa using this
 | n + 1,hv=>simp at hv
theorem RdS.none (W : World) : RdS W none 0 []:=⟨Nat.le_refl _,by simp,fun _=>rfl,fun s hs=>by simp at hs,fun ad had=>by cases had⟩
theorem GRd.none {α : Type} (F : World → α → Array Value → Prop) (K : Nat) (W : World) : GRd F K W none 0 ([] : List α):=⟨⟨Nat.le_refl _,by simp,fun _=>rfl⟩,fun ad had=>by cases had⟩
def kLabels : List (List UInt8):=[[66],[65]]
def kVal : V:=.mk 2 false 1 [] [] []
def kProps : List PropD:=[⟨[107],kVal⟩]
def kg1 : GraphD:=⟨[⟨0,[[65],[66]],kProps⟩],[],1,0⟩
def kg2 : GraphD:=⟨[⟨0,[[65],[66]],kProps⟩,⟨1,[],[]⟩],[],2,0⟩
def kg3 : GraphD:=⟨[⟨0,[[65],[66]],kProps⟩,⟨1,[],[]⟩],[⟨0,0,1,[84],[]⟩],2,1⟩
def kg4 : GraphD:=⟨[⟨0,[[65],[66]],kProps⟩,⟨1,[],[]⟩],[],2,1⟩
def kg5 : GraphD:=⟨[⟨1,[],[]⟩],[],2,1⟩
theorem kok0 : okG graph0 = true:=by kernel_rfl
theorem kok1 : okG kg1 = true:=by kernel_rfl
theorem kok2 : okG kg2 = true:=by kernel_rfl
theorem kok3 : okG kg3 = true:=by kernel_rfl
theorem kok4 : okG kg4 = true:=by kernel_rfl
theorem kadd1 : Kbf graph0 kLabels kProps = (kg1,0,0):=by kernel_rfl
theorem kadd2 : Kbf kg1 [] [] = (kg2,1,0):=by kernel_rfl
theorem kadd3 : addRelD kg2 0 1 [84] [] = (kg3,0,0):=by kernel_rfl
theorem kadd4 : addRelD kg3 0 2 [84] [] = (kg3,0,5):=by kernel_rfl
theorem kdrop1 : dropD kg3 false 0 = (kg3,150):=by kernel_rfl
theorem kdrop2 : dropD kg3 true 0 = (kg4,0):=by kernel_rfl
theorem kdrop3 : dropD kg4 false 0 = (kg5,0):=by kernel_rfl
theorem kbound : GOk kg5:=by refine ⟨by decide,by decide,?_,?_⟩ <;> simp [kg5,NOk,PsOk]
theorem kbound0 : GOk graph0:=by refine ⟨by decide,by decide,?_,?_⟩ <;> simp [graph0]
theorem Touch.low {w W W' : World} (h : Touch (fun b=>w.heap.size ≤ b) W W') (hb : Below w.heap.size w W) : Below w.heap.size w W':=h.below hb (fun b h1 h2=>by omega) hb.size
def kCells : Array Value:=#[.string (strB [107]),.int .i64 2,.bool false,.int .i64 1,.string (strB []),.slice none 0 0,.slice none 0 0]
theorem kcells_rd (W : World) : PRd W ⟨[107],kVal⟩ kCells:=⟨#[.int .i64 2,.bool false,.int .i64 1,.string (strB []),.slice none 0 0,.slice none 0 0],rfl,by simp,Kbz.2 ⟨none,0,none,0,rfl,by simp,RdS.none W,⟨Nat.le_refl _,by simp,fun _=>rfl⟩,fun ad had=>by cases had⟩⟩
theorem kPsOk : PsOk kProps:=⟨by simp [kProps],fun p hp=>by rw [List.mem_singleton.1 hp];exact ⟨by simp,by simp [kVal,totV,totVs]⟩⟩
theorem run_bs2s (x y : List UInt8) (w : World) : (Instr.buildSlice 26 2 #[(0,.string (strB x)),(1,.string (strB y))]).run Tryz.prog w = .ok (.slice (some ⟨w.heap.size,0,none⟩) 2 2) (w.alloc (.cells #[.string (strB x),.string (strB y)] 9)):=by
 simp [Instr.buildSlice,go_sem,Instr.fill]
theorem known_any {w : World} (hE : Env w) : Calls Tryz.prog 12 #[] w fun e w'=>e = .returned (.bool true) ∧ Below w.heap.size w w':=by
 have hr0 : GrRd w graph0 #[.slice none 0 0,.slice none 0 0,.int .i64 0,.int .i64 0]:=⟨none,0,none,0,rfl,GRd.none _ _ _,GRd.none _ _ _⟩
 have HMK:=yh (make_any hE hr0 kbound0)
 have HE:=yh hE
 clear hE hr0
 go_enter Tryz.func12,Tryz.ntmps12
 go_wp2_with (first
  | (go_at_call 14
     (
      refine HMK.out.mono ?_
      rintro e w1 ⟨hb,_,h2⟩
      obtain ⟨B,ma,rfl,hgm⟩:=h2 kok0
      have hg1 : GG (fun b=>w.heap.size ≤ b) w1 B graph0:=GG.made kok0 hgm
      have hn2:=Kai (w:=w1) (.cells #[.string (strB [66]),.string (strB [65])] 9)
      have hn3:=Kai (w:=w1.alloc (.cells #[.string (strB [66]),.string (strB [65])] 9)) (.cells kCells 47)
      have hl3:=RdS.pair (Kal hn3 (by simp) (heap_alloc_new w1 (.cells #[.string (strB [66]),.string (strB [65])] 9))) (by decide) (by decide)
      have hx3:=heap_alloc_new (w1.alloc (.cells #[.string (strB [66]),.string (strB [65])] 9)) (.cells kCells 47)
      simp only [World.size_alloc] at hx3
      have hp3:=GRd.single hx3 (kcells_rd _)
      have hb3:=Kaa hb (Kaa hn2 hn3)
      have hc1:=addNode_gg (HE.out.b hb3) (hg1.below (Kaa hn2 hn3)) (fun b h=>Nat.le_trans hb3.size h) kok0 (labels:=kLabels) hl3 (by decide) (props:=kProps) hp3 kPsOk
      rw [kadd1] at hc1
      have HBS2:=yh (run_bs2s [66] [65] w1)
      have hbs1:=Kaz (P:=Tryz.prog) (w:=w1.alloc (.cells #[.string (strB [66]),.string (strB [65])] 9)) (v:=.agg kCells) Tryz.underlying27 Tryz.sizeOf47 Tryz.zeroValue47 rfl (by omega) (by omega)
      simp only [World.size_alloc] at hbs1
      have HBS1:=yh hbs1
      have HC1:=yh hc1
      have HB3:=yh hb3
      clear hb h2 hgm hg1 hn2 hn3 hl3 hx3 hp3 hb3 hc1 HMK hbs1))
  | ((with_reducible apply op_bs2);exact HBS2.out;exact rfl;exact rfl;clear HBS2)
  | ((with_reducible apply op_bs1);exact HBS1.out;exact rfl;clear HBS1)
  | (go_at_call 15
     (
      refine HC1.out.mono ?_
      rintro e w4 ⟨rfl,hg4,hT4⟩
      have hb4:=hT4.low HB3.out
      have hc2:=addNode_gg (HE.out.b hb4) hg4 (fun b h=>Nat.le_trans hb4.size h) kok1 (RdS.none w4) (by decide) (GRd.none PRd 7 w4) ⟨by simp,fun p hp=>by simp at hp⟩
      rw [kadd2] at hc2
      have HC2:=yh hc2
      have HB4:=yh hb4
      clear hg4 hT4 hb4 hc2 HC1))
  | (go_at_call 15
     (
      refine HC2.out.mono ?_
      rintro e w5 ⟨rfl,hg5,hT5⟩
      have hb5:=hT5.low HB4.out
      have hc3:=addRel_any (HE.out.b hb5) hg5 (fun b h=>Nat.le_trans hb5.size h) kok2 0 1 (type:=[84]) (by decide) (GRd.none PRd 7 w5) ⟨by simp,fun p hp=>by simp at hp⟩
      rw [kadd3] at hc3
      have HC3:=yh hc3
      have HB5:=yh hb5
      clear hg5 hT5 hb5 hc3 HC2))
  | (go_at_call 37
     (
      refine HC3.out.mono ?_
      rintro e w6 ⟨rfl,hg6,hT6⟩
      have hb6:=hT6.low HB5.out
      have hc4:=addRel_any (HE.out.b hb6) hg6 (fun b h=>Nat.le_trans hb6.size h) kok3 0 2 (type:=[84]) (by decide) (GRd.none PRd 7 w6) ⟨by simp,fun p hp=>by simp at hp⟩
      rw [kadd4] at hc4
      have HC4:=yh hc4
      have HB6:=yh hb6
      clear hg6 hT6 hb6 hc4 HC3))
  | (go_at_call 37
     (
      refine HC4.out.mono ?_
      rintro e w7 ⟨rfl,hg7,hT7⟩
      have hb7:=hT7.low HB6.out
      have hc5:=drop_gg hg7 (fun b h=>Nat.le_trans hb7.size h) kok3 false 0
      rw [kdrop1] at hc5
      have HC5:=yh hc5
      have HB7:=yh hb7
      clear hg7 hT7 hb7 hc5 HC4))
  | (go_at_call 38
     (
      refine HC5.out.mono ?_
      rintro e w8 ⟨rfl,hg8,hT8⟩
      have hb8:=hT8.low HB7.out
      have hc6:=drop_gg hg8 (fun b h=>Nat.le_trans hb8.size h) kok3 true 0
      rw [kdrop2] at hc6
      have HC6:=yh hc6
      have HB8:=yh hb8
      clear hg8 hT8 hb8 hc6 HC5))
  | (go_at_call 38
     (
      refine HC6.out.mono ?_
      rintro e w9 ⟨rfl,hg9,hT9⟩
      have hb9:=hT9.low HB8.out
      have hc7:=drop_gg hg9 (fun b h=>Nat.le_trans hb9.size h) kok4 false 0
      rw [kdrop3] at hc7
      have HC7:=yh hc7
      have HB9:=yh hb9
      clear hg9 hT9 hb9 hc7 HC6))
  | (go_at_call 38
     (
      refine HC7.out.mono ?_
      rintro e w10 ⟨rfl,⟨m10,hg10⟩,hT10⟩
      have hb10:=hT10.low HB9.out
      have hc8:=tellG_any hg10 kbound.2.2.1 kbound.2.2.2 (by decide) (by decide)
      have HC8:=yh hc8
      have HB10:=yh hb10
      clear hg10 hT10 hb10 hc8 HC7))
  | (go_at_call 16
     (
      refine HC8.out.mono ?_
      rintro e w11 ⟨x,rfl,hx,hb⟩
      obtain ⟨pn,cn,pr,cr,rfl,_,_⟩:=hx.rdO kbound
      have HFR:=yh (StT.fresh (P:=Tryz.prog) (W:=w11) Kbl (show (#[.slice pn kg5.nodes.length cn,.slice pr kg5.rels.length cr,.int .i64 kg5.nextNode,.int .i64 kg5.nextRel] : Array Value).size = 4 from rfl) (by simp [Value.oneCell']))
      have hb11:=Kaa HB10.out hb
      have hx12:=heap_alloc_new w11 (.cells #[.slice pn kg5.nodes.length cn,.slice pr kg5.rels.length cr,.int .i64 kg5.nextNode,.int .i64 kg5.nextRel] 25)
      have p0 : (w11.alloc (.cells #[.slice pn kg5.nodes.length cn,.slice pr kg5.rels.length cr,.int .i64 kg5.nextNode,.int .i64 kg5.nextRel] 25)).cell? ⟨w11.heap.size,0,none⟩ = some (.slice pn 1 cn):=Kag (o:=0) hx12 rfl
      have p2 : (w11.alloc (.cells #[.slice pn kg5.nodes.length cn,.slice pr kg5.rels.length cr,.int .i64 kg5.nextNode,.int .i64 kg5.nextRel] 25)).cell? ⟨w11.heap.size,2,none⟩ = some (.int .i64 2):=Kag (o:=2) hx12 rfl
      have p3 : (w11.alloc (.cells #[.slice pn kg5.nodes.length cn,.slice pr kg5.rels.length cr,.int .i64 kg5.nextNode,.int .i64 kg5.nextRel] 25)).cell? ⟨w11.heap.size,3,none⟩ = some (.int .i64 1):=Kag (o:=3) hx12 rfl
      have HB12:=yh (Kaa hb11 (Kai (w:=w11) (.cells #[.slice pn kg5.nodes.length cn,.slice pr kg5.rels.length cr,.int .i64 kg5.nextNode,.int .i64 kg5.nextRel] 25)))
      clear hx hb hb11 hx12 HC8))
  | ((with_reducible apply Kar);exact HFR.out _ rfl;exact rfl;exact rfl;clear HFR))
 go_ret
 exact ⟨rfl,HB12.out⟩
theorem more_any (l : List UInt8) (i : Nat) (w : World) (hi : i ≤ 140737488355400) (hl : l.length ≤ 140737488355328) : Calls Tryz.prog 186 #[.string (strB l),.int .i64 (i : Int)] w fun e w'=>e = .returned (.bool (moreB l i)) ∧ w = w':=by
 have hsz : (strB l).size = l.length:=rfl
 have z1 : (l.length : Int) ≤ 140737488355328:=by omega
 by_cases h : i < l.length
 ·have hm : moreB l i = (decide (128 ≤ l[i].toNat) && decide (l[i].toNat ≤ 191)):=by unfold moreB;rw [List.getElem?_eq_getElem h]
  rw [hm]
  go_enter Tryz.func186,Tryz.ntmps186
  go_wp2
  ·rename_i hx
   have hx' : 128 ≤ (l[i].toNat : Int):=hx
   go_ret
   refine ⟨Kak ?_,rfl⟩
   rw [show decide (128 ≤ l[i].toNat) = true by simp;omega,Bool.true_and]
   show decide ((l[i].toNat : Int) ≤ 191) = decide (l[i].toNat ≤ 191)
   rw [Bool.eq_iff_iff,decide_eq_true_iff,decide_eq_true_iff]
   omega
  ·rename_i hx
   have hx' : (l[i].toNat : Int) < 128:=hx
   go_ret
   exact ⟨Kak (by rw [show decide (128 ≤ l[i].toNat) = false by simp;omega];rfl),rfl⟩
 ·have hm : moreB l i = false:=by unfold moreB;rw [List.getElem?_eq_none (by omega)]
  rw [hm]
  go_enter Tryz.func186,Tryz.ntmps186
  go_wp2
  go_ret
  exact ⟨rfl,rfl⟩
theorem more_int (l : List UInt8) (n : Int) (w : World) (h0 : 0 ≤ n) (hi : n ≤ 140737488355400) (hl : l.length ≤ 140737488355328) : Calls Tryz.prog 186 #[.string (strB l),.int .i64 n] w fun e w'=>e = .returned (.bool (moreB l n.toNat)) ∧ w = w':=by
 obtain ⟨i,rfl⟩ : ∃ i : Nat,n = (i : Int):=⟨n.toNat,by omega⟩
 exact more_any l i w (by omega) hl
theorem runeAt_any (l : List UInt8) (i : Nat) (w : World) (hi : i < l.length) (hl : l.length ≤ 140737488355328) : Calls Tryz.prog 137 #[.string (strB l),.int .i64 (i : Int)] w fun e w'=>e = .returned (.int .i64 (runeL l i : Int)) ∧ w = w':=by
 have hsz : (strB l).size = l.length:=rfl
 have z1 : (l.length : Int) ≤ 140737488355328:=by omega
 have t1 : ((i : Int) + 1).toNat = i + 1:=by omega
 have t2 : ((i : Int) + 2).toNat = i + 2:=by omega
 have t3 : ((i : Int) + 3).toNat = i + 3:=by omega
 have hb : byteN l i = ((strB l)[i]'hi).toNat:=by unfold byteN;rw [List.getElem?_eq_getElem hi];rfl
 cases hm1 : moreB l (i + 1) with
 | false =>
   go_enter Tryz.func137,Tryz.ntmps137
   go_wp2_with (go_at_call 186
                (
                  refine (more_int _ _ _ (by omega) (by omega) hl).mono ?_
                  rintro e w' ⟨rfl,rfl⟩
                  simp only [t1,t2,t3,hm1]))
   all_goals
    go_ret
    refine ⟨Kcr ?_,rfl⟩
    unfold runeL
    rw [hm1,hb]
    generalize ((strB l)[i]'hi).toNat = c at *
    (repeat' split) <;> first | rfl | omega | (simp only [Bool.and_eq_true,decide_eq_true_eq,Bool.false_eq_true,and_false,false_and,not_false_eq_true,not_true_eq_false] at * <;> omega)
 | true =>
   have hi1 : i + 1 < l.length:=by
    unfold moreB at hm1
    split at hm1
    ·rename_i x hx
     exact (List.getElem?_eq_some_iff.1 hx).1
    ·cases hm1
   have hi1' : (i : Int) + 1 < l.length:=by omega
   have hb1 : byteN l (i + 1) = ((strB l)[i + 1]'hi1).toNat:=by unfold byteN;rw [List.getElem?_eq_getElem hi1];rfl
   cases hm2 : moreB l (i + 2) <;> cases hm3 : moreB l (i + 3)
   all_goals
    go_enter Tryz.func137,Tryz.ntmps137
    go_wp2_with (go_at_call 186
                 (
                   refine (more_int _ _ _ (by omega) (by omega) hl).mono ?_
                   rintro e w' ⟨rfl,rfl⟩
                   simp only [t1,t2,t3,hm1,hm2,hm3]))
    all_goals
     go_ret
     refine ⟨Kcr ?_,rfl⟩
     unfold runeL
     rw [hm1,hm2,hb,hb1]
     try rw [hm3]
     generalize ((strB l)[i]'hi).toNat = c at *
     generalize ((strB l)[i + 1]'hi1).toNat = d at *
     (repeat' split) <;> first | rfl | omega | (simp only [Bool.and_eq_true,Bool.or_eq_true,beq_iff_eq,decide_eq_true_eq,Bool.false_eq_true,and_false,false_and,and_true,true_and,not_false_eq_true,not_true_eq_false] at * <;> omega)
theorem runeL_le (l : List UInt8) (i : Nat) : runeL l i ≤ 4:=by
 unfold runeL
 (repeat' split) <;> omega
theorem valid_step (l : List UInt8) (i : Nat) (h : i < l.length) : Lib.validD (l.drop i) = if runeL l i = 0 then false else Lib.validD (l.drop (i + runeL l i)):=by
 have h1:=utfFrom_valid l (l.length - i) i (Nat.le_refl _)
 obtain ⟨f,hf⟩ : ∃ f,l.length - i = f + 1:=⟨l.length - i - 1,by omega⟩
 rw [hf] at h1
 rw [← h1]
 unfold utfFrom
 have h' : ¬ l.length ≤ i:=by omega
 by_cases h0 : runeL l i = 0
 ·simp [h',h0]
 ·have h2:=utfFrom_valid l f (i + runeL l i) (by omega)
  simp [h',h0,h2]
theorem valid_end (l : List UInt8) (i : Nat) (h : l.length ≤ i) : Lib.validD (l.drop i) = true:=by
 rw [List.drop_eq_nil_of_le h];rfl
theorem utfR_any (l : List UInt8) (w : World) (hl : l.length ≤ 140737488355328) : Calls Tryz.prog 95 #[.string (strB l)] w fun e w'=>e = .returned (.bool (Lib.validD l)) ∧ w = w':=by
 have hsz : (strB l).size = l.length:=rfl
 have z1 : (l.length : Int) ≤ 140737488355328:=by omega
 have HL:=yh hl
 go_enter Tryz.func95,Tryz.ntmps95
 go_wp2
 go_loopw [3] (fun i W=>∃ j : Nat,j ≤ l.length + 4 ∧ i = .int .i64 (j : Int) ∧ Hid (Lib.validD l = Lib.validD (l.drop j)) ∧ w = W) (fun i _=>l.length - (intOf i).toNat)
 case atStart=>exact ⟨0,by omega,rfl,yh rfl,rfl⟩
 case round =>
  obtain ⟨j,hj,rfl,HQ,rfl⟩:=hrel
  have zj : (j : Int) ≤ 140737488355332:=by omega
  by_cases hlt : j < l.length
  ·have hst:=valid_step l j hlt
   have hrl:=runeL_le l j
   have HC:=yh (runeAt_any l j w hlt HL.out)
   by_cases h0 : runeL l j = 0
   ·rw [if_pos h0] at hst
    rw [h0] at HC
    have HS:=yh hst
    clear hst h0 hrl
    go_wp2_with (go_at_call 137;refine HC.out.mono ?_;rintro e w' ⟨rfl,rfl⟩)
    go_ret
    exact ⟨Kak (by rw [HQ.out,HS.out]),rfl⟩
   ·rw [if_neg h0] at hst
    generalize runeL l j = r at *
    have HS:=yh (HQ.out.trans hst)
    have hr0 : ¬ (r : Int) = 0:=by omega
    have hr1 : ((r : Int) == 0) = false:=by rw [beq_eq_false_iff_ne];omega
    have zr : (r : Int) ≤ 4:=by omega
    clear hst HQ
    go_wp2_with (go_at_call 137;refine HC.out.mono ?_;rintro e w' ⟨rfl,rfl⟩)
    go_roundw
    case rel=>exact ⟨j + r,by omega,by go_num,HS,trivial⟩
    case measure=>simp [intOf];omega
  ·have he:=valid_end l j (by omega)
   go_wp2
   go_ret
   exact ⟨Kak (by rw [HQ.out,he]),rfl⟩
theorem contains_snoc0 (l : List UInt8) (x : UInt8) : (l ++ [x]).contains 0 = (l.contains 0 || decide (x = 0)):=by
 by_cases h1 : (0 : UInt8) ∈ l
 ·simp [h1]
 ·by_cases h2 : x = 0
  ·simp [h1,h2]
  ·have h3 : ¬ (0 : UInt8) = x:=fun e=>h2 e.symm
   simp [h1,h2,h3]
theorem okNm_zero {s : List UInt8} (h : s.contains 0 = true) : okNm s = false:=by unfold okNm;rw [h];simp
theorem okNm_not {s : List UInt8} (h : s.contains 0 = false) : okNm s = (decide (1 ≤ s.length) && decide (s.length ≤ 64) && Lib.validD s):=by
 unfold okNm
 rw [h]
 cases s with
 | nil=>rfl
 | cons a r=>simp
theorem refname_any {w : World} (s : List UInt8) (hl : s.length ≤ 140737488355328) : Calls Tryz.prog 35 #[.string (strB s)] w fun e w'=>e = .returned (.bool (okNm s)) ∧ w = w':=by
 have hsz : (strB s).size = s.length:=rfl
 have z1 : (s.length : Int) ≤ 140737488355328:=by omega
 have HU:=yh (fun W=>utfR_any s W hl)
 go_enter Tryz.func35,Tryz.ntmps35
 go_wp2
 go_loopw [3] (fun i W=>∃ j : Nat,j ≤ s.length ∧ i = .int .i64 (j : Int) ∧ Hid ((s.take j).contains 0 = false) ∧ w = W) (fun i _=>s.length - (intOf i).toNat)
 case atStart=>exact ⟨0,Nat.zero_le _,rfl,yh (by simp),rfl⟩
 case round =>
  obtain ⟨j,hj,rfl,HQ,rfl⟩:=hrel
  by_cases hlt : j < s.length
  ·have hst : (s.take (j + 1)).contains 0 = ((s.take j).contains 0 || decide (s[j] = 0)):=by rw [List.take_succ_eq_append_getElem hlt,contains_snoc0]
   have hall : s[j] = 0 → s.contains 0 = true:=fun e=>by
    have:=List.getElem_mem hlt
    rw [e] at this
    simpa using this
   have hz : s[j] = 0 ↔ ((strB s)[j]'hlt).toNat = 0:=by
    rw [show (strB s)[j]'hlt = s[j] from rfl]
    constructor
    ·intro e;rw [e];rfl
    ·intro e;exact UInt8.toNat_inj.1 e
   generalize s[j] = x at *
   by_cases h0 : x = 0
   ·have HF:=yh (okNm_zero (hall h0))
    have hz0:=hz.1 h0
    clear hst hall hz HU
    go_wp2
    go_ret
    exact ⟨Kak HF.out.symm,rfl⟩
   ·have HN:=yh (show (s.take (j + 1)).contains 0 = false by rw [hst,HQ.out];simpa using h0)
    have hz0 : ¬ ((strB s)[j]'hlt).toNat = 0:=fun e=>h0 (hz.2 e)
    clear hst hall hz HU
    go_wp2
    go_roundw
    case rel=>exact ⟨j + 1,by omega,by go_num,HN,trivial⟩
    case measure=>simp [intOf];omega
  ·obtain rfl : j = s.length:=by omega
   have hok:=HQ.out
   rw [List.take_length] at hok
   have hk:=okNm_not hok
   clear HQ hok
   by_cases h1 : 1 ≤ s.length
   ·by_cases h2 : s.length ≤ 64
    ·have HK:=yh (show okNm s = Lib.validD s by rw [hk];simp [h1,h2])
     have g1 : (1 : Int) ≤ (s.length : Int):=by omega
     have g2 : (s.length : Int) ≤ 64:=by omega
     clear hk
     go_wp2_with (go_at_call 95;refine (HU.out _).mono ?_;rintro e w1 ⟨rfl,rfl⟩)
     go_ret
     exact ⟨Kak HK.out.symm,rfl⟩
    ·have HK:=yh (show okNm s = false by rw [hk];simp [h2])
     have g2 : ¬ (s.length : Int) ≤ 64:=by omega
     clear hk HU
     go_wp2
     go_ret
     exact ⟨Kak HK.out.symm,rfl⟩
   ·have HK:=yh (show okNm s = false by rw [hk];simp [h1])
    have g1 : ¬ (1 : Int) ≤ (s.length : Int):=by omega
    clear hk HU
    go_wp2
    go_ret
    exact ⟨Kak HK.out.symm,rfl⟩
theorem isE {α : Type} (l : List α) : l.isEmpty = ((l.length : Int) == 0):=by cases l <;> simp <;> omega
theorem bareR_any {v : V} {w : World} {x : Array Value} (hx : VRd w v x) : Calls Tryz.prog 185 #[.agg x] w fun e w'=>e = .returned (.bool (bareV v)) ∧ Below w.heap.size w w':=by
 have hT:=OneB.start w x
 cases v with
 | mk k b n t ks l =>
   obtain ⟨pk,ck,pl,cl,rfl,htx,hk1,hl1⟩:=Kbz.1 hx
   have zt : (strB t).size = t.length:=rfl
   have z1 : (ks.length : Int) ≤ 140737488355328:=by have:=hk1.1;have:=hk1.2.1;omega
   have z2 : (l.length : Int) ≤ 140737488355328:=by have:=hl1.1.2.1;omega
   have hb : bareV (.mk k b n t ks l) = ((k == 1 || !b) && (k == 2 || k == 6 || k == 7 || n == 0) && (k == 3 || t.isEmpty) && (k == 5 || ks.isEmpty) && (k == 4 || k == 5 || l.isEmpty)):=rfl
   rw [hb]
   have HT:=yh hT
   clear hx hk1 hl1 hT hb htx
   go_enter Tryz.func185,Tryz.ntmps185
   go_wp2
   all_goals
    go_ret
    refine ⟨Kak ?_,Kai _⟩
    try rw [isE ks]
    try rw [isE l]
    simp_all [Kaw]
def headV (u : List UInt8 → Bool) (v : V) : Bool :=
 decide (0 ≤ v.kind) && decide (v.kind ≤ 7) && bareV v && (!(v.kind == 6 || v.kind == 7) || decide (0 ≤ v.n)) && u v.text && (!(v.kind == 5) || v.keys.length == v.list.length)
theorem oneV_head (u : List UInt8 → Bool) (v : V) : oneV u v = (headV u v && v.keys.all u && Kat v.keys):=rfl
theorem mayV_head (u : List UInt8 → Bool) (k : Int) (b : Bool) (n : Int) (t : List UInt8) (ks : List (List UInt8)) (l : List V) : mayV u (.mk k b n t ks l) = (headV u (.mk k b n t ks l) && ks.all u && Kat ks && mayVs u l):=by
 rw [mayV,oneV_head];rfl
theorem mayVs_all (u : List UInt8 → Bool) (l : List V) : mayVs u l = l.all (mayV u):=by
 induction l with
 | nil=>rfl
 | cons a r ih=>rw [mayVs,ih];rfl
def KeysOk (l : List (List UInt8)) : Prop:=l.all Lib.validD = true ∧ Kat l = true
structure MayNo (l : List V) : Prop where
 no : l.all (mayV Lib.validD) = false
def ValsOk (l : List V) : Prop:=l.all (mayV Lib.validD) = true
structure KeyU (w : World) (X : Array Value) (bk o1 o2 : Nat) (s1 s2 : List UInt8) (W : World) : Prop where
 box : OneB w W X
 one : W.cell? ⟨bk,o1,none⟩ = some (.string (strB s1))
 two : W.cell? ⟨bk,o2,none⟩ = some (.string (strB s2))
theorem geq_str (s1 s2 : List UInt8) (W : World) : (binOp .geq 9 (.string (strB s1)) (.string (strB s2))).run Tryz.prog W = .ok (.bool (!(ltB s1 s2))) W:=by
 simp [go_sem,Kaw,less_eq]
theorem mayR_any : ∀ (v : V) (w : World) (x : Array Value),VRd w v x → Calls Tryz.prog 133 #[.agg x] w fun e w'=>e = .returned (.bool (mayV Lib.validD v)) ∧ Below w.heap.size w w':=by
 refine V.ind fun k b n t ks l ih=>?_
 intro w x hx
 have HBR:=yh (fun (W : World) (hb : Below w.heap.size w W)=>bareR_any (hx.below hb))
 rw [mayV_head,mayVs_all]
 have hT:=OneB.start w x
 obtain ⟨pk,ck,pl,cl,rfl,htx,hk1,hl1⟩:=Kbz.1 hx
 have z1 : (ks.length : Int) ≤ 140737488355328:=by have:=hk1.1;have:=hk1.2.1;omega
 have z2 : (l.length : Int) ≤ 140737488355328:=by have:=hl1.1.2.1;omega
 have hh : headV Lib.validD (.mk k b n t ks l) = (decide (0 ≤ k) && decide (k ≤ 7) && bareV (.mk k b n t ks l) && (!(k == 6 || k == 7) || decide (0 ≤ n)) && Lib.validD t && (!(k == 5) || ks.length == l.length)):=rfl
 have HU:=yh (fun (W : World)=>utfR_any t W htx)
 have HK:=yh (And.intro hk1 (And.intro hl1 ih))
 have HT:=yh hT
 have px0:=Kag (o:=0) hT.1 rfl;have px1:=Kag (o:=1) hT.1 rfl;have px2:=Kag (o:=2) hT.1 rfl;have px3:=Kag (o:=3) hT.1 rfl;have px4:=Kag (o:=4) hT.1 rfl;have px5:=Kag (o:=5) hT.1 rfl
 clear ih hx hk1 hl1 hT htx px0 px1 px2 px3 px4 px5
 generalize bareV (.mk k b n t ks l) = B at *
 generalize Lib.validD t = U at *
 cases hc : headV Lib.validD (.mk k b n t ks l) with
 | false =>
   rw [hc] at hh
   have hh2 : B = true → U = true → (k < 0 ∨ 7 < k ∨ ((k = 6 ∨ k = 7) ∧ n < 0) ∨ (k = 5 ∧ (ks.length : Int) ≠ l.length)):=by
    rintro rfl rfl
    by_cases h : k < 0 ∨ 7 < k ∨ ((k = 6 ∨ k = 7) ∧ n < 0) ∨ (k = 5 ∧ (ks.length : Int) ≠ l.length)
    ·exact h
    ·have : (decide (0 ≤ k) && decide (k ≤ 7) && true && (!(k == 6 || k == 7) || decide (0 ≤ n)) && true && (!(k == 5) || ks.length == l.length)) = true:=by
      simp only [Bool.and_eq_true,decide_eq_true_eq,Bool.or_eq_true,Bool.not_eq_true',Bool.or_eq_false_iff,beq_eq_false_iff_ne,beq_iff_eq]
      exact ⟨⟨⟨⟨⟨by omega,by omega⟩,trivial⟩,by omega⟩,trivial⟩,by omega⟩
     rw [this] at hh
     cases hh
   have HH:=yh hh2
   clear hh hc hh2
   by_cases hlen : (ks.length : Int) = l.length
   all_goals cases B
   all_goals cases U
   all_goals
    go_enter Tryz.func133,Tryz.ntmps133
    go_wp2_with (first
     | (go_at_call 185
        (
          refine (HBR.out _ HT.out.2).mono ?_
          rintro e w1 ⟨rfl,hb⟩
          have hT1:=HT.out.below hb
          have px0:=Kag (o:=0) hT1.1 rfl;have px1:=Kag (o:=1) hT1.1 rfl;have px2:=Kag (o:=2) hT1.1 rfl;have px3:=Kag (o:=3) hT1.1 rfl;have px4:=Kag (o:=4) hT1.1 rfl;have px5:=Kag (o:=5) hT1.1 rfl
          have HT:=yh hT1
          clear hT1 hb))
     | (go_at_call 95;refine (HU.out _).mono ?_;rintro e w' ⟨rfl,rfl⟩))
    all_goals first
     | (go_ret;exact ⟨rfl,HT.out.2⟩)
     | (exfalso;have h:=HH.out (by trivial) (by trivial);omega)
 | true =>
   rw [hc] at hh
   have h1:=hh.symm
   simp only [Bool.and_eq_true,decide_eq_true_eq,Bool.or_eq_true,Bool.not_eq_true',Bool.or_eq_false_iff,beq_eq_false_iff_ne,beq_iff_eq] at h1
   obtain ⟨⟨⟨⟨⟨k0,k7⟩,rfl⟩,h67⟩,rfl⟩,h5⟩:=h1
   clear hh hc
   have hcs : (k = 5 ∧ (ks.length : Int) = l.length) ∨ (k = 6 ∧ 0 ≤ n) ∨ (k = 7 ∧ 0 ≤ n) ∨ (0 ≤ k ∧ k ≤ 4):=by omega
   have g0 : ¬ k < 0:=by omega
   have g7 : ¬ 7 < k:=by omega
   have hfacts : ((k == 5) = true ∧ (k == 6) = false ∧ (k == 7) = false ∧ ((ks.length : Int) != (l.length : Int)) = false) ∨ ((k == 5) = false ∧ (k == 6) = true ∧ (k == 7) = false ∧ ¬ n < 0) ∨ ((k == 5) = false ∧ (k == 6) = false ∧ (k == 7) = true ∧ ¬ n < 0) ∨ ((k == 5) = false ∧ (k == 6) = false ∧ (k == 7) = false ∧ (0 : Int) ≤ 0):=by
    simp only [beq_iff_eq,beq_eq_false_iff_ne,bne_eq_false_iff_eq]
    omega
   clear h67 h5 k0 k7 hcs
   rcases hfacts with ⟨d5,d6,d7,d8⟩ | ⟨d5,d6,d7,d8⟩ | ⟨d5,d6,d7,d8⟩ | ⟨d5,d6,d7,d8⟩
   all_goals
    go_enter Tryz.func133,Tryz.ntmps133
    go_wp2_with (first
     | (go_at_call 185
        (
          refine (HBR.out _ HT.out.2).mono ?_
          rintro e w1 ⟨rfl,hb⟩
          have hT1:=HT.out.below hb
          have px0:=Kag (o:=0) hT1.1 rfl;have px1:=Kag (o:=1) hT1.1 rfl;have px2:=Kag (o:=2) hT1.1 rfl;have px3:=Kag (o:=3) hT1.1 rfl;have px4:=Kag (o:=4) hT1.1 rfl;have px5:=Kag (o:=5) hT1.1 rfl
          have HT:=yh hT1
          clear hT1 hb))
     | (go_at_call 95;refine (HU.out _).mono ?_;rintro e w' ⟨rfl,rfl⟩))
    clear d5 d6 d7 d8 g0 g7 px0 px1 px2 px3 px4 px5
    have HT0:=HT
    go_loopw [3] (fun i W=>∃ j : Nat,j ≤ ks.length ∧ i = .int .i64 (j : Int) ∧ Hid (KeysOk (ks.take j)) ∧ Hid (OneB w W #[.int .i64 k,.bool b,.int .i64 n,.string (strB t),.slice pk ks.length ck,.slice pl l.length cl])) (fun i _=>ks.length - (intOf i).toNat)
    case atStart=>exact ⟨0,Nat.zero_le _,rfl,yh ⟨rfl,rfl⟩,HT0⟩
    case round =>
     clear HT HT0
     obtain ⟨j,hj,rfl,HQ,HT⟩:=hrel
     have hT1:=HT.out
     have px0:=Kag (o:=0) hT1.1 rfl;have px1:=Kag (o:=1) hT1.1 rfl;have px2:=Kag (o:=2) hT1.1 rfl;have px3:=Kag (o:=3) hT1.1 rfl;have px4:=Kag (o:=4) hT1.1 rfl;have px5:=Kag (o:=5) hT1.1 rfl
     by_cases hlt : j < ks.length
     ·have hlt1 : j + 1 ≤ ks.length:=hlt
      obtain ⟨bk,ok,rfl,q0,ql⟩:=(HK.out.1.below hT1.2).get hlt
      have hcu:=fun (W : World)=>utfR_any ks[j] W ql
      have htk : ks.take (j + 1) = ks.take j ++ [ks[j]]:=List.take_succ_eq_append_getElem hlt
      have hall : (ks.take (j + 1)).all Lib.validD = Lib.validD ks[j]:=by rw [htk,List.all_append,HQ.out.1];simp
      have hno : Lib.validD ks[j] = false → ks.all Lib.validD = false:=fun h=>List.all_eq_false.2 ⟨ks[j],List.getElem_mem hlt,by rw [h];simp⟩
      clear hT1 ql
      go_wp2
      cases hv : Lib.validD ks[j] with
      | false =>
        simp only [hv] at hcu
        have hU : KeyU w #[.int .i64 k,.bool b,.int .i64 n,.string (strB t),.slice (some ⟨bk,ok,none⟩) ks.length ck,.slice pl l.length cl] bk (ok + j) (ok + j) ks[j] ks[j] wr.drew:=⟨HT.out.below (Below.refl _ _).drew,q0,q0⟩
        refine Kah (fun W=>KeyU w #[.int .i64 k,.bool b,.int .i64 n,.string (strB t),.slice (some ⟨bk,ok,none⟩) ks.length ck,.slice pl l.length cl] bk (ok + j) (ok + j) ks[j] ks[j] W) (by kernel_rfl) hU (fun hU=>?_)
        refine tk 0 60 (v:=.pointer (some ⟨w.heap.size,4,none⟩)) rfl rfl (fun W hW=>Kac rfl rfl (Ka5 _ _ (by decide) W)) ?_
        simp only [Act.put,sA,sZ,sS]
        refine tk 1 61 (v:=.slice (some ⟨bk,ok,none⟩) ks.length ck) rfl rfl (fun W hW=>Kad rfl rfl (Kaf (w:=W) Tryz.underlying26 rfl (Kag hW.box.1 rfl))) ?_
        simp only [Act.put,sA,sZ,sS]
        refine tk 2 62 (v:=.int .i64 (j : Int)) rfl rfl (fun W hW=>Kab rfl rfl) ?_
        simp only [Act.put,sA,sZ,sS]
        refine tk 3 63 (v:=.pointer (some ⟨bk,ok + j,none⟩)) rfl rfl (fun W hW=>Kaj rfl rfl rfl (ia_keys _ _ _ _ _ hlt W)) ?_
        simp only [Act.put,sA,sZ,sS]
        refine tk 4 64 (v:=.string (strB ks[j])) rfl rfl (fun W hW=>Kad rfl rfl (Kaf (w:=W) Tryz.underlying9 rfl hW.two)) ?_
        simp only [Act.put,sA,sZ,sS]
        refine Kao 5 65 rfl rfl (by kernel_rfl) rfl (Kan [.string (strB ks[j])] rfl rfl Tryz.func95 (by kernel_rfl) (by kernel_rfl)) ?_
        refine (hcu _).mono ?_
        rintro e w' ⟨rfl,rfl⟩
        refine ⟨_,rfl,.inr (by assumption),?_⟩
        simp only [Act.put,sA,sZ,sS]
        refine tk 6 66 (v:=.bool true) rfl rfl (fun W hW=>Kap (b:=false) rfl rfl) ?_
        simp only [Act.put,sA,sZ,sS]
        refine tk 7 67 (v:=.bool true) rfl rfl (fun W hW=>Kab rfl rfl) ?_
        simp only [Act.put,sA,sZ,sS]
        refine tn 8 68 rfl rfl ?_
        simp only [Act.put,sA,sZ,sS]
        refine tn 9 69 rfl rfl ?_
        simp only [Act.put,sA,sZ,sS]
        refine tn 10 70 rfl rfl ?_
        simp only [Act.put,sA,sZ,sS]
        refine tn 11 71 rfl rfl ?_
        simp only [Act.put,sA,sZ,sS]
        refine tn 12 72 rfl rfl ?_
        simp only [Act.put,sA,sZ,sS]
        refine tn 13 73 rfl rfl ?_
        simp only [Act.put,sA,sZ,sS]
        refine tn 14 74 rfl rfl ?_
        simp only [Act.put,sA,sZ,sS]
        refine tn 15 75 rfl rfl ?_
        simp only [Act.put,sA,sZ,sS]
        refine tn 16 76 rfl rfl ?_
        simp only [Act.put,sA,sZ,sS]
        refine tn 17 77 rfl rfl ?_
        simp only [Act.put,sA,sZ,sS]
        refine tn 18 78 rfl rfl ?_
        simp only [Act.put,sA,sZ,sS]
        refine tn 19 79 rfl rfl ?_
        simp only [Act.put,sA,sZ,sS]
        refine tn 20 80 rfl rfl ?_
        simp only [Act.put,sA,sZ,sS]
        refine tn 21 81 rfl rfl ?_
        simp only [Act.put,sA,sZ,sS]
        refine tn 22 82 rfl rfl ?_
        simp only [Act.put,sA,sZ,sS]
        refine tn 23 83 rfl rfl ?_
        simp only [Act.put,sA,sZ,sS]
        refine tk 24 84 (v:=.bool true) rfl rfl (fun W hW=>rfl) ?_
        simp only [Act.put,sA,sZ,sS]
        refine done (by kernel_rfl) ?_ _
        go_wp2
        go_ret
        exact ⟨Kak (by rw [hno hv];simp),hU.box.2⟩
      | true =>
        simp only [hv] at hcu
        rw [hv] at hall
        by_cases hj0 : j = 0
        ·have hgt : ∀ W : World,(binOp .gtr 3 (.int .i64 (j : Int)) (.int .i64 0)).run Tryz.prog W = .ok (.bool false) W:=by
          intro W;simp [go_sem,hj0]
         have hU : KeyU w #[.int .i64 k,.bool b,.int .i64 n,.string (strB t),.slice (some ⟨bk,ok,none⟩) ks.length ck,.slice pl l.length cl] bk (ok + j) (ok + j) ks[j] ks[j] wr.drew:=⟨HT.out.below (Below.refl _ _).drew,q0,q0⟩
         refine Kah (fun W=>KeyU w #[.int .i64 k,.bool b,.int .i64 n,.string (strB t),.slice (some ⟨bk,ok,none⟩) ks.length ck,.slice pl l.length cl] bk (ok + j) (ok + j) ks[j] ks[j] W) (by kernel_rfl) hU (fun hU=>?_)
         refine tk 0 60 (v:=.pointer (some ⟨w.heap.size,4,none⟩)) rfl rfl (fun W hW=>Kac rfl rfl (Ka5 _ _ (by decide) W)) ?_
         simp only [Act.put,sA,sZ,sS]
         refine tk 1 61 (v:=.slice (some ⟨bk,ok,none⟩) ks.length ck) rfl rfl (fun W hW=>Kad rfl rfl (Kaf (w:=W) Tryz.underlying26 rfl (Kag hW.box.1 rfl))) ?_
         simp only [Act.put,sA,sZ,sS]
         refine tk 2 62 (v:=.int .i64 (j : Int)) rfl rfl (fun W hW=>Kab rfl rfl) ?_
         simp only [Act.put,sA,sZ,sS]
         refine tk 3 63 (v:=.pointer (some ⟨bk,ok + j,none⟩)) rfl rfl (fun W hW=>Kaj rfl rfl rfl (ia_keys _ _ _ _ _ hlt W)) ?_
         simp only [Act.put,sA,sZ,sS]
         refine tk 4 64 (v:=.string (strB ks[j])) rfl rfl (fun W hW=>Kad rfl rfl (Kaf (w:=W) Tryz.underlying9 rfl hW.two)) ?_
         simp only [Act.put,sA,sZ,sS]
         refine Kao 5 65 rfl rfl (by kernel_rfl) rfl (Kan [.string (strB ks[j])] rfl rfl Tryz.func95 (by kernel_rfl) (by kernel_rfl)) ?_
         refine (hcu _).mono ?_
         rintro e w' ⟨rfl,rfl⟩
         refine ⟨_,rfl,.inr (by assumption),?_⟩
         simp only [Act.put,sA,sZ,sS]
         refine tk 6 66 (v:=.bool false) rfl rfl (fun W hW=>Kap (b:=true) rfl rfl) ?_
         simp only [Act.put,sA,sZ,sS]
         refine tk 7 67 (v:=.bool false) rfl rfl (fun W hW=>Kab rfl rfl) ?_
         simp only [Act.put,sA,sZ,sS]
         refine tk 8 68 (v:=.int .i64 (j : Int)) rfl rfl (fun W hW=>Kab rfl rfl) ?_
         simp only [Act.put,sA,sZ,sS]
         refine tk 9 69 (v:=.bool false) rfl rfl (fun W hW=>Kam rfl rfl rfl (hgt W)) ?_
         simp only [Act.put,sA,sZ,sS]
         refine tk 10 70 (v:=.bool false) rfl rfl (fun W hW=>Kab rfl rfl) ?_
         simp only [Act.put,sA,sZ,sS]
         refine tn 11 71 rfl rfl ?_
         simp only [Act.put,sA,sZ,sS]
         refine tn 12 72 rfl rfl ?_
         simp only [Act.put,sA,sZ,sS]
         refine tn 13 73 rfl rfl ?_
         simp only [Act.put,sA,sZ,sS]
         refine tn 14 74 rfl rfl ?_
         simp only [Act.put,sA,sZ,sS]
         refine tn 15 75 rfl rfl ?_
         simp only [Act.put,sA,sZ,sS]
         refine tn 16 76 rfl rfl ?_
         simp only [Act.put,sA,sZ,sS]
         refine tn 17 77 rfl rfl ?_
         simp only [Act.put,sA,sZ,sS]
         refine tn 18 78 rfl rfl ?_
         simp only [Act.put,sA,sZ,sS]
         refine tn 19 79 rfl rfl ?_
         simp only [Act.put,sA,sZ,sS]
         refine tn 20 80 rfl rfl ?_
         simp only [Act.put,sA,sZ,sS]
         refine tn 21 81 rfl rfl ?_
         simp only [Act.put,sA,sZ,sS]
         refine tn 22 82 rfl rfl ?_
         simp only [Act.put,sA,sZ,sS]
         refine tk 23 83 (v:=.bool false) rfl rfl (fun W hW=>rfl) ?_
         simp only [Act.put,sA,sZ,sS]
         refine tk 24 84 (v:=.bool false) rfl rfl (fun W hW=>rfl) ?_
         simp only [Act.put,sA,sZ,sS]
         refine done (by kernel_rfl) ?_ _
         have hr : Kat (ks.take (j + 1)) = true:=by
          have e : ks.take j = []:=by rw [hj0];rfl
          rw [htk,e];rfl
         have HN:=yh (show KeysOk (ks.take (j + 1)) from And.intro hall hr)
         have HT0:=yh hU.box
         have px4:=Kag (o:=4) hU.box.1 rfl
         clear hU hcu htk hall hno hr q0 HQ
         go_wp2
         go_roundw
         case rel=>exact ⟨j + 1,hlt1,by go_num,HN,HT0⟩
         case measure=>simp [intOf];omega
        ·obtain ⟨m,hm⟩ : ∃ m,j = m + 1:=⟨j - 1,by omega⟩
         have hmn : m < ks.length:=by omega
         obtain ⟨bk',ok',hp',q1,_⟩:=(HK.out.1.below HT.out.2).get hmn
         cases hp'
         have hgt : ∀ W : World,(binOp .gtr 3 (.int .i64 (j : Int)) (.int .i64 0)).run Tryz.prog W = .ok (.bool true) W:=by
          intro W;simp [go_sem];omega
         have hsub : ∀ W : World,(binOp .sub 3 (.int .i64 (j : Int)) (.int .i64 1)).run Tryz.prog W = .ok (.int .i64 (m : Int)) W:=by
          intro W
          have e : IntKind.i64.wrap ((j : Int) - 1) = m:=by simp [IntKind.wrap,IntKind.signed,IntKind.bits];omega
          simp [go_sem,e]
         have hU : KeyU w #[.int .i64 k,.bool b,.int .i64 n,.string (strB t),.slice (some ⟨bk,ok,none⟩) ks.length ck,.slice pl l.length cl] bk (ok + m) (ok + j) ks[m] ks[j] wr.drew:=⟨HT.out.below (Below.refl _ _).drew,q1,q0⟩
         have hrs : Kat (ks.take (j + 1)) = (Kat (ks.take j) && ltB ks[m] ks[j]):=by
          have h1:=Kcj (l:=ks) (j:=m) (by omega)
          have e3 : ks[m + 1]'(by omega) = ks[j]:=by simp only [hm]
          rw [show ks.take (j + 1) = ks.take (m + 2) by rw [hm],h1,e3,show ks.take (m + 1) = ks.take j by rw [hm]]
         cases hlb : ltB ks[m] ks[j] with
         | false =>
           have hge : ∀ W : World,(binOp .geq 9 (.string (strB ks[m])) (.string (strB ks[j]))).run Tryz.prog W = .ok (.bool true) W:=fun W=>by rw [geq_str,hlb];rfl
           refine Kah (fun W=>KeyU w #[.int .i64 k,.bool b,.int .i64 n,.string (strB t),.slice (some ⟨bk,ok,none⟩) ks.length ck,.slice pl l.length cl] bk (ok + m) (ok + j) ks[m] ks[j] W) (by kernel_rfl) hU (fun hU=>?_)
           refine tk 0 60 (v:=.pointer (some ⟨w.heap.size,4,none⟩)) rfl rfl (fun W hW=>Kac rfl rfl (Ka5 _ _ (by decide) W)) ?_
           simp only [Act.put,sA,sZ,sS]
           refine tk 1 61 (v:=.slice (some ⟨bk,ok,none⟩) ks.length ck) rfl rfl (fun W hW=>Kad rfl rfl (Kaf (w:=W) Tryz.underlying26 rfl (Kag hW.box.1 rfl))) ?_
           simp only [Act.put,sA,sZ,sS]
           refine tk 2 62 (v:=.int .i64 (j : Int)) rfl rfl (fun W hW=>Kab rfl rfl) ?_
           simp only [Act.put,sA,sZ,sS]
           refine tk 3 63 (v:=.pointer (some ⟨bk,ok + j,none⟩)) rfl rfl (fun W hW=>Kaj rfl rfl rfl (ia_keys _ _ _ _ _ hlt W)) ?_
           simp only [Act.put,sA,sZ,sS]
           refine tk 4 64 (v:=.string (strB ks[j])) rfl rfl (fun W hW=>Kad rfl rfl (Kaf (w:=W) Tryz.underlying9 rfl hW.two)) ?_
           simp only [Act.put,sA,sZ,sS]
           refine Kao 5 65 rfl rfl (by kernel_rfl) rfl (Kan [.string (strB ks[j])] rfl rfl Tryz.func95 (by kernel_rfl) (by kernel_rfl)) ?_
           refine (hcu _).mono ?_
           rintro e w' ⟨rfl,rfl⟩
           refine ⟨_,rfl,.inr (by assumption),?_⟩
           simp only [Act.put,sA,sZ,sS]
           refine tk 6 66 (v:=.bool false) rfl rfl (fun W hW=>Kap (b:=true) rfl rfl) ?_
           simp only [Act.put,sA,sZ,sS]
           refine tk 7 67 (v:=.bool false) rfl rfl (fun W hW=>Kab rfl rfl) ?_
           simp only [Act.put,sA,sZ,sS]
           refine tk 8 68 (v:=.int .i64 (j : Int)) rfl rfl (fun W hW=>Kab rfl rfl) ?_
           simp only [Act.put,sA,sZ,sS]
           refine tk 9 69 (v:=.bool true) rfl rfl (fun W hW=>Kam rfl rfl rfl (hgt W)) ?_
           simp only [Act.put,sA,sZ,sS]
           refine tk 10 70 (v:=.bool true) rfl rfl (fun W hW=>Kab rfl rfl) ?_
           simp only [Act.put,sA,sZ,sS]
           refine tk 11 71 (v:=.pointer (some ⟨w.heap.size,4,none⟩)) rfl rfl (fun W hW=>Kac rfl rfl (Ka5 _ _ (by decide) W)) ?_
           simp only [Act.put,sA,sZ,sS]
           refine tk 12 72 (v:=.slice (some ⟨bk,ok,none⟩) ks.length ck) rfl rfl (fun W hW=>Kad rfl rfl (Kaf (w:=W) Tryz.underlying26 rfl (Kag hW.box.1 rfl))) ?_
           simp only [Act.put,sA,sZ,sS]
           refine tk 13 73 (v:=.int .i64 (j : Int)) rfl rfl (fun W hW=>Kab rfl rfl) ?_
           simp only [Act.put,sA,sZ,sS]
           refine tk 14 74 (v:=.int .i64 (m : Int)) rfl rfl (fun W hW=>Kam rfl rfl rfl (hsub W)) ?_
           simp only [Act.put,sA,sZ,sS]
           refine tk 15 75 (v:=.pointer (some ⟨bk,ok + m,none⟩)) rfl rfl (fun W hW=>Kaj rfl rfl rfl (ia_keys _ _ _ _ _ hmn W)) ?_
           simp only [Act.put,sA,sZ,sS]
           refine tk 16 76 (v:=.string (strB ks[m])) rfl rfl (fun W hW=>Kad rfl rfl (Kaf (w:=W) Tryz.underlying9 rfl hW.one)) ?_
           simp only [Act.put,sA,sZ,sS]
           refine tk 17 77 (v:=.pointer (some ⟨w.heap.size,4,none⟩)) rfl rfl (fun W hW=>Kac rfl rfl (Ka5 _ _ (by decide) W)) ?_
           simp only [Act.put,sA,sZ,sS]
           refine tk 18 78 (v:=.slice (some ⟨bk,ok,none⟩) ks.length ck) rfl rfl (fun W hW=>Kad rfl rfl (Kaf (w:=W) Tryz.underlying26 rfl (Kag hW.box.1 rfl))) ?_
           simp only [Act.put,sA,sZ,sS]
           refine tk 19 79 (v:=.int .i64 (j : Int)) rfl rfl (fun W hW=>Kab rfl rfl) ?_
           simp only [Act.put,sA,sZ,sS]
           refine tk 20 80 (v:=.pointer (some ⟨bk,ok + j,none⟩)) rfl rfl (fun W hW=>Kaj rfl rfl rfl (ia_keys _ _ _ _ _ hlt W)) ?_
           simp only [Act.put,sA,sZ,sS]
           refine tk 21 81 (v:=.string (strB ks[j])) rfl rfl (fun W hW=>Kad rfl rfl (Kaf (w:=W) Tryz.underlying9 rfl hW.two)) ?_
           simp only [Act.put,sA,sZ,sS]
           refine tk 22 82 (v:=.bool true) rfl rfl (fun W hW=>Kb2 rfl rfl rfl (hge W)) ?_
           simp only [Act.put,sA,sZ,sS]
           refine tk 23 83 (v:=.bool true) rfl rfl (fun W hW=>rfl) ?_
           simp only [Act.put,sA,sZ,sS]
           refine tk 24 84 (v:=.bool true) rfl rfl (fun W hW=>rfl) ?_
           simp only [Act.put,sA,sZ,sS]
           refine done (by kernel_rfl) ?_ _
           have hrf : Kat ks = false:=by
            cases hrb : Kat ks with
            | false=>rfl
            | true =>
              have:=Kdu hrb (j + 1) hlt1
              rw [hrs,hlb] at this
              simp at this
           go_wp2
           go_ret
           exact ⟨Kak (by rw [hrf];simp),hU.box.2⟩
         | true =>
           have hge : ∀ W : World,(binOp .geq 9 (.string (strB ks[m])) (.string (strB ks[j]))).run Tryz.prog W = .ok (.bool false) W:=fun W=>by rw [geq_str,hlb];rfl
           refine Kah (fun W=>KeyU w #[.int .i64 k,.bool b,.int .i64 n,.string (strB t),.slice (some ⟨bk,ok,none⟩) ks.length ck,.slice pl l.length cl] bk (ok + m) (ok + j) ks[m] ks[j] W) (by kernel_rfl) hU (fun hU=>?_)
           refine tk 0 60 (v:=.pointer (some ⟨w.heap.size,4,none⟩)) rfl rfl (fun W hW=>Kac rfl rfl (Ka5 _ _ (by decide) W)) ?_
           simp only [Act.put,sA,sZ,sS]
           refine tk 1 61 (v:=.slice (some ⟨bk,ok,none⟩) ks.length ck) rfl rfl (fun W hW=>Kad rfl rfl (Kaf (w:=W) Tryz.underlying26 rfl (Kag hW.box.1 rfl))) ?_
           simp only [Act.put,sA,sZ,sS]
           refine tk 2 62 (v:=.int .i64 (j : Int)) rfl rfl (fun W hW=>Kab rfl rfl) ?_
           simp only [Act.put,sA,sZ,sS]
           refine tk 3 63 (v:=.pointer (some ⟨bk,ok + j,none⟩)) rfl rfl (fun W hW=>Kaj rfl rfl rfl (ia_keys _ _ _ _ _ hlt W)) ?_
           simp only [Act.put,sA,sZ,sS]
           refine tk 4 64 (v:=.string (strB ks[j])) rfl rfl (fun W hW=>Kad rfl rfl (Kaf (w:=W) Tryz.underlying9 rfl hW.two)) ?_
           simp only [Act.put,sA,sZ,sS]
           refine Kao 5 65 rfl rfl (by kernel_rfl) rfl (Kan [.string (strB ks[j])] rfl rfl Tryz.func95 (by kernel_rfl) (by kernel_rfl)) ?_
           refine (hcu _).mono ?_
           rintro e w' ⟨rfl,rfl⟩
           refine ⟨_,rfl,.inr (by assumption),?_⟩
           simp only [Act.put,sA,sZ,sS]
           refine tk 6 66 (v:=.bool false) rfl rfl (fun W hW=>Kap (b:=true) rfl rfl) ?_
           simp only [Act.put,sA,sZ,sS]
           refine tk 7 67 (v:=.bool false) rfl rfl (fun W hW=>Kab rfl rfl) ?_
           simp only [Act.put,sA,sZ,sS]
           refine tk 8 68 (v:=.int .i64 (j : Int)) rfl rfl (fun W hW=>Kab rfl rfl) ?_
           simp only [Act.put,sA,sZ,sS]
           refine tk 9 69 (v:=.bool true) rfl rfl (fun W hW=>Kam rfl rfl rfl (hgt W)) ?_
           simp only [Act.put,sA,sZ,sS]
           refine tk 10 70 (v:=.bool true) rfl rfl (fun W hW=>Kab rfl rfl) ?_
           simp only [Act.put,sA,sZ,sS]
           refine tk 11 71 (v:=.pointer (some ⟨w.heap.size,4,none⟩)) rfl rfl (fun W hW=>Kac rfl rfl (Ka5 _ _ (by decide) W)) ?_
           simp only [Act.put,sA,sZ,sS]
           refine tk 12 72 (v:=.slice (some ⟨bk,ok,none⟩) ks.length ck) rfl rfl (fun W hW=>Kad rfl rfl (Kaf (w:=W) Tryz.underlying26 rfl (Kag hW.box.1 rfl))) ?_
           simp only [Act.put,sA,sZ,sS]
           refine tk 13 73 (v:=.int .i64 (j : Int)) rfl rfl (fun W hW=>Kab rfl rfl) ?_
           simp only [Act.put,sA,sZ,sS]
           refine tk 14 74 (v:=.int .i64 (m : Int)) rfl rfl (fun W hW=>Kam rfl rfl rfl (hsub W)) ?_
           simp only [Act.put,sA,sZ,sS]
           refine tk 15 75 (v:=.pointer (some ⟨bk,ok + m,none⟩)) rfl rfl (fun W hW=>Kaj rfl rfl rfl (ia_keys _ _ _ _ _ hmn W)) ?_
           simp only [Act.put,sA,sZ,sS]
           refine tk 16 76 (v:=.string (strB ks[m])) rfl rfl (fun W hW=>Kad rfl rfl (Kaf (w:=W) Tryz.underlying9 rfl hW.one)) ?_
           simp only [Act.put,sA,sZ,sS]
           refine tk 17 77 (v:=.pointer (some ⟨w.heap.size,4,none⟩)) rfl rfl (fun W hW=>Kac rfl rfl (Ka5 _ _ (by decide) W)) ?_
           simp only [Act.put,sA,sZ,sS]
           refine tk 18 78 (v:=.slice (some ⟨bk,ok,none⟩) ks.length ck) rfl rfl (fun W hW=>Kad rfl rfl (Kaf (w:=W) Tryz.underlying26 rfl (Kag hW.box.1 rfl))) ?_
           simp only [Act.put,sA,sZ,sS]
           refine tk 19 79 (v:=.int .i64 (j : Int)) rfl rfl (fun W hW=>Kab rfl rfl) ?_
           simp only [Act.put,sA,sZ,sS]
           refine tk 20 80 (v:=.pointer (some ⟨bk,ok + j,none⟩)) rfl rfl (fun W hW=>Kaj rfl rfl rfl (ia_keys _ _ _ _ _ hlt W)) ?_
           simp only [Act.put,sA,sZ,sS]
           refine tk 21 81 (v:=.string (strB ks[j])) rfl rfl (fun W hW=>Kad rfl rfl (Kaf (w:=W) Tryz.underlying9 rfl hW.two)) ?_
           simp only [Act.put,sA,sZ,sS]
           refine tk 22 82 (v:=.bool false) rfl rfl (fun W hW=>Kb2 rfl rfl rfl (hge W)) ?_
           simp only [Act.put,sA,sZ,sS]
           refine tk 23 83 (v:=.bool false) rfl rfl (fun W hW=>rfl) ?_
           simp only [Act.put,sA,sZ,sS]
           refine tk 24 84 (v:=.bool false) rfl rfl (fun W hW=>rfl) ?_
           simp only [Act.put,sA,sZ,sS]
           refine done (by kernel_rfl) ?_ _
           have hr : Kat (ks.take (j + 1)) = true:=by rw [hrs,hlb,HQ.out.2];rfl
           have HN:=yh (show KeysOk (ks.take (j + 1)) from And.intro hall hr)
           have HT0:=yh hU.box
           have px4:=Kag (o:=4) hU.box.1 rfl
           clear hU hcu htk hall hno hr q0 q1 HQ hrs hm hsub hgt hge
           go_wp2
           go_roundw
           case rel=>exact ⟨j + 1,hlt1,by go_num,HN,HT0⟩
           case measure=>simp [intOf];omega
     ·obtain rfl : j = ks.length:=by omega
      have hR:=HQ.out
      rw [List.take_length] at hR
      have HR:=yh hR
      have HT0:=HT
      clear hT1 hR HQ
      go_wp2
      go_loopw [4] (fun i W=>∃ j : Nat,j ≤ l.length ∧ i = .int .i64 (j : Int) ∧ Hid (ValsOk (l.take j)) ∧ Hid (OneB w W #[.int .i64 k,.bool b,.int .i64 n,.string (strB t),.slice pk ks.length ck,.slice pl l.length cl])) (fun i _=>l.length - (intOf i).toNat)
      case atStart=>exact ⟨0,Nat.zero_le _,rfl,yh rfl,HT0⟩
      case round =>
       clear HT HT0 px0 px1 px2 px3 px4 px5
       obtain ⟨j,hj,rfl,HQ,HT⟩:=hrel
       have hT1:=HT.out
       have px0:=Kag (o:=0) hT1.1 rfl;have px1:=Kag (o:=1) hT1.1 rfl;have px2:=Kag (o:=2) hT1.1 rfl;have px3:=Kag (o:=3) hT1.1 rfl;have px4:=Kag (o:=4) hT1.1 rfl;have px5:=Kag (o:=5) hT1.1 rfl
       by_cases hlt : j < l.length
       ·have hlt1 : j + 1 ≤ l.length:=hlt
        obtain ⟨g1,o1,pk1,ck1,pl1,cl1,rfl,⟨a0,a1,a2,a3,a4,a5⟩,hv1⟩:=(HK.out.2.1.below hT1.2).at hlt
        have hcall:=HK.out.2.2 l[j] (List.getElem_mem hlt) _ _ hv1
        have htk : (l.take (j + 1)).all (mayV Lib.validD) = mayV Lib.validD l[j]:=by
         have hq : (l.take j).all (mayV Lib.validD) = true:=HQ.out
         rw [List.take_succ_eq_append_getElem hlt,List.all_append,hq];simp
        have hno : mayV Lib.validD l[j] = false → l.all (mayV Lib.validD) = false:=fun h=>List.all_eq_false.2 ⟨l[j],List.getElem_mem hlt,by rw [h];simp⟩
        generalize mayV Lib.validD l[j] = on at *
        generalize l[j] = s1 at *
        have hok : on = true → ValsOk (l.take (j + 1)):=fun h=>htk.trans h
        have hnok : on = false → l.all (mayV Lib.validD) = false:=hno
        cases on with
        | true =>
          have hv:=hok rfl
          have HD:=yh (And.intro hcall (And.intro hv hT1))
          clear hcall htk hno hv1 hT1 hok hnok hv
          go_wp2_with (go_at_call 133
                       (
                         refine HD.out.1.mono ?_
                         rintro e w3 ⟨rfl,hb3⟩
                         have HG:=yh (HD.out.2.2.below hb3)
                         clear hb3))
          go_roundw
          case rel=>exact ⟨j + 1,hlt1,by go_num,yh HD.out.2.1,HG⟩
          case measure=>simp [intOf];omega
        | false =>
          have hv:=MayNo.mk (hnok rfl)
          have HD:=yh (And.intro hcall (And.intro hv hT1))
          clear hcall htk hno hv1 hT1 hok hnok hv
          go_wp2_with (go_at_call 133
                       (
                         refine HD.out.1.mono ?_
                         rintro e w3 ⟨rfl,hb3⟩
                         have HG:=yh (HD.out.2.2.below hb3)
                         clear hb3))
          go_ret
          exact ⟨Kak (by rw [HD.out.2.1.no];simp),HG.out.2⟩
       ·obtain rfl : j = l.length:=by omega
        have hQ:=HQ.out
        rw [List.take_length] at hQ
        have HQ2:=yh hQ
        clear hT1 hQ
        go_wp2
        go_ret
        exact ⟨Kak (by rw [HR.out.1,HR.out.2,HQ2.out];rfl),HT.out.2⟩
theorem countV_mk (k : Int) (b : Bool) (n : Int) (t : List UInt8) (ks : List (List UInt8)) (l : List V) : countV (.mk k b n t ks l) = 1 + Kbp l:=by rw [countV]
theorem deepV_mk (k : Int) (b : Bool) (n : Int) (t : List UInt8) (ks : List (List UInt8)) (l : List V) : deepV (.mk k b n t ks l) = Kbq l + 1:=by rw [deepV]
theorem bytesV_mk (k : Int) (b : Bool) (n : Int) (t : List UInt8) (ks : List (List UInt8)) (l : List V) : Kb7 (.mk k b n t ks l) = t.length + (ks.map List.length).sum + Kbe l:=by rw [Kb7]
theorem longV_mk (k : Int) (b : Bool) (n : Int) (t : List UInt8) (ks : List (List UInt8)) (l : List V) : longV (.mk k b n t ks l) = max l.length (Kbw l):=by rw [longV]
theorem countVs_snoc (l : List V) (v : V) : Kbp (l ++ [v]) = Kbp l + countV v:=by
 induction l with
 | nil=>simp [Kbp]
 | cons a r ih=>simp only [List.cons_append,Kbp,ih];omega
theorem deepVs_snoc (l : List V) (v : V) : Kbq (l ++ [v]) = max (Kbq l) (deepV v):=by
 induction l with
 | nil=>simp [Kbq]
 | cons a r ih=>simp only [List.cons_append,Kbq,ih];omega
theorem bytesVs_snoc (l : List V) (v : V) : Kbe (l ++ [v]) = Kbe l + Kb7 v:=by
 induction l with
 | nil=>simp [Kbe]
 | cons a r ih=>simp only [List.cons_append,Kbe,ih];omega
theorem longVs_snoc (l : List V) (v : V) : Kbw (l ++ [v]) = max (Kbw l) (longV v):=by
 induction l with
 | nil=>simp [Kbw]
 | cons a r ih=>simp only [List.cons_append,Kbw,ih];omega
theorem sizes_tot : ∀ v : V,countV v ≤ totV v ∧ deepV v ≤ totV v ∧ Kb7 v ≤ totV v ∧ longV v ≤ totV v:=by
 refine V.ind fun k b n t ks l ih=>?_
 have hl : Kbp l ≤ totVs l ∧ Kbq l ≤ totVs l ∧ Kbe l ≤ totVs l ∧ Kbw l ≤ totVs l:=by
  induction l with
  | nil=>simp [Kbp,Kbq,Kbe,Kbw]
  | cons a r ihr =>
    have h1:=ih a (by simp)
    have h2:=ihr fun v hv=>ih v (by simp [hv])
    simp only [Kbp,Kbq,Kbe,Kbw,totVs]
    omega
 have hn:=Kdd l
 rw [countV_mk,deepV_mk,bytesV_mk,longV_mk,Kdw]
 omega
theorem exec_lenB {a : Act} {w : World} {o : Oper} {x : Operand} {l : List UInt8} (ho : o.op = .call { callee:=.builtin .len,args:=#[x],argTypes:=#[9] }) (hx : a.eval x = .string (strB l)) : (execOp a.eval o).run Tryz.prog w = .ok (.value (.int .i64 (l.length : Int))) w:=by
 have e : (strB l).size = l.length:=rfl
 unfold execOp;simp only [ho,resolve,invoke,Sem.run_bind,Sem.run_pure,Result.andThen_ok,List.map_toArray,List.map_cons,List.map_nil,hx];simp [go_sem,e]
theorem keysum_take (ks : List (List UInt8)) (j : Nat) : ((ks.take j).map List.length).sum ≤ (ks.map List.length).sum:=by
 have e : ks.take j ++ ks.drop j = ks:=List.take_append_drop _ _
 have h:=congrArg (fun l=>(l.map List.length).sum) e
 simp only [List.map_append,List.sum_append] at h
 omega
theorem totVs_take (l : List V) (j : Nat) : totVs (l.take j) ≤ totVs l:=by
 have e : l.take j ++ l.drop j = l:=List.take_append_drop _ _
 have:=congrArg totVs e
 rw [totVs_append] at this
 omega
theorem sizes_tots (l : List V) : Kbp l ≤ totVs l ∧ Kbq l ≤ totVs l ∧ Kbe l ≤ totVs l ∧ Kbw l ≤ totVs l:=by
 induction l with
 | nil=>simp [Kbp,Kbq,Kbe,Kbw]
 | cons a r ihr =>
   have h1:=sizes_tot a
   simp only [Kbp,Kbq,Kbe,Kbw,totVs]
   omega
structure SixU (w : World) (X : Array Value) (bl o : Nat) (c0 c1 c2 c3 c4 c5 : Value) (W : World) : Prop where
 box : OneB w W X
 h0 : W.cell? ⟨bl,o,none⟩ = some c0
 h1 : W.cell? ⟨bl,o + 1,none⟩ = some c1
 h2 : W.cell? ⟨bl,o + 2,none⟩ = some c2
 h3 : W.cell? ⟨bl,o + 3,none⟩ = some c3
 h4 : W.cell? ⟨bl,o + 4,none⟩ = some c4
 h5 : W.cell? ⟨bl,o + 5,none⟩ = some c5
theorem SixU.keep {w W W' : World} {X : Array Value} {bl o : Nat} {c0 c1 c2 c3 c4 c5 : Value} (h : SixU w X bl o c0 c1 c2 c3 c4 c5 W) (b : Below W.heap.size W W') : SixU w X bl o c0 c1 c2 c3 c4 c5 W' :=
 ⟨h.box.below b,Kae b (ltOf h.h0) h.h0,Kae b (ltOf h.h1) h.h1,Kae b (ltOf h.h2) h.h2,Kae b (ltOf h.h3) h.h3,Kae b (ltOf h.h4) h.h4,Kae b (ltOf h.h5) h.h5⟩
theorem sizeR_any : ∀ (v : V) (w : World) (x : Array Value),totV v ≤ 1099511627776 → VRd w v x →
 Calls Tryz.prog 32 #[.agg x] w fun e w'=>e = .returned (.tuple #[.int .i64 (countV v : Int),.int .i64 (deepV v : Int),.int .i64 (Kb7 v : Int),.int .i64 (longV v : Int)]) ∧ Below w.heap.size w w':=by
 refine V.ind fun k b n t ks l ih=>?_
 intro w x htot hx
 rw [Kdw] at htot
 have hT:=OneB.start w x
 obtain ⟨pk,ck,pl,cl,rfl,htx,hk1,hl1⟩:=Kbz.1 hx
 have z1 : (ks.length : Int) ≤ 140737488355328:=by have:=hk1.1;have:=hk1.2.1;omega
 have z2 : (l.length : Int) ≤ 140737488355328:=by have:=hl1.1.2.1;omega
 have HK:=yh (And.intro hk1 (And.intro hl1 (And.intro ih htot)))
 rw [countV_mk,deepV_mk,bytesV_mk,longV_mk]
 have hb0 : Kb7 (.mk 0 false 0 t [] []) = t.length:=by rw [bytesV_mk];simp [Kbe]
 have hT0 : OneB w (w.alloc (.cells #[.int .i64 k,.bool b,.int .i64 n,.string (strB t),.slice pk ks.length ck,.slice pl l.length cl] 31)).drew #[.int .i64 k,.bool b,.int .i64 n,.string (strB t),.slice pk ks.length ck,.slice pl l.length cl]:=hT.below (Below.refl _ _).drew
 clear ih hx hk1 hl1 hT htx htot hb0
 go_enter Tryz.func32,Tryz.ntmps32
 go_wp2
 refine Kah (fun W=>OneB w W #[.int .i64 k,.bool b,.int .i64 n,.string (strB t),.slice pk ks.length ck,.slice pl l.length cl]) (by kernel_rfl) hT0 (fun hU=>?_)
 refine tk 0 16 (v:=.pointer (some ⟨w.heap.size,3,none⟩)) rfl rfl (fun W hW=>Kac rfl rfl (Ka5 _ _ (by decide) W)) ?_
 simp only [Act.put,sA,sZ,sS]
 refine tk 1 17 (v:=.string (strB t)) rfl rfl (fun W hW=>Kad rfl rfl (Kaf (w:=W) Tryz.underlying9 rfl (Kag hW.1 rfl))) ?_
 simp only [Act.put,sA,sZ,sS]
 refine tk 2 18 (v:=.int .i64 (t.length : Int)) rfl rfl (fun W hW=>exec_lenB rfl rfl) ?_
 simp only [Act.put,sA,sZ,sS]
 refine tk 3 19 (v:=.pointer (some ⟨w.heap.size,5,none⟩)) rfl rfl (fun W hW=>Kac rfl rfl (Ka5 _ _ (by decide) W)) ?_
 simp only [Act.put,sA,sZ,sS]
 refine tk 4 20 (v:=.slice pl l.length cl) rfl rfl (fun W hW=>Kad rfl rfl (Kaf (w:=W) Tryz.underlying29 rfl (Kag hW.1 rfl))) ?_
 simp only [Act.put,sA,sZ,sS]
 refine tk 5 21 (v:=.int .i64 (l.length : Int)) rfl rfl (fun W hW=>exec_lenV rfl rfl) ?_
 simp only [Act.put,sA,sZ,sS]
 refine tk 6 6 (v:=.int .i64 1) rfl rfl (fun W hW=>Kax rfl rfl) ?_
 simp only [Act.put,sA,sZ,sS]
 refine tk 7 7 (v:=.int .i64 0) rfl rfl (fun W hW=>Kax rfl rfl) ?_
 simp only [Act.put,sA,sZ,sS]
 refine tk 8 8 (v:=.int .i64 (t.length : Int)) rfl rfl (fun W hW=>Kax rfl rfl) ?_
 simp only [Act.put,sA,sZ,sS]
 refine tk 9 9 (v:=.int .i64 (l.length : Int)) rfl rfl (fun W hW=>Kax rfl rfl) ?_
 simp only [Act.put,sA,sZ,sS]
 refine done (by kernel_rfl) ?_ _
 have HT0:=yh hU
 clear hU hT0
 go_wp2
 go_loopw [8,10] (fun y i W=>∃ j : Nat,j ≤ ks.length ∧ i = .int .i64 (j : Int) ∧ y = .int .i64 ((t.length + ((ks.take j).map List.length).sum : Nat) : Int) ∧ Hid (OneB w W #[.int .i64 k,.bool b,.int .i64 n,.string (strB t),.slice pk ks.length ck,.slice pl l.length cl])) (fun _ i _=>ks.length - (intOf i).toNat)
 case atStart=>exact ⟨0,Nat.zero_le _,rfl,by simp,HT0⟩
 case round =>
  clear HT0
  obtain ⟨j,hj,rfl,rfl,HT⟩:=hrel
  have hT1:=HT.out
  have px0:=Kag (o:=0) hT1.1 rfl;have px1:=Kag (o:=1) hT1.1 rfl;have px2:=Kag (o:=2) hT1.1 rfl;have px3:=Kag (o:=3) hT1.1 rfl;have px4:=Kag (o:=4) hT1.1 rfl;have px5:=Kag (o:=5) hT1.1 rfl
  have hsl:=keysum_take ks j
  by_cases hlt : j < ks.length
  ·have hlt1 : j + 1 ≤ ks.length:=hlt
   obtain ⟨bk,ok,rfl,q0,ql⟩:=(HK.out.1.below hT1.2).get hlt
   have hsum : t.length + ((ks.take (j + 1)).map List.length).sum = t.length + ((ks.take j).map List.length).sum + ks[j].length:=by
    rw [List.take_succ_eq_append_getElem hlt,List.map_append,List.sum_append];simp;omega
   have hsl2:=keysum_take ks (j + 1)
   have z5 : ((t.length + ((ks.take j).map List.length).sum : Nat) : Int) + (ks[j].length : Int) ≤ 1099511627776:=by have:=HK.out.2.2.2;omega
   have zs2 : (strB ks[j]).size = ks[j].length:=rfl
   have HS:=yh hsum
   generalize t.length + ((ks.take j).map List.length).sum = S at *
   clear hsl hsl2 hsum hT1
   go_wp2
   go_roundw
   case rel=>exact ⟨j + 1,hlt1,by go_num,by rw [HS.out];go_num,HT⟩
   case measure=>simp [intOf];omega
  ·obtain rfl : j = ks.length:=by omega
   rw [List.take_length]
   have zb : t.length + (ks.map List.length).sum + totVs l ≤ 1099511627776:=by have:=HK.out.2.2.2;omega
   have HZB:=yh zb
   generalize hY : t.length + (ks.map List.length).sum = Y at *
   have HY:=yh hY
   have HT0:=HT
   clear hsl hT1 hY zb
   go_wp2
   go_loopw [6,7,8,9,11] (fun c d y g i W=>∃ j : Nat,j ≤ l.length ∧ i = .int .i64 (j : Int) ∧ c = .int .i64 ((1 + Kbp (l.take j) : Nat) : Int) ∧ d = .int .i64 ((Kbq (l.take j) : Nat) : Int) ∧ y = .int .i64 ((Y + Kbe (l.take j) : Nat) : Int) ∧ g = .int .i64 ((max l.length (Kbw (l.take j)) : Nat) : Int) ∧ Hid (OneB w W #[.int .i64 k,.bool b,.int .i64 n,.string (strB t),.slice pk ks.length ck,.slice pl l.length cl])) (fun _ _ _ _ i _=>l.length - (intOf i).toNat)
   case atStart=>exact ⟨0,Nat.zero_le _,rfl,by simp [Kbp],by simp [Kbq],by simp [Kbe],by simp [Kbw],HT0⟩
   case round =>
    clear HT0 HT
    obtain ⟨j,hj,rfl,rfl,rfl,rfl,rfl,HT⟩:=hrel
    have hT1:=HT.out
    clear px0 px1 px2 px3 px4 px5
    have px0:=Kag (o:=0) hT1.1 rfl;have px1:=Kag (o:=1) hT1.1 rfl;have px2:=Kag (o:=2) hT1.1 rfl;have px3:=Kag (o:=3) hT1.1 rfl;have px4:=Kag (o:=4) hT1.1 rfl;have px5:=Kag (o:=5) hT1.1 rfl
    have hs0:=sizes_tots (l.take j)
    have htl:=totVs_take l j
    by_cases hlt : j < l.length
    ·have hlt1 : j + 1 ≤ l.length:=hlt
     obtain ⟨g1,o1,pk1,ck1,pl1,cl1,rfl,⟨a0,a1,a2,a3,a4,a5⟩,hv1⟩:=(HK.out.2.1.below hT1.2).at hlt
     have htl2:=totVs_take l (j + 1)
     have hss:=sizes_tot l[j]
     have htk : l.take (j + 1) = l.take j ++ [l[j]]:=List.take_succ_eq_append_getElem hlt
     rw [htk,totVs_append] at htl2
     have htv : totVs [l[j]] = totV l[j]:=by simp [totVs]
     have hcall:=HK.out.2.2.1 l[j] (List.getElem_mem hlt)
     have hn1 : Kbp (l.take (j + 1)) = Kbp (l.take j) + countV l[j]:=by rw [htk,countVs_snoc]
     have hn2 : Kbq (l.take (j + 1)) = max (Kbq (l.take j)) (deepV l[j]):=by rw [htk,deepVs_snoc]
     have hn3 : Kbe (l.take (j + 1)) = Kbe (l.take j) + Kb7 l[j]:=by rw [htk,bytesVs_snoc]
     have hn4 : Kbw (l.take (j + 1)) = max (Kbw (l.take j)) (longV l[j]):=by rw [htk,longVs_snoc]
     have hzb:=HZB.out
     have hq1 : 1 + Kbp (l.take j) + countV l[j] ≤ 4398046511104:=by omega
     have hq2 : Y + Kbe (l.take j) + Kb7 l[j] ≤ 4398046511104:=by omega
     have HN:=yh (And.intro hn1 (And.intro hn2 (And.intro hn3 hn4)))
     have hcv : totV l[j] ≤ 1099511627776:=by omega
     generalize l[j] = s1 at *
     generalize Kbp (l.take j) = C at *
     generalize Kbq (l.take j) = D at *
     generalize Kbe (l.take j) = B at *
     generalize Kbw (l.take j) = G at *
     have hcl:=hcall wr _ hcv hv1
     have HD:=yh (And.intro hcl hT1)
     clear hn1 hn2 hn3 hn4 hss htl htl2 htv hs0 hzb hcall hv1 hT1 htk hcl
     go_wp2_with (go_at_call 32
                  (
                    refine HD.out.1.mono ?_
                    rintro e w5 ⟨rfl,hb5⟩
                    have hT5:=HD.out.2.below hb5
                    have HT5:=yh hT5
                    clear hb5 hT5))
     go_roundw
     case rel=>exact ⟨j + 1,hlt1,by go_num,by rw [HN.out.1];congr 1;omega,by rw [HN.out.2.1];congr 1;omega,by rw [HN.out.2.2.1];congr 1;omega,by rw [HN.out.2.2.2];congr 1;omega,HT5⟩
     case measure=>simp [intOf];omega
    ·obtain rfl : j = l.length:=by omega
     rw [List.take_length] at *
     have HF:=yh hT1.2
     have hzb:=HZB.out
     have hd1 : Kbq l + 1 ≤ 4398046511104:=by omega
     clear hs0 htl hT1 hzb
     go_wp2
     refine bodyPost_ret (v:=.tuple #[.int .i64 ((1 + Kbp l : Nat) : Int),.int .i64 ((Kbq l + 1 : Nat) : Int),.int .i64 ((Y + Kbe l : Nat) : Int),.int .i64 ((max l.length (Kbw l) : Nat) : Int)]) (by simp [results,Tryz.results32,go_sem]) rfl ⟨by rw [HY.out],HF.out⟩
theorem checkR_any {v : V} {w : World} {x : Array Value} (htot : totV v ≤ 1099511627776) (hx : VRd w v x) : Calls Tryz.prog 83 #[.agg x] w fun e w'=>e = .returned (.int .i64 (Kci Lib.validD v)) ∧ Below w.heap.size w w':=by
 have hT:=OneB.start w x
 have hmay:=mayR_any v _ _ (hx.below hT.2)
 have hsz:=fun (W : World) (hb : Below w.heap.size w W)=>sizeR_any v W x htot (hx.below hb)
 have hst:=sizes_tot v
 obtain ⟨pk,ck,pl,cl,rfl,_⟩:=hx.open
 have HM:=yh hmay
 have HS:=yh hsz
 have HT:=yh hT
 have hc : Kci Lib.validD v = if mayV Lib.validD v then (if 64 < deepV v || 1048576 < Kb7 v || 65536 < longV v then 3 else 0) else 110:=rfl
 have z1 : ((deepV v : Nat) : Int) ≤ 1099511627776:=by omega
 have z2 : ((Kb7 v : Nat) : Int) ≤ 1099511627776:=by omega
 have z3 : ((longV v : Nat) : Int) ≤ 1099511627776:=by omega
 have HC:=yh hc
 clear hmay hsz hT hx hst htot hc
 generalize Kci Lib.validD v = R at *
 generalize mayV Lib.validD v = M at *
 generalize deepV v = D at *
 generalize Kb7 v = B at *
 generalize longV v = G at *
 cases M with
 | false =>
   have hR:=HC.out
   have HR:=yh hR
   clear hR
   go_enter Tryz.func83,Tryz.ntmps83
   go_wp2_with (go_at_call 133
                (
                  refine HM.out.mono ?_
                  rintro e w1 ⟨rfl,hb⟩
                  have HT1:=yh (HT.out.below hb)
                  clear hb))
   go_ret
   exact ⟨Kcr HR.out.symm,HT1.out.2⟩
 | true =>
   go_enter Tryz.func83,Tryz.ntmps83
   go_wp2_with (first
    | (go_at_call 133
       (
         refine HM.out.mono ?_
         rintro e w1 ⟨rfl,hb⟩
         have HT1:=yh (HT.out.below hb)
         have HL1:=yh (get_val HT1.out.1)
         clear hb))
    | (refine Kb4 rfl _ _ _ rfl rfl HL1.out ?_)
    | (go_at_call 32
       (
         refine (HS.out _ HT1.out.2).mono ?_
         rintro e w2 ⟨rfl,hb⟩
         have HB:=yh (Kaa HT1.out.2 hb)
         clear hb)))
   all_goals
    go_ret
    refine ⟨Kcr ?_,HB.out⟩
    have h:=HC.out
    rw [if_pos trivial] at h
    rw [h]
    (repeat' split) <;> first | rfl | (simp only [Bool.or_eq_true,decide_eq_true_eq] at * <;> omega)
structure PairU (w : World) (s1 s2 : V) (g1 o1 g2 o2 : Nat) (c0 c1 c2 c3 c4 c5 d0 d1 d2 d3 d4 d5 : Value) (W : World) : Prop where
 b : Below w.heap.size w W
 h0 : W.cell? ⟨g1,o1,none⟩ = some c0
 h1 : W.cell? ⟨g1,o1 + 1,none⟩ = some c1
 h2 : W.cell? ⟨g1,o1 + 2,none⟩ = some c2
 h3 : W.cell? ⟨g1,o1 + 3,none⟩ = some c3
 h4 : W.cell? ⟨g1,o1 + 4,none⟩ = some c4
 h5 : W.cell? ⟨g1,o1 + 5,none⟩ = some c5
 q0 : W.cell? ⟨g2,o2,none⟩ = some d0
 q1 : W.cell? ⟨g2,o2 + 1,none⟩ = some d1
 q2 : W.cell? ⟨g2,o2 + 2,none⟩ = some d2
 q3 : W.cell? ⟨g2,o2 + 3,none⟩ = some d3
 q4 : W.cell? ⟨g2,o2 + 4,none⟩ = some d4
 q5 : W.cell? ⟨g2,o2 + 5,none⟩ = some d5
 r1 : VRd W s1 #[c0,c1,c2,c3,c4,c5]
 r2 : VRd W s2 #[d0,d1,d2,d3,d4,d5]
theorem PairU.keep {w W W' : World} {s1 s2 : V} {g1 o1 g2 o2 : Nat} {c0 c1 c2 c3 c4 c5 d0 d1 d2 d3 d4 d5 : Value} (h : PairU w s1 s2 g1 o1 g2 o2 c0 c1 c2 c3 c4 c5 d0 d1 d2 d3 d4 d5 W) (b : Below W.heap.size W W') : PairU w s1 s2 g1 o1 g2 o2 c0 c1 c2 c3 c4 c5 d0 d1 d2 d3 d4 d5 W' :=
 ⟨Kaa h.b b,Kae b (ltOf h.h0) h.h0,Kae b (ltOf h.h1) h.h1,Kae b (ltOf h.h2) h.h2,Kae b (ltOf h.h3) h.h3,Kae b (ltOf h.h4) h.h4,Kae b (ltOf h.h5) h.h5,
  Kae b (ltOf h.q0) h.q0,Kae b (ltOf h.q1) h.q1,Kae b (ltOf h.q2) h.q2,Kae b (ltOf h.q3) h.q3,Kae b (ltOf h.q4) h.q4,Kae b (ltOf h.q5) h.q5,h.r1.below b,h.r2.below b⟩
structure KeyTwo (w : World) (X Y : Array Value) (b1 o1 b2 o2 : Nat) (s1 s2 : List UInt8) (W : World) : Prop where
 two : TwoV w W X Y
 one : W.cell? ⟨b1,o1,none⟩ = some (.string (strB s1))
 sec : W.cell? ⟨b2,o2,none⟩ = some (.string (strB s2))
theorem KeyTwo.keep {w W W' : World} {X Y : Array Value} {b1 o1 b2 o2 : Nat} {s1 s2 : List UInt8} (h : KeyTwo w X Y b1 o1 b2 o2 s1 s2 W) (b : Below W.heap.size W W') : KeyTwo w X Y b1 o1 b2 o2 s1 s2 W' :=
 ⟨h.two.below b,Kae b (ltOf h.one) h.one,Kae b (ltOf h.sec) h.sec⟩
structure AlU (w : World) (X Y : Array Value) (s1 : V) (g1 o1 g2 o2 : Nat) (c0 c1 c2 c3 c4 c5 d0 d1 d2 d3 d4 d5 : Value) (W : World) : Prop where
 two : TwoV w W X Y
 p : PairU w s1 s1 g1 o1 g2 o2 c0 c1 c2 c3 c4 c5 d0 d1 d2 d3 d4 d5 W
theorem AlU.keep {w W W' : World} {X Y : Array Value} {s1 : V} {g1 o1 g2 o2 : Nat} {c0 c1 c2 c3 c4 c5 d0 d1 d2 d3 d4 d5 : Value} (h : AlU w X Y s1 g1 o1 g2 o2 c0 c1 c2 c3 c4 c5 d0 d1 d2 d3 d4 d5 W) (b : Below W.heap.size W W') : AlU w X Y s1 g1 o1 g2 o2 c0 c1 c2 c3 c4 c5 d0 d1 d2 d3 d4 d5 W':=⟨h.two.below b,h.p.keep b⟩
structure StoU (w : World) (X : Array Value) (g o q : Nat) (kj k0 : Int) (W : World) : Prop where
 one : OneB w W X
 kj : W.cell? ⟨g,q,none⟩ = some (.int .i64 kj)
 k0 : W.cell? ⟨g,o,none⟩ = some (.int .i64 k0)
def SameK (l : List V) (j : Nat) : Prop:=∀ i v u,i < j → l[i]? = some v → l[0]? = some u → v.kind = u.kind
theorem badB_eq (k k0 : Int) : badB k k0 = true ↔ k ≠ k0 ∨ k < 1 ∨ 3 < k:=by unfold badB;simp [Bool.or_eq_true,or_assoc]
theorem storL_bad {l : List V} {i : Nat} {v u : V} (h : l[i]? = some v) (h0 : l[0]? = some u) (hk : v.kind ≠ u.kind) : storL l = false:=by
 unfold storL
 rw [List.all_eq_false]
 refine ⟨v,List.mem_of_getElem? h,?_⟩
 have e : (l.map V.kind).headD 0 = u.kind:=by cases l with
  | nil=>simp at h0
  | cons a r=>simp only [List.getElem?_cons_zero,Option.some.injEq] at h0;subst h0;rfl
 rw [e,(badB_eq _ _).2 (.inl hk)];simp
theorem storL_same {l : List V} {u : V} (h0 : l[0]? = some u) (hs : SameK l l.length) : storL l = (decide (1 ≤ u.kind) && decide (u.kind ≤ 3)):=by
 have e : (l.map V.kind).headD 0 = u.kind:=by cases l with
  | nil=>simp at h0
  | cons a r=>simp only [List.getElem?_cons_zero,Option.some.injEq] at h0;subst h0;rfl
 have hall : ∀ x ∈ l,x.kind = u.kind:=fun x hx=>by
  obtain ⟨i,hi,rfl⟩:=List.getElem_of_mem hx
  exact hs i _ _ hi (List.getElem?_eq_getElem hi) h0
 unfold storL
 rw [e,Bool.eq_iff_iff,List.all_eq_true]
 simp only [Bool.and_eq_true,decide_eq_true_eq,Bool.not_eq_true']
 constructor
 ·intro h
  have:=h u (List.mem_of_getElem? h0)
  have hb : (u.kind ≠ u.kind ∨ u.kind < 1 ∨ 3 < u.kind) → False:=fun hh=>by rw [(badB_eq u.kind u.kind).2 hh] at this;cases this
  constructor
  ·by_cases h1 : u.kind < 1
   ·exact (hb (.inr (.inl h1))).elim
   ·omega
  ·by_cases h1 : 3 < u.kind
   ·exact (hb (.inr (.inr h1))).elim
   ·omega
 ·rintro ⟨h1,h2⟩ x hx
  rw [hall x hx]
  cases hb : badB u.kind u.kind with
  | false=>rfl
  | true=>rcases (badB_eq _ _).1 hb with h | h | h <;> omega
theorem storL_one (v : V) : storL [v] = (decide (1 ≤ v.kind) && decide (v.kind ≤ 3)):=storL_same (u:=v) rfl (fun i x u hi h h0=>by
 have : i = 0:=by simpa using hi
 subst this;rw [h] at h0;cases h0;rfl)
theorem kinds3 (k : Int) : ((k == 1) = true ∧ (decide (1 ≤ k) && decide (k ≤ 3)) = true) ∨ ((k == 1) = false ∧ (k == 2) = true ∧ (decide (1 ≤ k) && decide (k ≤ 3)) = true) ∨ ((k == 1) = false ∧ (k == 2) = false ∧ (k == 3) = true ∧ (decide (1 ≤ k) && decide (k ≤ 3)) = true) ∨ ((k == 1) = false ∧ (k == 2) = false ∧ (k == 3) = false ∧ (decide (1 ≤ k) && decide (k ≤ 3)) = false):=by
 by_cases h1 : k = 1
 ·subst h1;exact .inl ⟨rfl,rfl⟩
 ·by_cases h2 : k = 2
  ·subst h2;exact .inr (.inl ⟨rfl,rfl,rfl⟩)
  ·by_cases h3 : k = 3
   ·subst h3;exact .inr (.inr (.inl ⟨rfl,rfl,rfl,rfl⟩))
   ·refine .inr (.inr (.inr ⟨by simpa using h1,by simpa using h2,by simpa using h3,?_⟩))
    rw [Bool.and_eq_false_iff,decide_eq_false_iff_not,decide_eq_false_iff_not];omega
theorem storR_any {v : V} {w : World} {x : Array Value} (hx : VRd w v x) (ho : okV v = true) :
 Calls Tryz.prog 136 #[.agg x] w fun e w'=>e = .returned (.bool (storB v)) ∧ Below w.heap.size w w':=by
 obtain ⟨pk,ck,pl,cl,rfl,htx,hk1,hl1⟩:=hx.open
 have hF:=oneV_iff.1 (mayV_iff.1 (okV_may ho)).1
 have hls : v.kind ≠ 4 → v.kind ≠ 5 → v.list = []:=hF.list
 have hR : storB v = storL (if v.kind = 4 then v.list else [v]):=rfl
 have hbad : ∀ (i : Nat) (s u : V),v.list[i]? = some s → v.list[0]? = some u → s.kind ≠ u.kind → storB v = false:=by
  intro i s u h h0 hne
  by_cases h4 : v.kind = 4
  ·rw [hR,if_pos h4];exact storL_bad h h0 hne
  ·by_cases h5 : v.kind = 5
   ·rw [hR,if_neg h4,storL_one,h5];rfl
   ·rw [hls h4 h5] at h;simp at h
 have hend : SameK v.list v.list.length → storB v = if v.kind = 4 then (match v.list[0]? with | some u=>decide (1 ≤ u.kind) && decide (u.kind ≤ 3) | none=>true) else (decide (1 ≤ v.kind) && decide (v.kind ≤ 3)):=by
  intro hs
  by_cases h4 : v.kind = 4
  ·rw [hR,if_pos h4,if_pos h4]
   cases h0 : v.list[0]? with
   | none =>
     have : v.list = []:=by cases hv : v.list with
      | nil=>rfl
      | cons a r=>rw [hv] at h0;simp at h0
     rw [this];rfl
   | some u=>exact storL_same h0 hs
  ·rw [hR,if_neg h4,if_neg h4,storL_one]
 generalize storB v = R at *
 have hT:=OneB.start w #[.int .i64 v.kind,.bool v.b,.int .i64 v.n,.string (strB v.text),.slice pk v.keys.length ck,.slice pl v.list.length cl]
 have z1 : (v.list.length : Int) ≤ 140737488355328:=by have:=hl1.1.2.1;omega
 have px0:=Kag (o:=0) hT.1 rfl;have px5:=Kag (o:=5) hT.1 rfl
 have HT:=yh hT
 have HL:=yh hl1
 have HB:=yh hbad
 have HE:=yh hend
 clear hx hk1 hl1 hT hbad hend hR hls hF ho
 go_enter Tryz.func136,Tryz.ntmps136
 go_wp2
 clear px0 px5
 go_loopw [3] (fun i W=>∃ j : Nat,j ≤ v.list.length ∧ i = .int .i64 (j : Int) ∧ Hid (SameK v.list j ∧ OneB w W #[.int .i64 v.kind,.bool v.b,.int .i64 v.n,.string (strB v.text),.slice pk v.keys.length ck,.slice pl v.list.length cl])) (fun i _=>v.list.length - (intOf i).toNat)
 case atStart=>exact ⟨0,Nat.zero_le _,rfl,yh ⟨fun i _ _ hi=>by omega,HT.out⟩⟩
 case round =>
  clear HT
  obtain ⟨j,hj,rfl,HJ⟩:=hrel
  have hT1:=HJ.out.2
  have px0:=Kag (o:=0) hT1.1 rfl;have px5:=Kag (o:=5) hT1.1 rfl
  by_cases hlt : j < v.list.length
  ·have hlt1 : j + 1 ≤ v.list.length:=hlt
   have hpos : 0 < v.list.length:=by omega
   have hbd : Below w.heap.size w wr.drew:=Kaa hT1.2 (Below.refl _ _).drew
   obtain ⟨g1,o1,pk1,ck1,pl1,cl1,rfl,⟨a0,_⟩,_⟩:=(HL.out.below hbd).at hlt
   obtain ⟨g2,o2,pk2,ck2,pl2,cl2,e2,⟨q0,_⟩,_⟩:=(HL.out.below hbd).at hpos
   cases e2
   have hsj : v.list[j]? = some v.list[j]:=List.getElem?_eq_getElem hlt
   have hs0 : v.list[0]? = some v.list[0]:=List.getElem?_eq_getElem hpos
   rw [Nat.zero_mul,Nat.add_zero] at q0
   have hstep : v.list[j].kind = v.list[0].kind → SameK v.list (j + 1):=fun e i s u hi h h0=>by
    by_cases hij : i = j
    ·subst hij;rw [hsj] at h;rw [hs0] at h0;cases h;cases h0;exact e
    ·exact HJ.out.1 i s u (by omega) h h0
   have hbad2 : v.list[j].kind ≠ v.list[0].kind → R = false:=HB.out j _ _ hsj hs0
   generalize v.list[j].kind = kj at *
   generalize v.list[0].kind = k0 at *
   have hU0 : StoU w #[.int .i64 v.kind,.bool v.b,.int .i64 v.n,.string (strB v.text),.slice pk v.keys.length ck,.slice (some ⟨g1,o1,none⟩) v.list.length cl] g1 o1 (o1 + j * 6) kj k0 wr.drew:=⟨hT1.below (Below.refl _ _).drew,a0,q0⟩
   clear a0 q0 hsj hs0 hbd hT1
   by_cases e : kj = k0
   ·have HS:=yh (hstep e)
    have hne : ∀ W,(binOp .neq 28 (.int .i64 kj) (.int .i64 k0)).run Tryz.prog W = .ok (.bool false) W:=fun W=>by simp [go_sem,e]
    clear hstep hbad2 e HJ
    go_wp2
    refine Kah (fun W=>StoU w #[.int .i64 v.kind,.bool v.b,.int .i64 v.n,.string (strB v.text),.slice pk v.keys.length ck,.slice (some ⟨g1,o1,none⟩) v.list.length cl] g1 o1 (o1 + j * 6) kj k0 W) (by kernel_rfl) hU0 (fun hU=>?_)
    refine tk 0 12 (v:=.pointer (some ⟨w.heap.size,5,none⟩)) rfl rfl (fun W hW=>Kac rfl rfl (Ka5 _ _ (by decide) W)) ?_
    simp only [Act.put,sA,sZ,sS]
    refine tk 1 13 (v:=.slice (some ⟨g1,o1,none⟩) v.list.length cl) rfl rfl (fun W hW=>Kad rfl rfl (Kaf (w:=W) Tryz.underlying29 rfl (Kag hW.one.1 rfl))) ?_
    simp only [Act.put,sA,sZ,sS]
    refine tk 2 14 (v:=.int .i64 (j : Int)) rfl rfl (fun W hW=>Kab rfl rfl) ?_
    simp only [Act.put,sA,sZ,sS]
    refine tk 3 15 (v:=.pointer (some ⟨g1,o1 + j * 6,none⟩)) rfl rfl (fun W hW=>Kaj rfl rfl rfl (ia_vals _ _ _ _ _ hlt W)) ?_
    simp only [Act.put,sA,sZ,sS]
    refine tk 4 16 (v:=.pointer (some ⟨g1,o1 + j * 6,none⟩)) rfl rfl (fun W hW=>Kac rfl rfl (Kdt _ _ W)) ?_
    simp only [Act.put,sA,sZ,sS]
    refine tk 5 17 (v:=.int .i64 kj) rfl rfl (fun W hW=>Kad rfl rfl (Kaf (w:=W) Tryz.underlying28 rfl hW.kj)) ?_
    simp only [Act.put,sA,sZ,sS]
    refine tk 6 18 (v:=.pointer (some ⟨w.heap.size,5,none⟩)) rfl rfl (fun W hW=>Kac rfl rfl (Ka5 _ _ (by decide) W)) ?_
    simp only [Act.put,sA,sZ,sS]
    refine tk 7 19 (v:=.slice (some ⟨g1,o1,none⟩) v.list.length cl) rfl rfl (fun W hW=>Kad rfl rfl (Kaf (w:=W) Tryz.underlying29 rfl (Kag hW.one.1 rfl))) ?_
    simp only [Act.put,sA,sZ,sS]
    refine tk 8 20 (v:=.pointer (some ⟨g1,o1,none⟩)) rfl rfl (fun W hW=>Kaj rfl rfl rfl (ia_first _ _ _ _ hpos W)) ?_
    simp only [Act.put,sA,sZ,sS]
    refine tk 9 21 (v:=.pointer (some ⟨g1,o1,none⟩)) rfl rfl (fun W hW=>Kac rfl rfl (Kdt _ _ W)) ?_
    simp only [Act.put,sA,sZ,sS]
    refine tk 10 22 (v:=.int .i64 k0) rfl rfl (fun W hW=>Kad rfl rfl (Kaf (w:=W) Tryz.underlying28 rfl hW.k0)) ?_
    simp only [Act.put,sA,sZ,sS]
    refine tk 11 23 (v:=.bool false) rfl rfl (fun W hW=>Kam rfl rfl rfl (hne W)) ?_
    simp only [Act.put,sA,sZ,sS]
    refine done (by kernel_rfl) ?_ _
    have HT0:=yh (And.intro HS.out hU.one)
    clear hU hU0 hne HS px0 px5
    go_wp2
    go_roundw
    case rel=>exact ⟨j + 1,by omega,by go_num,HT0⟩
    case measure=>simp [intOf];omega
   ·have HR:=yh (hbad2 e)
    have hne : ∀ W,(binOp .neq 28 (.int .i64 kj) (.int .i64 k0)).run Tryz.prog W = .ok (.bool true) W:=fun W=>by simp [go_sem,e]
    clear hstep hbad2 e HJ
    go_wp2
    refine Kah (fun W=>StoU w #[.int .i64 v.kind,.bool v.b,.int .i64 v.n,.string (strB v.text),.slice pk v.keys.length ck,.slice (some ⟨g1,o1,none⟩) v.list.length cl] g1 o1 (o1 + j * 6) kj k0 W) (by kernel_rfl) hU0 (fun hU=>?_)
    refine tk 0 12 (v:=.pointer (some ⟨w.heap.size,5,none⟩)) rfl rfl (fun W hW=>Kac rfl rfl (Ka5 _ _ (by decide) W)) ?_
    simp only [Act.put,sA,sZ,sS]
    refine tk 1 13 (v:=.slice (some ⟨g1,o1,none⟩) v.list.length cl) rfl rfl (fun W hW=>Kad rfl rfl (Kaf (w:=W) Tryz.underlying29 rfl (Kag hW.one.1 rfl))) ?_
    simp only [Act.put,sA,sZ,sS]
    refine tk 2 14 (v:=.int .i64 (j : Int)) rfl rfl (fun W hW=>Kab rfl rfl) ?_
    simp only [Act.put,sA,sZ,sS]
    refine tk 3 15 (v:=.pointer (some ⟨g1,o1 + j * 6,none⟩)) rfl rfl (fun W hW=>Kaj rfl rfl rfl (ia_vals _ _ _ _ _ hlt W)) ?_
    simp only [Act.put,sA,sZ,sS]
    refine tk 4 16 (v:=.pointer (some ⟨g1,o1 + j * 6,none⟩)) rfl rfl (fun W hW=>Kac rfl rfl (Kdt _ _ W)) ?_
    simp only [Act.put,sA,sZ,sS]
    refine tk 5 17 (v:=.int .i64 kj) rfl rfl (fun W hW=>Kad rfl rfl (Kaf (w:=W) Tryz.underlying28 rfl hW.kj)) ?_
    simp only [Act.put,sA,sZ,sS]
    refine tk 6 18 (v:=.pointer (some ⟨w.heap.size,5,none⟩)) rfl rfl (fun W hW=>Kac rfl rfl (Ka5 _ _ (by decide) W)) ?_
    simp only [Act.put,sA,sZ,sS]
    refine tk 7 19 (v:=.slice (some ⟨g1,o1,none⟩) v.list.length cl) rfl rfl (fun W hW=>Kad rfl rfl (Kaf (w:=W) Tryz.underlying29 rfl (Kag hW.one.1 rfl))) ?_
    simp only [Act.put,sA,sZ,sS]
    refine tk 8 20 (v:=.pointer (some ⟨g1,o1,none⟩)) rfl rfl (fun W hW=>Kaj rfl rfl rfl (ia_first _ _ _ _ hpos W)) ?_
    simp only [Act.put,sA,sZ,sS]
    refine tk 9 21 (v:=.pointer (some ⟨g1,o1,none⟩)) rfl rfl (fun W hW=>Kac rfl rfl (Kdt _ _ W)) ?_
    simp only [Act.put,sA,sZ,sS]
    refine tk 10 22 (v:=.int .i64 k0) rfl rfl (fun W hW=>Kad rfl rfl (Kaf (w:=W) Tryz.underlying28 rfl hW.k0)) ?_
    simp only [Act.put,sA,sZ,sS]
    refine tk 11 23 (v:=.bool true) rfl rfl (fun W hW=>Kam rfl rfl rfl (hne W)) ?_
    simp only [Act.put,sA,sZ,sS]
    refine done (by kernel_rfl) ?_ _
    have HF:=yh hU.one.2
    clear hU hU0 hne px0 px5
    go_wp2
    go_ret
    exact ⟨Kak HR.out.symm,HF.out⟩
  ·obtain rfl : j = v.list.length:=by omega
   have HF:=yh hT1.2
   have hE:=HE.out HJ.out.1
   by_cases h4 : v.kind = 4
   ·rw [if_pos h4] at hE
    have d4 : (v.kind == 4) = true:=by simpa using h4
    by_cases hpos : 0 < v.list.length
    ·obtain ⟨g2,o2,pk2,ck2,pl2,cl2,rfl,⟨q0,_⟩,_⟩:=(HL.out.below hT1.2).at hpos
     rw [List.getElem?_eq_getElem hpos] at hE
     simp only at hE
     rw [Nat.zero_mul,Nat.add_zero] at q0
     have d5 : decide ((0 : Int) < (v.list.length : Int)) = true:=by rw [decide_eq_true_iff];omega
     have d6 : decide (0 < v.list.length) = true:=by rw [decide_eq_true_iff];omega
     generalize v.list[0].kind = k0 at *
     have hk:=kinds3 k0
     generalize (decide (1 ≤ k0) && decide (k0 ≤ 3)) = B at *
     have HR:=yh hE
     clear hE hT1 h4 HJ HE HB HL
     rcases hk with ⟨k1,hB⟩ | ⟨k1,k2,hB⟩ | ⟨k1,k2,k3,hB⟩ | ⟨k1,k2,k3,hB⟩
     all_goals
      have HB2:=yh (HR.out.trans hB)
      clear hB HR
      go_wp2
      go_ret
      exact ⟨Kak HB2.out.symm,HF.out⟩
    ·have hnil : v.list = []:=List.eq_nil_of_length_eq_zero (by omega)
     have d5 : decide ((0 : Int) < (v.list.length : Int)) = false:=by rw [decide_eq_false_iff_not];omega
     have d6 : decide (0 < v.list.length) = false:=by rw [decide_eq_false_iff_not];omega
     have hE2 : R = true:=by rw [hE,hnil];rfl
     have HR:=yh hE2
     clear hE hE2 hT1 h4 HJ HE HB HL hnil
     go_wp2
     go_ret
     exact ⟨Kak HR.out.symm,HF.out⟩
   ·rw [if_neg h4] at hE
    have d4 : (v.kind == 4) = false:=by simpa using h4
    generalize v.kind = k0 at *
    have hk:=kinds3 k0
    generalize (decide (1 ≤ k0) && decide (k0 ≤ 3)) = B at *
    have HR:=yh hE
    clear hE hT1 h4 HJ HE HB HL
    rcases hk with ⟨k1,hB⟩ | ⟨k1,k2,hB⟩ | ⟨k1,k2,k3,hB⟩ | ⟨k1,k2,k3,hB⟩
    all_goals
     have HB2:=yh (HR.out.trans hB)
     clear hB HR
     go_wp2
     go_ret
     exact ⟨Kak HB2.out.symm,HF.out⟩
theorem geq_zero (n : Int) (W : World) : (binOp .geq 3 (.int .i64 n) (.int .i64 0)).run Tryz.prog W = .ok (.bool (decide (0 ≤ n))) W:=by simp [go_sem]
theorem cmp_geq (a b : List UInt8) : decide (0 ≤ cmpB a b) = !(ltB a b):=by
 rcases cmpB_cases a b with ⟨h1,h2⟩ | ⟨h1,h2,h3⟩ | ⟨h1,h2,h3,_⟩
 ·rw [h1,h2];rfl
 ·rw [h1,h3];rfl
 ·rw [h1,h3];rfl
def Kc0 (l : List (List UInt8)) : Bool:=Kat l && l.all okNm
theorem risesNm_no {l : List (List UInt8)} {j : Nat} (hj : j < l.length) (h : okNm l[j] = false) : Kc0 l = false:=by
 have : l.all okNm = false:=by
  rw [List.all_eq_false]
  exact ⟨l[j],List.getElem_mem hj,by simp [h]⟩
 unfold Kc0
 rw [this,Bool.and_false]
theorem risesB_no {l : List (List UInt8)} {j : Nat} (h0 : 0 < j) (hj : j < l.length) (h : ltB l[j - 1] l[j] = false) : Kat l = false:=by
 cases hr : Kat l with
 | false=>rfl
 | true =>
   have hp:=(rises_pair l).1 hr
   have:=List.pairwise_iff_getElem.1 hp (j - 1) j (by omega) hj (by omega)
   have e : ltB l[j - 1] l[j] = true:=this
   rw [h] at e;cases e
theorem risesB_one {l : List (List UInt8)} (hj : 0 < l.length) : Kat (l.take 1) = true:=by
 cases l with
 | nil=>simp at hj
 | cons a r=>rfl
theorem risesB_more {l : List (List UInt8)} {j : Nat} (h0 : 0 < j) (hj : j < l.length) (hr : Kat (l.take j) = true) (h : ltB l[j - 1] l[j] = true) : Kat (l.take (j + 1)) = true:=by
 obtain ⟨i,rfl⟩ : ∃ i,j = i + 1:=⟨j - 1,by omega⟩
 rw [Kcj hj,hr]
 simpa using h
theorem refrises_any {w : World} {p : Option Addr} {c : Nat} {l : List (List UInt8)} (h : RdS w p c l) : Calls Tryz.prog 33 #[.slice p l.length c] w fun e w'=>e = .returned (.bool (Kc0 l)) ∧ Below w.heap.size w w':=by
 have z1 : (l.length : Int) ≤ 140737488355328:=by have:=h.2.1.1;omega
 have H:=yh h
 clear h
 go_enter Tryz.func33,Tryz.ntmps33
 go_wp2
 go_loopw [3] (fun i W=>∃ j : Nat,j ≤ l.length ∧ i = .int .i64 (j : Int) ∧ Hid ((l.take j).all okNm = true ∧ Kat (l.take j) = true ∧ Below w.heap.size w W)) (fun i _=>l.length - (intOf i).toNat)
 case atStart=>exact ⟨0,Nat.zero_le _,rfl,yh ⟨by simp,by simp [Kat],Below.refl _ _⟩⟩
 case round =>
  obtain ⟨j,hj,rfl,HI⟩:=hrel
  by_cases hlt : j < l.length
  ·have hlt1 : j + 1 ≤ l.length:=hlt
   have hRw:=H.out.below HI.out.2.2
   obtain ⟨bk,ok,rfl,q1,hl1⟩:=hRw.get hlt
   have hi1 : ∀ W' : World,(Instr.indexAt 26 (.slice (some ⟨bk,ok,none⟩) l.length c) (.int .i64 (j : Int))).run Tryz.prog W' = .ok (.pointer (some ⟨bk,ok + j,none⟩)) W':=fun W'=>ia_text hlt W'
   have hall:=Kdz (f:=okNm) hlt HI.out.1
   have hno:=risesNm_no hlt
   have hnm:=fun W=>refname_any (w:=W) l[j] hl1
   have hB0 : Below wr.heap.size wr wr.drew:=(Below.refl _ wr).drew
   cases hok : okNm l[j] with
   | false =>
     have HF:=yh (And.intro (hno hok) HI.out.2.2)
     simp only [hok] at hnm
     generalize l[j] = s1 at *
     have HX:=yh (And.intro hi1 (And.intro q1 (And.intro hnm hB0)))
     clear hi1 q1 hnm hB0 hall hno hRw HI
     go_wp2
     obtain ⟨hi1,q1,hnm,hB0⟩:=HX.out
     refine Kah (fun W=>Below wr.heap.size wr W) (by kernel_rfl) hB0 (fun hS=>?_)
     refine tk 0 10 (v:=.slice (some ⟨bk,ok,none⟩) l.length c) rfl rfl (fun W hW=>Kab rfl rfl) ?_
     simp only [Act.put,sA,sZ,sS]
     refine tk 1 11 (v:=.int .i64 (j : Int)) rfl rfl (fun W hW=>Kab rfl rfl) ?_
     simp only [Act.put,sA,sZ,sS]
     refine tk 2 12 (v:=.pointer (some ⟨bk,ok + j,none⟩)) rfl rfl (fun W hW=>Kaj rfl rfl rfl (hi1 W)) ?_
     simp only [Act.put,sA,sZ,sS]
     refine tk 3 13 (v:=.string (strB s1)) rfl rfl (fun W hW=>Kad rfl rfl (Kaf (w:=W) Tryz.underlying9 rfl (Kae hW (ltOf q1) q1))) ?_
     simp only [Act.put,sA,sZ,sS]
     refine Kao 4 14 rfl rfl (by kernel_rfl) rfl (Kan [.string (strB s1)] rfl rfl Tryz.func35 (by kernel_rfl) (by kernel_rfl)) ?_
     refine (hnm _).mono ?_
     rintro e W4 ⟨rfl,rfl⟩
     have hS4:=hS
     refine ⟨_,rfl,.inr hS4,?_⟩
     simp only [Act.put,sA,sZ,sS]
     refine tk 5 15 (v:=.bool true) rfl rfl (fun W hW=>Kap (b:=false) rfl rfl) ?_
     simp only [Act.put,sA,sZ,sS]
     refine tk 6 16 (v:=.bool true) rfl rfl (fun W hW=>Kab rfl rfl) ?_
     simp only [Act.put,sA,sZ,sS]
     refine tn 7 17 rfl rfl ?_
     simp only [Act.put,sA,sZ,sS]
     refine tn 8 18 rfl rfl ?_
     simp only [Act.put,sA,sZ,sS]
     refine tn 9 19 rfl rfl ?_
     simp only [Act.put,sA,sZ,sS]
     refine tn 10 20 rfl rfl ?_
     simp only [Act.put,sA,sZ,sS]
     refine tn 11 21 rfl rfl ?_
     simp only [Act.put,sA,sZ,sS]
     refine tn 12 22 rfl rfl ?_
     simp only [Act.put,sA,sZ,sS]
     refine tn 13 23 rfl rfl ?_
     simp only [Act.put,sA,sZ,sS]
     refine tn 14 24 rfl rfl ?_
     simp only [Act.put,sA,sZ,sS]
     refine tn 15 25 rfl rfl ?_
     simp only [Act.put,sA,sZ,sS]
     refine tn 16 26 rfl rfl ?_
     simp only [Act.put,sA,sZ,sS]
     refine tn 17 27 rfl rfl ?_
     simp only [Act.put,sA,sZ,sS]
     refine tn 18 28 rfl rfl ?_
     simp only [Act.put,sA,sZ,sS]
     refine Kau 19 29 rfl rfl (by kernel_rfl) rfl ?_ (.inr (by assumption))
     simp only [Act.put,sA,sZ,sS]
     refine tn 20 30 rfl rfl ?_
     simp only [Act.put,sA,sZ,sS]
     refine tn 21 31 rfl rfl ?_
     simp only [Act.put,sA,sZ,sS]
     refine tk 22 32 (v:=.bool true) rfl rfl (fun W hW=>rfl) ?_
     simp only [Act.put,sA,sZ,sS]
     refine done (by kernel_rfl) ?_ _
     have HB:=yh hS4
     clear hi1 q1 hnm hB0 hS hS4 HX
     go_wp2
     go_ret
     exact ⟨Kak HF.out.1.symm,Kaa HF.out.2 HB.out⟩
   | true =>
     have HA:=yh (hall hok)
     simp only [hok] at hnm
     by_cases h0 : j = 0
     ·subst h0
      have HN:=yh (risesB_one hlt)
      have hgt : ∀ W : World,(binOp .gtr 3 (.int .i64 ((0 : Nat) : Int)) (.int .i64 0)).run Tryz.prog W = .ok (.bool false) W:=fun W=>by simp [go_sem]
      have HB1:=yh HI.out.2.2
      generalize l[0] = s1 at *
      have HX:=yh (And.intro hi1 (And.intro q1 (And.intro hnm (And.intro hB0 hgt))))
      clear hi1 q1 hnm hB0 hgt hall hno hRw HI hok
      go_wp2
      obtain ⟨hi1,q1,hnm,hB0,hgt⟩:=HX.out
      refine Kah (fun W=>Below wr.heap.size wr W) (by kernel_rfl) hB0 (fun hS=>?_)
      refine tk 0 10 (v:=.slice (some ⟨bk,ok,none⟩) l.length c) rfl rfl (fun W hW=>Kab rfl rfl) ?_
      simp only [Act.put,sA,sZ,sS]
      refine tk 1 11 (v:=.int .i64 ((0 : Nat) : Int)) rfl rfl (fun W hW=>Kab rfl rfl) ?_
      simp only [Act.put,sA,sZ,sS]
      refine tk 2 12 (v:=.pointer (some ⟨bk,ok + 0,none⟩)) rfl rfl (fun W hW=>Kaj rfl rfl rfl (hi1 W)) ?_
      simp only [Act.put,sA,sZ,sS]
      refine tk 3 13 (v:=.string (strB s1)) rfl rfl (fun W hW=>Kad rfl rfl (Kaf (w:=W) Tryz.underlying9 rfl (Kae hW (ltOf q1) q1))) ?_
      simp only [Act.put,sA,sZ,sS]
      refine Kao 4 14 rfl rfl (by kernel_rfl) rfl (Kan [.string (strB s1)] rfl rfl Tryz.func35 (by kernel_rfl) (by kernel_rfl)) ?_
      refine (hnm _).mono ?_
      rintro e W4 ⟨rfl,rfl⟩
      have hS4:=hS
      refine ⟨_,rfl,.inr hS4,?_⟩
      simp only [Act.put,sA,sZ,sS]
      refine tk 5 15 (v:=.bool false) rfl rfl (fun W hW=>Kap (b:=true) rfl rfl) ?_
      simp only [Act.put,sA,sZ,sS]
      refine tk 6 16 (v:=.bool false) rfl rfl (fun W hW=>Kab rfl rfl) ?_
      simp only [Act.put,sA,sZ,sS]
      refine tk 7 17 (v:=.int .i64 ((0 : Nat) : Int)) rfl rfl (fun W hW=>Kab rfl rfl) ?_
      simp only [Act.put,sA,sZ,sS]
      refine tk 8 18 (v:=.bool false) rfl rfl (fun W hW=>Kam rfl rfl rfl (hgt W)) ?_
      simp only [Act.put,sA,sZ,sS]
      refine tk 9 19 (v:=.bool false) rfl rfl (fun W hW=>Kab rfl rfl) ?_
      simp only [Act.put,sA,sZ,sS]
      refine tn 10 20 rfl rfl ?_
      simp only [Act.put,sA,sZ,sS]
      refine tn 11 21 rfl rfl ?_
      simp only [Act.put,sA,sZ,sS]
      refine tn 12 22 rfl rfl ?_
      simp only [Act.put,sA,sZ,sS]
      refine tn 13 23 rfl rfl ?_
      simp only [Act.put,sA,sZ,sS]
      refine tn 14 24 rfl rfl ?_
      simp only [Act.put,sA,sZ,sS]
      refine tn 15 25 rfl rfl ?_
      simp only [Act.put,sA,sZ,sS]
      refine tn 16 26 rfl rfl ?_
      simp only [Act.put,sA,sZ,sS]
      refine tn 17 27 rfl rfl ?_
      simp only [Act.put,sA,sZ,sS]
      refine tn 18 28 rfl rfl ?_
      simp only [Act.put,sA,sZ,sS]
      refine Kau 19 29 rfl rfl (by kernel_rfl) rfl ?_ (.inr (by assumption))
      simp only [Act.put,sA,sZ,sS]
      refine tn 20 30 rfl rfl ?_
      simp only [Act.put,sA,sZ,sS]
      refine tk 21 31 (v:=.bool false) rfl rfl (fun W hW=>rfl) ?_
      simp only [Act.put,sA,sZ,sS]
      refine tk 22 32 (v:=.bool false) rfl rfl (fun W hW=>rfl) ?_
      simp only [Act.put,sA,sZ,sS]
      refine done (by kernel_rfl) ?_ _
      have HB:=yh (Kaa HB1.out hS4)
      clear hi1 q1 hnm hB0 hgt hS hS4 HX
      go_wp2
      go_roundw
      case rel=>exact ⟨1,hlt1,by go_num,yh ⟨HA.out,HN.out,HB.out⟩⟩
      case measure=>simp [intOf];omega
     ·have h0' : 0 < j:=Nat.pos_of_ne_zero h0
      obtain ⟨bk2,ok2,e2,q0,hl0⟩:=hRw.get (show j - 1 < l.length by omega)
      cases e2
      have hi0 : ∀ W' : World,(Instr.indexAt 26 (.slice (some ⟨bk,ok,none⟩) l.length c) (.int .i64 ((j - 1 : Nat) : Int))).run Tryz.prog W' = .ok (.pointer (some ⟨bk,ok + (j - 1),none⟩)) W':=fun W'=>ia_text (by omega) W'
      have hgt : ∀ W : World,(binOp .gtr 3 (.int .i64 (j : Int)) (.int .i64 0)).run Tryz.prog W = .ok (.bool true) W:=fun W=>by
       have e : decide ((0 : Int) < (j : Int)) = true:=by simp;omega
       simp [go_sem,h0']
      have hsub : ∀ W : World,(binOp .sub 3 (.int .i64 (j : Int)) (.int .i64 1)).run Tryz.prog W = .ok (.int .i64 ((j - 1 : Nat) : Int)) W:=fun W=>by
       have e1 : (j : Int) = ((j - 1 : Nat) : Int) + 1:=by omega
       rw [e1]
       exact sub_one (by omega) W
      have hnr:=risesB_no h0' hlt
      have hmr:=risesB_more h0' hlt HI.out.2.1
      have hge:=fun W=>geq_zero (cmpB l[j - 1] l[j]) W
      simp only [cmp_geq] at hge
      have HNR:=yh (And.intro hnr hmr)
      have HB1:=yh HI.out.2.2
      generalize l[j - 1] = s0 at *
      generalize l[j] = s1 at *
      have HX:=yh (And.intro hi1 (And.intro q1 (And.intro hnm (And.intro hB0 (And.intro hgt (And.intro hi0 (And.intro q0 (And.intro hl0 (And.intro hl1 (And.intro hsub hge))))))))))
      clear hi1 q1 hnm hB0 hgt hi0 q0 hl0 hl1 hsub hge hall hno hRw HI hok h0 hnr hmr
      cases hlb : ltB s0 s1 with
      | true =>
        have HN:=yh (HNR.out.2 hlb)
        go_wp2
        obtain ⟨hi1,q1,hnm,hB0,hgt,hi0,q0,hl0,hl1,hsub,hge⟩:=HX.out
        refine Kah (fun W=>Below wr.heap.size wr W) (by kernel_rfl) hB0 (fun hS=>?_)
        refine tk 0 10 (v:=.slice (some ⟨bk,ok,none⟩) l.length c) rfl rfl (fun W hW=>Kab rfl rfl) ?_
        simp only [Act.put,sA,sZ,sS]
        refine tk 1 11 (v:=.int .i64 (j : Int)) rfl rfl (fun W hW=>Kab rfl rfl) ?_
        simp only [Act.put,sA,sZ,sS]
        refine tk 2 12 (v:=.pointer (some ⟨bk,ok + j,none⟩)) rfl rfl (fun W hW=>Kaj rfl rfl rfl (hi1 W)) ?_
        simp only [Act.put,sA,sZ,sS]
        refine tk 3 13 (v:=.string (strB s1)) rfl rfl (fun W hW=>Kad rfl rfl (Kaf (w:=W) Tryz.underlying9 rfl (Kae hW (ltOf q1) q1))) ?_
        simp only [Act.put,sA,sZ,sS]
        refine Kao 4 14 rfl rfl (by kernel_rfl) rfl (Kan [.string (strB s1)] rfl rfl Tryz.func35 (by kernel_rfl) (by kernel_rfl)) ?_
        refine (hnm _).mono ?_
        rintro e W4 ⟨rfl,rfl⟩
        have hS4:=hS
        refine ⟨_,rfl,.inr hS4,?_⟩
        simp only [Act.put,sA,sZ,sS]
        refine tk 5 15 (v:=.bool false) rfl rfl (fun W hW=>Kap (b:=true) rfl rfl) ?_
        simp only [Act.put,sA,sZ,sS]
        refine tk 6 16 (v:=.bool false) rfl rfl (fun W hW=>Kab rfl rfl) ?_
        simp only [Act.put,sA,sZ,sS]
        refine tk 7 17 (v:=.int .i64 (j : Int)) rfl rfl (fun W hW=>Kab rfl rfl) ?_
        simp only [Act.put,sA,sZ,sS]
        refine tk 8 18 (v:=.bool true) rfl rfl (fun W hW=>Kam rfl rfl rfl (hgt W)) ?_
        simp only [Act.put,sA,sZ,sS]
        refine tk 9 19 (v:=.bool true) rfl rfl (fun W hW=>Kab rfl rfl) ?_
        simp only [Act.put,sA,sZ,sS]
        refine tk 10 20 (v:=.slice (some ⟨bk,ok,none⟩) l.length c) rfl rfl (fun W hW=>Kab rfl rfl) ?_
        simp only [Act.put,sA,sZ,sS]
        refine tk 11 21 (v:=.int .i64 (j : Int)) rfl rfl (fun W hW=>Kab rfl rfl) ?_
        simp only [Act.put,sA,sZ,sS]
        refine tk 12 22 (v:=.int .i64 ((j - 1 : Nat) : Int)) rfl rfl (fun W hW=>Kam rfl rfl rfl (hsub W)) ?_
        simp only [Act.put,sA,sZ,sS]
        refine tk 13 23 (v:=.pointer (some ⟨bk,ok + (j - 1),none⟩)) rfl rfl (fun W hW=>Kaj rfl rfl rfl (hi0 W)) ?_
        simp only [Act.put,sA,sZ,sS]
        refine tk 14 24 (v:=.string (strB s0)) rfl rfl (fun W hW=>Kad rfl rfl (Kaf (w:=W) Tryz.underlying9 rfl (Kae hW (ltOf q0) q0))) ?_
        simp only [Act.put,sA,sZ,sS]
        refine tk 15 25 (v:=.slice (some ⟨bk,ok,none⟩) l.length c) rfl rfl (fun W hW=>Kab rfl rfl) ?_
        simp only [Act.put,sA,sZ,sS]
        refine tk 16 26 (v:=.int .i64 (j : Int)) rfl rfl (fun W hW=>Kab rfl rfl) ?_
        simp only [Act.put,sA,sZ,sS]
        refine tk 17 27 (v:=.pointer (some ⟨bk,ok + j,none⟩)) rfl rfl (fun W hW=>Kaj rfl rfl rfl (hi1 W)) ?_
        simp only [Act.put,sA,sZ,sS]
        refine tk 18 28 (v:=.string (strB s1)) rfl rfl (fun W hW=>Kad rfl rfl (Kaf (w:=W) Tryz.underlying9 rfl (Kae hW (ltOf q1) q1))) ?_
        simp only [Act.put,sA,sZ,sS]
        refine Kao 19 29 rfl rfl (by kernel_rfl) rfl (Kan [.string (strB s0),.string (strB s1)] rfl rfl Tryz.func93 (by kernel_rfl) (by kernel_rfl)) ?_
        refine (texts_any s0 s1 hl0 hl1 _).mono ?_
        rintro e W19 ⟨rfl,hb19⟩
        have hS19:=Kaa hS4 hb19
        refine ⟨_,rfl,.inr hS19,?_⟩
        simp only [Act.put,sA,sZ,sS]
        refine tk 20 30 (v:=.bool (!(ltB s0 s1))) rfl rfl (fun W hW=>Kam rfl rfl rfl (hge W)) ?_
        simp only [Act.put,sA,sZ,sS]
        refine tk 21 31 (v:=.bool (!(ltB s0 s1))) rfl rfl (fun W hW=>rfl) ?_
        simp only [Act.put,sA,sZ,sS]
        refine tk 22 32 (v:=.bool (!(ltB s0 s1))) rfl rfl (fun W hW=>rfl) ?_
        simp only [Act.put,sA,sZ,sS]
        refine done (by kernel_rfl) ?_ _
        have HB:=yh (Kaa HB1.out hS19)
        clear hi1 q1 hnm hB0 hgt hi0 q0 hl0 hl1 hsub hge hS hS4 hS19 hb19 HX
        simp only [hlb,Bool.not_true]
        go_wp2
        go_roundw
        case rel=>exact ⟨j + 1,hlt1,by go_num,yh ⟨HA.out,HN.out,HB.out⟩⟩
        case measure=>simp [intOf];omega
      | false =>
        have HN:=yh (HNR.out.1 hlb)
        go_wp2
        obtain ⟨hi1,q1,hnm,hB0,hgt,hi0,q0,hl0,hl1,hsub,hge⟩:=HX.out
        refine Kah (fun W=>Below wr.heap.size wr W) (by kernel_rfl) hB0 (fun hS=>?_)
        refine tk 0 10 (v:=.slice (some ⟨bk,ok,none⟩) l.length c) rfl rfl (fun W hW=>Kab rfl rfl) ?_
        simp only [Act.put,sA,sZ,sS]
        refine tk 1 11 (v:=.int .i64 (j : Int)) rfl rfl (fun W hW=>Kab rfl rfl) ?_
        simp only [Act.put,sA,sZ,sS]
        refine tk 2 12 (v:=.pointer (some ⟨bk,ok + j,none⟩)) rfl rfl (fun W hW=>Kaj rfl rfl rfl (hi1 W)) ?_
        simp only [Act.put,sA,sZ,sS]
        refine tk 3 13 (v:=.string (strB s1)) rfl rfl (fun W hW=>Kad rfl rfl (Kaf (w:=W) Tryz.underlying9 rfl (Kae hW (ltOf q1) q1))) ?_
        simp only [Act.put,sA,sZ,sS]
        refine Kao 4 14 rfl rfl (by kernel_rfl) rfl (Kan [.string (strB s1)] rfl rfl Tryz.func35 (by kernel_rfl) (by kernel_rfl)) ?_
        refine (hnm _).mono ?_
        rintro e W4 ⟨rfl,rfl⟩
        have hS4:=hS
        refine ⟨_,rfl,.inr hS4,?_⟩
        simp only [Act.put,sA,sZ,sS]
        refine tk 5 15 (v:=.bool false) rfl rfl (fun W hW=>Kap (b:=true) rfl rfl) ?_
        simp only [Act.put,sA,sZ,sS]
        refine tk 6 16 (v:=.bool false) rfl rfl (fun W hW=>Kab rfl rfl) ?_
        simp only [Act.put,sA,sZ,sS]
        refine tk 7 17 (v:=.int .i64 (j : Int)) rfl rfl (fun W hW=>Kab rfl rfl) ?_
        simp only [Act.put,sA,sZ,sS]
        refine tk 8 18 (v:=.bool true) rfl rfl (fun W hW=>Kam rfl rfl rfl (hgt W)) ?_
        simp only [Act.put,sA,sZ,sS]
        refine tk 9 19 (v:=.bool true) rfl rfl (fun W hW=>Kab rfl rfl) ?_
        simp only [Act.put,sA,sZ,sS]
        refine tk 10 20 (v:=.slice (some ⟨bk,ok,none⟩) l.length c) rfl rfl (fun W hW=>Kab rfl rfl) ?_
        simp only [Act.put,sA,sZ,sS]
        refine tk 11 21 (v:=.int .i64 (j : Int)) rfl rfl (fun W hW=>Kab rfl rfl) ?_
        simp only [Act.put,sA,sZ,sS]
        refine tk 12 22 (v:=.int .i64 ((j - 1 : Nat) : Int)) rfl rfl (fun W hW=>Kam rfl rfl rfl (hsub W)) ?_
        simp only [Act.put,sA,sZ,sS]
        refine tk 13 23 (v:=.pointer (some ⟨bk,ok + (j - 1),none⟩)) rfl rfl (fun W hW=>Kaj rfl rfl rfl (hi0 W)) ?_
        simp only [Act.put,sA,sZ,sS]
        refine tk 14 24 (v:=.string (strB s0)) rfl rfl (fun W hW=>Kad rfl rfl (Kaf (w:=W) Tryz.underlying9 rfl (Kae hW (ltOf q0) q0))) ?_
        simp only [Act.put,sA,sZ,sS]
        refine tk 15 25 (v:=.slice (some ⟨bk,ok,none⟩) l.length c) rfl rfl (fun W hW=>Kab rfl rfl) ?_
        simp only [Act.put,sA,sZ,sS]
        refine tk 16 26 (v:=.int .i64 (j : Int)) rfl rfl (fun W hW=>Kab rfl rfl) ?_
        simp only [Act.put,sA,sZ,sS]
        refine tk 17 27 (v:=.pointer (some ⟨bk,ok + j,none⟩)) rfl rfl (fun W hW=>Kaj rfl rfl rfl (hi1 W)) ?_
        simp only [Act.put,sA,sZ,sS]
        refine tk 18 28 (v:=.string (strB s1)) rfl rfl (fun W hW=>Kad rfl rfl (Kaf (w:=W) Tryz.underlying9 rfl (Kae hW (ltOf q1) q1))) ?_
        simp only [Act.put,sA,sZ,sS]
        refine Kao 19 29 rfl rfl (by kernel_rfl) rfl (Kan [.string (strB s0),.string (strB s1)] rfl rfl Tryz.func93 (by kernel_rfl) (by kernel_rfl)) ?_
        refine (texts_any s0 s1 hl0 hl1 _).mono ?_
        rintro e W19 ⟨rfl,hb19⟩
        have hS19:=Kaa hS4 hb19
        refine ⟨_,rfl,.inr hS19,?_⟩
        simp only [Act.put,sA,sZ,sS]
        refine tk 20 30 (v:=.bool (!(ltB s0 s1))) rfl rfl (fun W hW=>Kam rfl rfl rfl (hge W)) ?_
        simp only [Act.put,sA,sZ,sS]
        refine tk 21 31 (v:=.bool (!(ltB s0 s1))) rfl rfl (fun W hW=>rfl) ?_
        simp only [Act.put,sA,sZ,sS]
        refine tk 22 32 (v:=.bool (!(ltB s0 s1))) rfl rfl (fun W hW=>rfl) ?_
        simp only [Act.put,sA,sZ,sS]
        refine done (by kernel_rfl) ?_ _
        have HB:=yh (Kaa HB1.out hS19)
        clear hi1 q1 hnm hB0 hgt hi0 q0 hl0 hl1 hsub hge hS hS4 hS19 hb19 HX
        simp only [hlb,Bool.not_false]
        go_wp2
        go_ret
        exact ⟨Kak (by unfold Kc0;rw [HN.out,Bool.false_and]),HB.out⟩
  ·obtain rfl : j = l.length:=by omega
   have h1:=HI.out.1
   have h2:=HI.out.2.1
   rw [List.take_length] at h1 h2
   have HF:=yh (And.intro (show Kc0 l = true by unfold Kc0;rw [h1,h2];rfl) HI.out.2.2)
   clear HI h1 h2
   go_wp2
   go_ret
   exact ⟨Kak HF.out.1.symm,HF.out.2⟩
theorem refstor_any {v : V} {w : World} {x : Array Value} (hx : VRd w v x) (ht : totV v ≤ 1099511627776) : Calls Tryz.prog 94 #[.agg x] w fun e w'=>e = .returned (.bool (okSt v)) ∧ Below w.heap.size w w':=by
 have hb1:=Kai (w:=w) (.cells x 31)
 have hx1:=heap_alloc_new w (.cells x 31)
 have HC:=yh (checkR_any ht (hx.below hb1))
 have HST:=yh (fun (ho : okV v = true) W (g : Below (w.alloc (.cells x 31)).heap.size (w.alloc (.cells x 31)) W)=>storR_any ((hx.below hb1).below g) ho)
 have HX:=yh (And.intro hb1 hx1)
 have hbx : ∀ W : World,W.heap[w.heap.size]? = some (.cells x 31 (0,0)) → (loadVar 31 ⟨w.heap.size,0,none⟩).run Tryz.prog W = .ok (.agg x) W:=fun W hW=>Kc9.get (P:=Tryz.prog) (Kc7.size hx) hW
 have HL1:=yh (hbx _ hx1)
 have HLD:=yh hbx
 have hS:=(Kc7.ones hx)
 have hsz:=Kc7.size hx
 cases hok : decide (Kci Lib.validD v = 0) with
 | false =>
   have hne : ¬ Kci Lib.validD v = 0:=by simpa using hok
   have hov : okV v = false:=by unfold okV;rw [beq_eq_false_iff_ne];exact hne
   have HF:=yh (show okSt v = false by unfold okSt;rw [hov];rfl)
   generalize Kci Lib.validD v = ck at *
   clear hb1 hx1 hbx hS hx ht hok hov HST HLD
   go_enter Tryz.func94,Tryz.ntmps94
   go_wp2_with (first
    | ((with_reducible apply Kaq);exact HL1.out;exact rfl;clear HL1)
    | (go_at_call 83;refine HC.out.mono ?_;rintro e W2 ⟨rfl,hb⟩;have HB:=yh (Kaa HX.out.1 hb);clear hb))
   go_ret
   exact ⟨Kak HF.out.symm,HB.out⟩
 | true =>
   have he : Kci Lib.validD v = 0:=by simpa using hok
   have hov : okV v = true:=by unfold okV;rw [he];rfl
   have HF:=yh (show okSt v = storB v by unfold okSt;rw [hov];rfl)
   rw [he] at HC
   have HST2:=yh (HST.out hov)
   generalize storB v = sb at *
   clear hb1 hx1 hbx hS hx ht hok hov HST he
   go_enter Tryz.func94,Tryz.ntmps94
   go_wp2_with (first
    | ((with_reducible apply Kaq);exact HL1.out;exact rfl;clear HL1)
    | ((with_reducible apply Kco);exact HL2.out;exact rfl;exact rfl;clear HL2)
    | (go_at_call 83
       (
        refine HC.out.mono ?_
        rintro e W2 ⟨rfl,hb⟩
        have HB:=yh (Kaa HX.out.1 hb)
        have HL2:=yh (HLD.out W2 (Kal hb (by simp) HX.out.2))
        have HS2:=yh (HST2.out W2 hb)
        clear hb))
    | (go_at_call 136;refine HS2.out.mono ?_;rintro e W3 ⟨rfl,hb⟩;have HB3:=yh (Kaa HB.out hb);clear hb))
   go_ret
   exact ⟨Kak HF.out.symm,HB3.out⟩
theorem Kdl (b o : Nat) (W : World) : (Instr.fieldAt 47 (.pointer (some ⟨b,o,none⟩)) 0).run Tryz.prog W = .ok (.pointer (some ⟨b,o,none⟩)) W:=by simp [go_sem]
theorem fa_pr1 (b o : Nat) (W : World) : (Instr.fieldAt 47 (.pointer (some ⟨b,o,none⟩)) 1).run Tryz.prog W = .ok (.pointer (some ⟨b,o + 1,none⟩)) W:=by simp [go_sem]
theorem ia_prop {b o n len c : Nat} (h : n < len) (W : World) : (Instr.indexAt 27 (.slice (some ⟨b,o,none⟩) len c) (.int .i64 (n : Int))).run Tryz.prog W = .ok (.pointer (some ⟨b,o + n * 7,none⟩)) W:=by simp [go_sem,h]
theorem ia_node {b o n len c : Nat} (h : n < len) (W : World) : (Instr.indexAt 22 (.slice (some ⟨b,o,none⟩) len c) (.int .i64 (n : Int))).run Tryz.prog W = .ok (.pointer (some ⟨b,o + n * 3,none⟩)) W:=by simp [go_sem,h]
theorem ia_rel {b o n len c : Nat} (h : n < len) (W : World) : (Instr.indexAt 23 (.slice (some ⟨b,o,none⟩) len c) (.int .i64 (n : Int))).run Tryz.prog W = .ok (.pointer (some ⟨b,o + n * 5,none⟩)) W:=by simp [go_sem,h]
theorem sub_nat {j : Nat} (h0 : 0 < j) (hj : j ≤ 140737488355328) (W : World) : (binOp .sub 3 (.int .i64 (j : Int)) (.int .i64 1)).run Tryz.prog W = .ok (.int .i64 ((j - 1 : Nat) : Int)) W:=by
 have e1 : (j : Int) = ((j - 1 : Nat) : Int) + 1:=by omega
 rw [e1]
 exact sub_one (by omega) W
theorem gtr_nat {j : Nat} (W : World) : (binOp .gtr 3 (.int .i64 (j : Int)) (.int .i64 0)).run Tryz.prog W = .ok (.bool (decide (0 < j))) W:=by
 have e : decide ((0 : Int) < (j : Int)) = decide (0 < j):=by rw [Bool.eq_iff_iff];simp
 simp [go_sem]
theorem Kdr {w : World} {b o : Nat} {p : PropD} {cs : Array Value} (hv : PRd w p cs) (hc : ∀ (i : Nat) (u : Value),cs[i]? = some u → w.cell? ⟨b,o + i,none⟩ = some u) :
 w.cell? ⟨b,o,none⟩ = some (.string (strB p.key)) ∧ p.key.length ≤ 140737488355328 ∧ ∃ y,VRd w p.val y ∧ ∀ (i : Nat) (u : Value),y[i]? = some u → w.cell? ⟨b,o + 1 + i,none⟩ = some u:=by
 obtain ⟨y,rfl,h1,h2⟩:=hv
 refine ⟨hc 0 _ (by rw [Array.getElem?_append_left (by simp)];rfl),h1,y,h2,fun i u hu=>?_⟩
 have:=hc (1 + i) u (by rw [Array.getElem?_append_right (by simp)];simpa using hu)
 rw [← Nat.add_assoc] at this
 exact this
theorem refprops_any {w : World} {p : Option Addr} {c : Nat} {l : List PropD} (h : GRd PRd 7 w p c l) (ht : ∀ x ∈ l,totV x.val ≤ 1099511627776) : Calls Tryz.prog 34 #[.slice p l.length c] w fun e w'=>e = .returned (.bool (okPs l)) ∧ Below w.heap.size w w':=by
 have z1 : (l.length : Int) ≤ 140737488355328:=by have:=h.1.2.1;omega
 have H:=yh (And.intro h ht)
 clear h ht
 go_enter Tryz.func34,Tryz.ntmps34
 go_wp2
 go_loopw [3] (fun i W=>∃ j : Nat,j ≤ l.length ∧ i = .int .i64 (j : Int) ∧ Hid ((l.take j).all okP = true ∧ Kat ((l.map PropD.key).take j) = true ∧ Below w.heap.size w W)) (fun i _=>l.length - (intOf i).toNat)
 case atStart=>exact ⟨0,Nat.zero_le _,rfl,yh ⟨by simp,by simp [Kat],Below.refl _ _⟩⟩
 case round =>
  obtain ⟨j,hj,rfl,HI⟩:=hrel
  by_cases hlt : j < l.length
  ·have hlt1 : j + 1 ≤ l.length:=hlt
   have hRw:=H.out.1.below (fun h=>h.below HI.out.2.2) HI.out.2.2
   have htv:=H.out.2 l[j] (List.getElem_mem hlt)
   obtain ⟨bk,ok,cs,rfl,hcs,hcc,hv⟩:=hRw.get hlt
   obtain ⟨q1,hl1,y1,hv1,r1⟩:=Kdr hv hcc
   have hy1:=Kc7.size hv1
   have hi1 : ∀ W' : World,(Instr.indexAt 27 (.slice (some ⟨bk,ok,none⟩) l.length c) (.int .i64 (j : Int))).run Tryz.prog W' = .ok (.pointer (some ⟨bk,ok + j * 7,none⟩)) W':=fun W'=>ia_prop hlt W'
   have hall:=Kdz (f:=okP) hlt HI.out.1
   have hno:=okPs_no hlt
   have hop : okP l[j] = (okNm l[j].key && okSt l[j].val):=rfl
   rw [hop] at hall hno
   have hnm:=fun W=>refname_any (w:=W) l[j].key hl1
   have hst:=fun W (g : Below wr.heap.size wr W)=>refstor_any (w:=W) (hv1.below g) htv
   have hB0 : Below wr.heap.size wr wr.drew:=(Below.refl _ wr).drew
   have hk1 : (l.map PropD.key)[j]'(by simpa using hlt) = l[j].key:=List.getElem_map ..
   have hnr:=fun (h0 : 0 < j) (h : ltB (l[j - 1]'(by omega)).key l[j].key = false)=>risesB_no (l:=l.map PropD.key) h0 (by simpa using hlt) (by rw [List.getElem_map,List.getElem_map];exact h)
   have hmr:=fun (h0 : 0 < j) (h : ltB (l[j - 1]'(by omega)).key l[j].key = true)=>risesB_more (l:=l.map PropD.key) h0 (by simpa using hlt) HI.out.2.1 (by rw [List.getElem_map,List.getElem_map];exact h)
   clear hcs hcc hv hk1 hop
   cases hok : okNm l[j].key with
   | false =>
     have HF:=yh (And.intro (hno (by rw [hok];rfl)) HI.out.2.2)
     simp only [hok] at hnm
     clear hnr hmr
     generalize l[j].key = s1 at *
     have HX:=yh (And.intro hi1 (And.intro q1 (And.intro hnm hB0)))
     clear hi1 q1 hnm hB0 hall hno hRw HI hst hv1 r1 htv
     go_wp2
     obtain ⟨hi1,q1,hnm,hB0⟩:=HX.out
     refine Kah (fun W=>Below wr.heap.size wr W) (by kernel_rfl) hB0 (fun hS=>?_)
     refine tk 0 10 (v:=.slice (some ⟨bk,ok,none⟩) l.length c) rfl rfl (fun W hW=>Kab rfl rfl) ?_
     simp only [Act.put,sA,sZ,sS]
     refine tk 1 11 (v:=.int .i64 (j : Int)) rfl rfl (fun W hW=>Kab rfl rfl) ?_
     simp only [Act.put,sA,sZ,sS]
     refine tk 2 12 (v:=.pointer (some ⟨bk,ok + j * 7,none⟩)) rfl rfl (fun W hW=>Kaj rfl rfl rfl (hi1 W)) ?_
     simp only [Act.put,sA,sZ,sS]
     refine tk 3 13 (v:=.pointer (some ⟨bk,ok + j * 7,none⟩)) rfl rfl (fun W hW=>Kac rfl rfl (Kdl _ _ W)) ?_
     simp only [Act.put,sA,sZ,sS]
     refine tk 4 14 (v:=.string (strB s1)) rfl rfl (fun W hW=>Kad rfl rfl (Kaf (w:=W) Tryz.underlying9 rfl (Kae hW (ltOf q1) q1))) ?_
     simp only [Act.put,sA,sZ,sS]
     refine Kao 5 15 rfl rfl (by kernel_rfl) rfl (Kan [.string (strB s1)] rfl rfl Tryz.func35 (by kernel_rfl) (by kernel_rfl)) ?_
     refine (hnm _).mono ?_
     rintro e W5 ⟨rfl,rfl⟩
     have hS5:=hS
     refine ⟨_,rfl,.inr hS5,?_⟩
     simp only [Act.put,sA,sZ,sS]
     refine tk 6 16 (v:=.bool true) rfl rfl (fun W hW=>Kap (b:=false) rfl rfl) ?_
     simp only [Act.put,sA,sZ,sS]
     refine tk 7 17 (v:=.bool true) rfl rfl (fun W hW=>Kab rfl rfl) ?_
     simp only [Act.put,sA,sZ,sS]
     refine tn 8 18 rfl rfl ?_
     simp only [Act.put,sA,sZ,sS]
     refine tn 9 19 rfl rfl ?_
     simp only [Act.put,sA,sZ,sS]
     refine tn 10 20 rfl rfl ?_
     simp only [Act.put,sA,sZ,sS]
     refine tn 11 21 rfl rfl ?_
     simp only [Act.put,sA,sZ,sS]
     refine tn 12 22 rfl rfl ?_
     simp only [Act.put,sA,sZ,sS]
     refine Kau 13 23 rfl rfl (by kernel_rfl) rfl ?_ (.inr (by assumption))
     simp only [Act.put,sA,sZ,sS]
     refine tn 14 24 rfl rfl ?_
     simp only [Act.put,sA,sZ,sS]
     refine tk 15 25 (v:=.bool true) rfl rfl (fun W hW=>rfl) ?_
     simp only [Act.put,sA,sZ,sS]
     refine tk 16 26 (v:=.bool true) rfl rfl (fun W hW=>Kab rfl rfl) ?_
     simp only [Act.put,sA,sZ,sS]
     refine tn 17 27 rfl rfl ?_
     simp only [Act.put,sA,sZ,sS]
     refine tn 18 28 rfl rfl ?_
     simp only [Act.put,sA,sZ,sS]
     refine tn 19 29 rfl rfl ?_
     simp only [Act.put,sA,sZ,sS]
     refine tn 20 30 rfl rfl ?_
     simp only [Act.put,sA,sZ,sS]
     refine tn 21 31 rfl rfl ?_
     simp only [Act.put,sA,sZ,sS]
     refine tn 22 32 rfl rfl ?_
     simp only [Act.put,sA,sZ,sS]
     refine tn 23 33 rfl rfl ?_
     simp only [Act.put,sA,sZ,sS]
     refine tn 24 34 rfl rfl ?_
     simp only [Act.put,sA,sZ,sS]
     refine tn 25 35 rfl rfl ?_
     simp only [Act.put,sA,sZ,sS]
     refine tn 26 36 rfl rfl ?_
     simp only [Act.put,sA,sZ,sS]
     refine tn 27 37 rfl rfl ?_
     simp only [Act.put,sA,sZ,sS]
     refine tn 28 38 rfl rfl ?_
     simp only [Act.put,sA,sZ,sS]
     refine tn 29 39 rfl rfl ?_
     simp only [Act.put,sA,sZ,sS]
     refine tn 30 40 rfl rfl ?_
     simp only [Act.put,sA,sZ,sS]
     refine Kau 31 41 rfl rfl (by kernel_rfl) rfl ?_ (.inr (by assumption))
     simp only [Act.put,sA,sZ,sS]
     refine tn 32 42 rfl rfl ?_
     simp only [Act.put,sA,sZ,sS]
     refine tn 33 43 rfl rfl ?_
     simp only [Act.put,sA,sZ,sS]
     refine tk 34 44 (v:=.bool true) rfl rfl (fun W hW=>rfl) ?_
     simp only [Act.put,sA,sZ,sS]
     refine done (by kernel_rfl) ?_ _
     have HB:=yh hS5
     clear hi1 q1 hnm hB0 hS hS5 HX
     go_wp2
     go_ret
     exact ⟨Kak HF.out.1.symm,Kaa HF.out.2 HB.out⟩
   | true =>
     simp only [hok] at hnm
     cases hos : okSt l[j].val with
     | false =>
       have HF:=yh (And.intro (hno (by rw [hok,hos];rfl)) HI.out.2.2)
       simp only [hos] at hst
       clear hnr hmr
       generalize l[j].key = s1 at *
       have HX:=yh (And.intro hi1 (And.intro q1 (And.intro hnm (And.intro hB0 (And.intro hst (And.intro hy1 r1))))))
       clear hi1 q1 hnm hB0 hall hno hRw HI hst hv1 r1 htv hos hy1
       go_wp2
       obtain ⟨hi1,q1,hnm,hB0,hst,hy1,r1⟩:=HX.out
       refine Kah (fun W=>Below wr.heap.size wr W) (by kernel_rfl) hB0 (fun hS=>?_)
       refine tk 0 10 (v:=.slice (some ⟨bk,ok,none⟩) l.length c) rfl rfl (fun W hW=>Kab rfl rfl) ?_
       simp only [Act.put,sA,sZ,sS]
       refine tk 1 11 (v:=.int .i64 (j : Int)) rfl rfl (fun W hW=>Kab rfl rfl) ?_
       simp only [Act.put,sA,sZ,sS]
       refine tk 2 12 (v:=.pointer (some ⟨bk,ok + j * 7,none⟩)) rfl rfl (fun W hW=>Kaj rfl rfl rfl (hi1 W)) ?_
       simp only [Act.put,sA,sZ,sS]
       refine tk 3 13 (v:=.pointer (some ⟨bk,ok + j * 7,none⟩)) rfl rfl (fun W hW=>Kac rfl rfl (Kdl _ _ W)) ?_
       simp only [Act.put,sA,sZ,sS]
       refine tk 4 14 (v:=.string (strB s1)) rfl rfl (fun W hW=>Kad rfl rfl (Kaf (w:=W) Tryz.underlying9 rfl (Kae hW (ltOf q1) q1))) ?_
       simp only [Act.put,sA,sZ,sS]
       refine Kao 5 15 rfl rfl (by kernel_rfl) rfl (Kan [.string (strB s1)] rfl rfl Tryz.func35 (by kernel_rfl) (by kernel_rfl)) ?_
       refine (hnm _).mono ?_
       rintro e W5 ⟨rfl,rfl⟩
       have hS5:=hS
       refine ⟨_,rfl,.inr hS5,?_⟩
       simp only [Act.put,sA,sZ,sS]
       refine tk 6 16 (v:=.bool false) rfl rfl (fun W hW=>Kap (b:=true) rfl rfl) ?_
       simp only [Act.put,sA,sZ,sS]
       refine tk 7 17 (v:=.bool false) rfl rfl (fun W hW=>Kab rfl rfl) ?_
       simp only [Act.put,sA,sZ,sS]
       refine tk 8 18 (v:=.slice (some ⟨bk,ok,none⟩) l.length c) rfl rfl (fun W hW=>Kab rfl rfl) ?_
       simp only [Act.put,sA,sZ,sS]
       refine tk 9 19 (v:=.int .i64 (j : Int)) rfl rfl (fun W hW=>Kab rfl rfl) ?_
       simp only [Act.put,sA,sZ,sS]
       refine tk 10 20 (v:=.pointer (some ⟨bk,ok + j * 7,none⟩)) rfl rfl (fun W hW=>Kaj rfl rfl rfl (hi1 W)) ?_
       simp only [Act.put,sA,sZ,sS]
       refine tk 11 21 (v:=.pointer (some ⟨bk,ok + j * 7 + 1,none⟩)) rfl rfl (fun W hW=>Kac rfl rfl (fa_pr1 _ _ W)) ?_
       simp only [Act.put,sA,sZ,sS]
       refine tk 12 22 (v:=.agg y1) rfl rfl (fun W hW=>Kad rfl rfl (StT.load (P:=Tryz.prog) (W:=W) Kc9 hy1 fun i u hu=>Kae hW (ltOf (r1 i u hu)) (r1 i u hu))) ?_
       simp only [Act.put,sA,sZ,sS]
       refine Kao 13 23 rfl rfl (by kernel_rfl) rfl (Kan [.agg y1] rfl rfl Tryz.func94 (by kernel_rfl) (by kernel_rfl)) ?_
       refine (hst _ hS5).mono ?_
       rintro e W13 ⟨rfl,hb13⟩
       have hS13:=Kaa hS5 hb13
       refine ⟨_,rfl,.inr hS13,?_⟩
       simp only [Act.put,sA,sZ,sS]
       refine tk 14 24 (v:=.bool true) rfl rfl (fun W hW=>Kap (b:=false) rfl rfl) ?_
       simp only [Act.put,sA,sZ,sS]
       refine tk 15 25 (v:=.bool true) rfl rfl (fun W hW=>rfl) ?_
       simp only [Act.put,sA,sZ,sS]
       refine tk 16 26 (v:=.bool true) rfl rfl (fun W hW=>Kab rfl rfl) ?_
       simp only [Act.put,sA,sZ,sS]
       refine tn 17 27 rfl rfl ?_
       simp only [Act.put,sA,sZ,sS]
       refine tn 18 28 rfl rfl ?_
       simp only [Act.put,sA,sZ,sS]
       refine tn 19 29 rfl rfl ?_
       simp only [Act.put,sA,sZ,sS]
       refine tn 20 30 rfl rfl ?_
       simp only [Act.put,sA,sZ,sS]
       refine tn 21 31 rfl rfl ?_
       simp only [Act.put,sA,sZ,sS]
       refine tn 22 32 rfl rfl ?_
       simp only [Act.put,sA,sZ,sS]
       refine tn 23 33 rfl rfl ?_
       simp only [Act.put,sA,sZ,sS]
       refine tn 24 34 rfl rfl ?_
       simp only [Act.put,sA,sZ,sS]
       refine tn 25 35 rfl rfl ?_
       simp only [Act.put,sA,sZ,sS]
       refine tn 26 36 rfl rfl ?_
       simp only [Act.put,sA,sZ,sS]
       refine tn 27 37 rfl rfl ?_
       simp only [Act.put,sA,sZ,sS]
       refine tn 28 38 rfl rfl ?_
       simp only [Act.put,sA,sZ,sS]
       refine tn 29 39 rfl rfl ?_
       simp only [Act.put,sA,sZ,sS]
       refine tn 30 40 rfl rfl ?_
       simp only [Act.put,sA,sZ,sS]
       refine Kau 31 41 rfl rfl (by kernel_rfl) rfl ?_ (.inr (by assumption))
       simp only [Act.put,sA,sZ,sS]
       refine tn 32 42 rfl rfl ?_
       simp only [Act.put,sA,sZ,sS]
       refine tn 33 43 rfl rfl ?_
       simp only [Act.put,sA,sZ,sS]
       refine tk 34 44 (v:=.bool true) rfl rfl (fun W hW=>rfl) ?_
       simp only [Act.put,sA,sZ,sS]
       refine done (by kernel_rfl) ?_ _
       have HB:=yh hS13
       clear hi1 q1 hnm hB0 hS hS5 hS13 hb13 hst hy1 r1 HX
       go_wp2
       go_ret
       exact ⟨Kak HF.out.1.symm,Kaa HF.out.2 HB.out⟩
     | true =>
       have HA:=yh (hall (by rw [hok,hos];rfl))
       simp only [hos] at hst
       have hgt:=gtr_nat (j:=j)
       by_cases h0 : j = 0
       ·subst h0
        have HN:=yh (risesB_one (l:=l.map PropD.key) (by simpa using hlt))
        have HB1:=yh HI.out.2.2
        clear hnr hmr
        have hgt : ∀ W : World,(binOp .gtr 3 (.int .i64 ((0 : Nat) : Int)) (.int .i64 0)).run Tryz.prog W = .ok (.bool false) W:=fun W=>by simp [go_sem]
        generalize l[0].key = s1 at *
        have HX:=yh (And.intro hi1 (And.intro q1 (And.intro hnm (And.intro hB0 (And.intro hst (And.intro hy1 (And.intro r1 hgt)))))))
        clear hi1 q1 hnm hB0 hall hno hRw HI hst hv1 r1 htv hos hy1 hgt hok
        go_wp2
        obtain ⟨hi1,q1,hnm,hB0,hst,hy1,r1,hgt⟩:=HX.out
        refine Kah (fun W=>Below wr.heap.size wr W) (by kernel_rfl) hB0 (fun hS=>?_)
        refine tk 0 10 (v:=.slice (some ⟨bk,ok,none⟩) l.length c) rfl rfl (fun W hW=>Kab rfl rfl) ?_
        simp only [Act.put,sA,sZ,sS]
        refine tk 1 11 (v:=.int .i64 ((0 : Nat) : Int)) rfl rfl (fun W hW=>Kab rfl rfl) ?_
        simp only [Act.put,sA,sZ,sS]
        refine tk 2 12 (v:=.pointer (some ⟨bk,ok + 0 * 7,none⟩)) rfl rfl (fun W hW=>Kaj rfl rfl rfl (hi1 W)) ?_
        simp only [Act.put,sA,sZ,sS]
        refine tk 3 13 (v:=.pointer (some ⟨bk,ok + 0 * 7,none⟩)) rfl rfl (fun W hW=>Kac rfl rfl (Kdl _ _ W)) ?_
        simp only [Act.put,sA,sZ,sS]
        refine tk 4 14 (v:=.string (strB s1)) rfl rfl (fun W hW=>Kad rfl rfl (Kaf (w:=W) Tryz.underlying9 rfl (Kae hW (ltOf q1) q1))) ?_
        simp only [Act.put,sA,sZ,sS]
        refine Kao 5 15 rfl rfl (by kernel_rfl) rfl (Kan [.string (strB s1)] rfl rfl Tryz.func35 (by kernel_rfl) (by kernel_rfl)) ?_
        refine (hnm _).mono ?_
        rintro e W5 ⟨rfl,rfl⟩
        have hS5:=hS
        refine ⟨_,rfl,.inr hS5,?_⟩
        simp only [Act.put,sA,sZ,sS]
        refine tk 6 16 (v:=.bool false) rfl rfl (fun W hW=>Kap (b:=true) rfl rfl) ?_
        simp only [Act.put,sA,sZ,sS]
        refine tk 7 17 (v:=.bool false) rfl rfl (fun W hW=>Kab rfl rfl) ?_
        simp only [Act.put,sA,sZ,sS]
        refine tk 8 18 (v:=.slice (some ⟨bk,ok,none⟩) l.length c) rfl rfl (fun W hW=>Kab rfl rfl) ?_
        simp only [Act.put,sA,sZ,sS]
        refine tk 9 19 (v:=.int .i64 ((0 : Nat) : Int)) rfl rfl (fun W hW=>Kab rfl rfl) ?_
        simp only [Act.put,sA,sZ,sS]
        refine tk 10 20 (v:=.pointer (some ⟨bk,ok + 0 * 7,none⟩)) rfl rfl (fun W hW=>Kaj rfl rfl rfl (hi1 W)) ?_
        simp only [Act.put,sA,sZ,sS]
        refine tk 11 21 (v:=.pointer (some ⟨bk,ok + 0 * 7 + 1,none⟩)) rfl rfl (fun W hW=>Kac rfl rfl (fa_pr1 _ _ W)) ?_
        simp only [Act.put,sA,sZ,sS]
        refine tk 12 22 (v:=.agg y1) rfl rfl (fun W hW=>Kad rfl rfl (StT.load (P:=Tryz.prog) (W:=W) Kc9 hy1 fun i u hu=>Kae hW (ltOf (r1 i u hu)) (r1 i u hu))) ?_
        simp only [Act.put,sA,sZ,sS]
        refine Kao 13 23 rfl rfl (by kernel_rfl) rfl (Kan [.agg y1] rfl rfl Tryz.func94 (by kernel_rfl) (by kernel_rfl)) ?_
        refine (hst _ hS5).mono ?_
        rintro e W13 ⟨rfl,hb13⟩
        have hS13:=Kaa hS5 hb13
        refine ⟨_,rfl,.inr hS13,?_⟩
        simp only [Act.put,sA,sZ,sS]
        refine tk 14 24 (v:=.bool false) rfl rfl (fun W hW=>Kap (b:=true) rfl rfl) ?_
        simp only [Act.put,sA,sZ,sS]
        refine tk 15 25 (v:=.bool false) rfl rfl (fun W hW=>rfl) ?_
        simp only [Act.put,sA,sZ,sS]
        refine tk 16 26 (v:=.bool false) rfl rfl (fun W hW=>Kab rfl rfl) ?_
        simp only [Act.put,sA,sZ,sS]
        refine tk 17 27 (v:=.int .i64 ((0 : Nat) : Int)) rfl rfl (fun W hW=>Kab rfl rfl) ?_
        simp only [Act.put,sA,sZ,sS]
        refine tk 18 28 (v:=.bool false) rfl rfl (fun W hW=>Kam rfl rfl rfl (hgt W)) ?_
        simp only [Act.put,sA,sZ,sS]
        refine tk 19 29 (v:=.bool false) rfl rfl (fun W hW=>Kab rfl rfl) ?_
        simp only [Act.put,sA,sZ,sS]
        refine tn 20 30 rfl rfl ?_
        simp only [Act.put,sA,sZ,sS]
        refine tn 21 31 rfl rfl ?_
        simp only [Act.put,sA,sZ,sS]
        refine tn 22 32 rfl rfl ?_
        simp only [Act.put,sA,sZ,sS]
        refine tn 23 33 rfl rfl ?_
        simp only [Act.put,sA,sZ,sS]
        refine tn 24 34 rfl rfl ?_
        simp only [Act.put,sA,sZ,sS]
        refine tn 25 35 rfl rfl ?_
        simp only [Act.put,sA,sZ,sS]
        refine tn 26 36 rfl rfl ?_
        simp only [Act.put,sA,sZ,sS]
        refine tn 27 37 rfl rfl ?_
        simp only [Act.put,sA,sZ,sS]
        refine tn 28 38 rfl rfl ?_
        simp only [Act.put,sA,sZ,sS]
        refine tn 29 39 rfl rfl ?_
        simp only [Act.put,sA,sZ,sS]
        refine tn 30 40 rfl rfl ?_
        simp only [Act.put,sA,sZ,sS]
        refine Kau 31 41 rfl rfl (by kernel_rfl) rfl ?_ (.inr (by assumption))
        simp only [Act.put,sA,sZ,sS]
        refine tn 32 42 rfl rfl ?_
        simp only [Act.put,sA,sZ,sS]
        refine tk 33 43 (v:=.bool false) rfl rfl (fun W hW=>rfl) ?_
        simp only [Act.put,sA,sZ,sS]
        refine tk 34 44 (v:=.bool false) rfl rfl (fun W hW=>rfl) ?_
        simp only [Act.put,sA,sZ,sS]
        refine done (by kernel_rfl) ?_ _
        have HB:=yh (Kaa HB1.out hS13)
        clear hi1 q1 hnm hB0 hS hS5 hS13 hb13 hst hy1 r1 hgt HX
        go_wp2
        go_roundw
        case rel=>exact ⟨1,hlt1,by go_num,yh ⟨HA.out,HN.out,HB.out⟩⟩
        case measure=>simp [intOf];omega
       ·have h0' : 0 < j:=Nat.pos_of_ne_zero h0
        obtain ⟨bk2,ok2,cs0,e2,hcs0,hcc0,hv0⟩:=hRw.get (show j - 1 < l.length by omega)
        cases e2
        obtain ⟨q0,hl0,_,_,_⟩:=Kdr hv0 hcc0
        have hi0 : ∀ W' : World,(Instr.indexAt 27 (.slice (some ⟨bk,ok,none⟩) l.length c) (.int .i64 ((j - 1 : Nat) : Int))).run Tryz.prog W' = .ok (.pointer (some ⟨bk,ok + (j - 1) * 7,none⟩)) W':=fun W'=>ia_prop (by omega) W'
        have hgt : ∀ W : World,(binOp .gtr 3 (.int .i64 (j : Int)) (.int .i64 0)).run Tryz.prog W = .ok (.bool true) W:=fun W=>by rw [gtr_nat];simp [h0']
        have hsub:=sub_nat h0' (show j ≤ 140737488355328 by omega)
        have hge:=fun W=>geq_zero (cmpB (l[j - 1]'(by omega)).key l[j].key) W
        simp only [cmp_geq] at hge
        have HNR:=yh (And.intro (hnr h0') (hmr h0'))
        have HB1:=yh HI.out.2.2
        generalize (l[j - 1]'(by omega)).key = s0 at *
        generalize l[j].key = s1 at *
        have HX:=yh (And.intro hi1 (And.intro q1 (And.intro hnm (And.intro hB0 (And.intro hgt (And.intro hi0 (And.intro q0 (And.intro hl0 (And.intro hl1 (And.intro hsub (And.intro hge (And.intro hst (And.intro hy1 r1)))))))))))))
        clear hi1 q1 hnm hB0 hgt hi0 q0 hl0 hl1 hsub hge hall hno hRw HI hok h0 hnr hmr hst hv1 r1 htv hos hy1 hcs0 hcc0 hv0
        cases hlb : ltB s0 s1 with
        | true =>
          have HN:=yh (HNR.out.2 hlb)
          go_wp2
          obtain ⟨hi1,q1,hnm,hB0,hgt,hi0,q0,hl0,hl1,hsub,hge,hst,hy1,r1⟩:=HX.out
          refine Kah (fun W=>Below wr.heap.size wr W) (by kernel_rfl) hB0 (fun hS=>?_)
          refine tk 0 10 (v:=.slice (some ⟨bk,ok,none⟩) l.length c) rfl rfl (fun W hW=>Kab rfl rfl) ?_
          simp only [Act.put,sA,sZ,sS]
          refine tk 1 11 (v:=.int .i64 (j : Int)) rfl rfl (fun W hW=>Kab rfl rfl) ?_
          simp only [Act.put,sA,sZ,sS]
          refine tk 2 12 (v:=.pointer (some ⟨bk,ok + j * 7,none⟩)) rfl rfl (fun W hW=>Kaj rfl rfl rfl (hi1 W)) ?_
          simp only [Act.put,sA,sZ,sS]
          refine tk 3 13 (v:=.pointer (some ⟨bk,ok + j * 7,none⟩)) rfl rfl (fun W hW=>Kac rfl rfl (Kdl _ _ W)) ?_
          simp only [Act.put,sA,sZ,sS]
          refine tk 4 14 (v:=.string (strB s1)) rfl rfl (fun W hW=>Kad rfl rfl (Kaf (w:=W) Tryz.underlying9 rfl (Kae hW (ltOf q1) q1))) ?_
          simp only [Act.put,sA,sZ,sS]
          refine Kao 5 15 rfl rfl (by kernel_rfl) rfl (Kan [.string (strB s1)] rfl rfl Tryz.func35 (by kernel_rfl) (by kernel_rfl)) ?_
          refine (hnm _).mono ?_
          rintro e W5 ⟨rfl,rfl⟩
          have hS5:=hS
          refine ⟨_,rfl,.inr hS5,?_⟩
          simp only [Act.put,sA,sZ,sS]
          refine tk 6 16 (v:=.bool false) rfl rfl (fun W hW=>Kap (b:=true) rfl rfl) ?_
          simp only [Act.put,sA,sZ,sS]
          refine tk 7 17 (v:=.bool false) rfl rfl (fun W hW=>Kab rfl rfl) ?_
          simp only [Act.put,sA,sZ,sS]
          refine tk 8 18 (v:=.slice (some ⟨bk,ok,none⟩) l.length c) rfl rfl (fun W hW=>Kab rfl rfl) ?_
          simp only [Act.put,sA,sZ,sS]
          refine tk 9 19 (v:=.int .i64 (j : Int)) rfl rfl (fun W hW=>Kab rfl rfl) ?_
          simp only [Act.put,sA,sZ,sS]
          refine tk 10 20 (v:=.pointer (some ⟨bk,ok + j * 7,none⟩)) rfl rfl (fun W hW=>Kaj rfl rfl rfl (hi1 W)) ?_
          simp only [Act.put,sA,sZ,sS]
          refine tk 11 21 (v:=.pointer (some ⟨bk,ok + j * 7 + 1,none⟩)) rfl rfl (fun W hW=>Kac rfl rfl (fa_pr1 _ _ W)) ?_
          simp only [Act.put,sA,sZ,sS]
          refine tk 12 22 (v:=.agg y1) rfl rfl (fun W hW=>Kad rfl rfl (StT.load (P:=Tryz.prog) (W:=W) Kc9 hy1 fun i u hu=>Kae hW (ltOf (r1 i u hu)) (r1 i u hu))) ?_
          simp only [Act.put,sA,sZ,sS]
          refine Kao 13 23 rfl rfl (by kernel_rfl) rfl (Kan [.agg y1] rfl rfl Tryz.func94 (by kernel_rfl) (by kernel_rfl)) ?_
          refine (hst _ hS5).mono ?_
          rintro e W13 ⟨rfl,hb13⟩
          have hS13:=Kaa hS5 hb13
          refine ⟨_,rfl,.inr hS13,?_⟩
          simp only [Act.put,sA,sZ,sS]
          refine tk 14 24 (v:=.bool false) rfl rfl (fun W hW=>Kap (b:=true) rfl rfl) ?_
          simp only [Act.put,sA,sZ,sS]
          refine tk 15 25 (v:=.bool false) rfl rfl (fun W hW=>rfl) ?_
          simp only [Act.put,sA,sZ,sS]
          refine tk 16 26 (v:=.bool false) rfl rfl (fun W hW=>Kab rfl rfl) ?_
          simp only [Act.put,sA,sZ,sS]
          refine tk 17 27 (v:=.int .i64 (j : Int)) rfl rfl (fun W hW=>Kab rfl rfl) ?_
          simp only [Act.put,sA,sZ,sS]
          refine tk 18 28 (v:=.bool true) rfl rfl (fun W hW=>Kam rfl rfl rfl (hgt W)) ?_
          simp only [Act.put,sA,sZ,sS]
          refine tk 19 29 (v:=.bool true) rfl rfl (fun W hW=>Kab rfl rfl) ?_
          simp only [Act.put,sA,sZ,sS]
          refine tk 20 30 (v:=.slice (some ⟨bk,ok,none⟩) l.length c) rfl rfl (fun W hW=>Kab rfl rfl) ?_
          simp only [Act.put,sA,sZ,sS]
          refine tk 21 31 (v:=.int .i64 (j : Int)) rfl rfl (fun W hW=>Kab rfl rfl) ?_
          simp only [Act.put,sA,sZ,sS]
          refine tk 22 32 (v:=.int .i64 ((j - 1 : Nat) : Int)) rfl rfl (fun W hW=>Kam rfl rfl rfl (hsub W)) ?_
          simp only [Act.put,sA,sZ,sS]
          refine tk 23 33 (v:=.pointer (some ⟨bk,ok + (j - 1) * 7,none⟩)) rfl rfl (fun W hW=>Kaj rfl rfl rfl (hi0 W)) ?_
          simp only [Act.put,sA,sZ,sS]
          refine tk 24 34 (v:=.pointer (some ⟨bk,ok + (j - 1) * 7,none⟩)) rfl rfl (fun W hW=>Kac rfl rfl (Kdl _ _ W)) ?_
          simp only [Act.put,sA,sZ,sS]
          refine tk 25 35 (v:=.string (strB s0)) rfl rfl (fun W hW=>Kad rfl rfl (Kaf (w:=W) Tryz.underlying9 rfl (Kae hW (ltOf q0) q0))) ?_
          simp only [Act.put,sA,sZ,sS]
          refine tk 26 36 (v:=.slice (some ⟨bk,ok,none⟩) l.length c) rfl rfl (fun W hW=>Kab rfl rfl) ?_
          simp only [Act.put,sA,sZ,sS]
          refine tk 27 37 (v:=.int .i64 (j : Int)) rfl rfl (fun W hW=>Kab rfl rfl) ?_
          simp only [Act.put,sA,sZ,sS]
          refine tk 28 38 (v:=.pointer (some ⟨bk,ok + j * 7,none⟩)) rfl rfl (fun W hW=>Kaj rfl rfl rfl (hi1 W)) ?_
          simp only [Act.put,sA,sZ,sS]
          refine tk 29 39 (v:=.pointer (some ⟨bk,ok + j * 7,none⟩)) rfl rfl (fun W hW=>Kac rfl rfl (Kdl _ _ W)) ?_
          simp only [Act.put,sA,sZ,sS]
          refine tk 30 40 (v:=.string (strB s1)) rfl rfl (fun W hW=>Kad rfl rfl (Kaf (w:=W) Tryz.underlying9 rfl (Kae hW (ltOf q1) q1))) ?_
          simp only [Act.put,sA,sZ,sS]
          refine Kao 31 41 rfl rfl (by kernel_rfl) rfl (Kan [.string (strB s0),.string (strB s1)] rfl rfl Tryz.func93 (by kernel_rfl) (by kernel_rfl)) ?_
          refine (texts_any s0 s1 hl0 hl1 _).mono ?_
          rintro e W31 ⟨rfl,hb31⟩
          have hS31:=Kaa hS13 hb31
          refine ⟨_,rfl,.inr hS31,?_⟩
          simp only [Act.put,sA,sZ,sS]
          refine tk 32 42 (v:=.bool (!(ltB s0 s1))) rfl rfl (fun W hW=>Kam rfl rfl rfl (hge W)) ?_
          simp only [Act.put,sA,sZ,sS]
          refine tk 33 43 (v:=.bool (!(ltB s0 s1))) rfl rfl (fun W hW=>rfl) ?_
          simp only [Act.put,sA,sZ,sS]
          refine tk 34 44 (v:=.bool (!(ltB s0 s1))) rfl rfl (fun W hW=>rfl) ?_
          simp only [Act.put,sA,sZ,sS]
          refine done (by kernel_rfl) ?_ _
          have HB:=yh (Kaa HB1.out hS31)
          clear hi1 q1 hnm hB0 hgt hi0 q0 hl0 hl1 hsub hge hst hy1 r1 hS hS5 hS13 hS31 hb13 hb31 HX
          simp only [hlb,Bool.not_true]
          go_wp2
          go_roundw
          case rel=>exact ⟨j + 1,hlt1,by go_num,yh ⟨HA.out,HN.out,HB.out⟩⟩
          case measure=>simp [intOf];omega
        | false =>
          have HN:=yh (HNR.out.1 hlb)
          go_wp2
          obtain ⟨hi1,q1,hnm,hB0,hgt,hi0,q0,hl0,hl1,hsub,hge,hst,hy1,r1⟩:=HX.out
          refine Kah (fun W=>Below wr.heap.size wr W) (by kernel_rfl) hB0 (fun hS=>?_)
          refine tk 0 10 (v:=.slice (some ⟨bk,ok,none⟩) l.length c) rfl rfl (fun W hW=>Kab rfl rfl) ?_
          simp only [Act.put,sA,sZ,sS]
          refine tk 1 11 (v:=.int .i64 (j : Int)) rfl rfl (fun W hW=>Kab rfl rfl) ?_
          simp only [Act.put,sA,sZ,sS]
          refine tk 2 12 (v:=.pointer (some ⟨bk,ok + j * 7,none⟩)) rfl rfl (fun W hW=>Kaj rfl rfl rfl (hi1 W)) ?_
          simp only [Act.put,sA,sZ,sS]
          refine tk 3 13 (v:=.pointer (some ⟨bk,ok + j * 7,none⟩)) rfl rfl (fun W hW=>Kac rfl rfl (Kdl _ _ W)) ?_
          simp only [Act.put,sA,sZ,sS]
          refine tk 4 14 (v:=.string (strB s1)) rfl rfl (fun W hW=>Kad rfl rfl (Kaf (w:=W) Tryz.underlying9 rfl (Kae hW (ltOf q1) q1))) ?_
          simp only [Act.put,sA,sZ,sS]
          refine Kao 5 15 rfl rfl (by kernel_rfl) rfl (Kan [.string (strB s1)] rfl rfl Tryz.func35 (by kernel_rfl) (by kernel_rfl)) ?_
          refine (hnm _).mono ?_
          rintro e W5 ⟨rfl,rfl⟩
          have hS5:=hS
          refine ⟨_,rfl,.inr hS5,?_⟩
          simp only [Act.put,sA,sZ,sS]
          refine tk 6 16 (v:=.bool false) rfl rfl (fun W hW=>Kap (b:=true) rfl rfl) ?_
          simp only [Act.put,sA,sZ,sS]
          refine tk 7 17 (v:=.bool false) rfl rfl (fun W hW=>Kab rfl rfl) ?_
          simp only [Act.put,sA,sZ,sS]
          refine tk 8 18 (v:=.slice (some ⟨bk,ok,none⟩) l.length c) rfl rfl (fun W hW=>Kab rfl rfl) ?_
          simp only [Act.put,sA,sZ,sS]
          refine tk 9 19 (v:=.int .i64 (j : Int)) rfl rfl (fun W hW=>Kab rfl rfl) ?_
          simp only [Act.put,sA,sZ,sS]
          refine tk 10 20 (v:=.pointer (some ⟨bk,ok + j * 7,none⟩)) rfl rfl (fun W hW=>Kaj rfl rfl rfl (hi1 W)) ?_
          simp only [Act.put,sA,sZ,sS]
          refine tk 11 21 (v:=.pointer (some ⟨bk,ok + j * 7 + 1,none⟩)) rfl rfl (fun W hW=>Kac rfl rfl (fa_pr1 _ _ W)) ?_
          simp only [Act.put,sA,sZ,sS]
          refine tk 12 22 (v:=.agg y1) rfl rfl (fun W hW=>Kad rfl rfl (StT.load (P:=Tryz.prog) (W:=W) Kc9 hy1 fun i u hu=>Kae hW (ltOf (r1 i u hu)) (r1 i u hu))) ?_
          simp only [Act.put,sA,sZ,sS]
          refine Kao 13 23 rfl rfl (by kernel_rfl) rfl (Kan [.agg y1] rfl rfl Tryz.func94 (by kernel_rfl) (by kernel_rfl)) ?_
          refine (hst _ hS5).mono ?_
          rintro e W13 ⟨rfl,hb13⟩
          have hS13:=Kaa hS5 hb13
          refine ⟨_,rfl,.inr hS13,?_⟩
          simp only [Act.put,sA,sZ,sS]
          refine tk 14 24 (v:=.bool false) rfl rfl (fun W hW=>Kap (b:=true) rfl rfl) ?_
          simp only [Act.put,sA,sZ,sS]
          refine tk 15 25 (v:=.bool false) rfl rfl (fun W hW=>rfl) ?_
          simp only [Act.put,sA,sZ,sS]
          refine tk 16 26 (v:=.bool false) rfl rfl (fun W hW=>Kab rfl rfl) ?_
          simp only [Act.put,sA,sZ,sS]
          refine tk 17 27 (v:=.int .i64 (j : Int)) rfl rfl (fun W hW=>Kab rfl rfl) ?_
          simp only [Act.put,sA,sZ,sS]
          refine tk 18 28 (v:=.bool true) rfl rfl (fun W hW=>Kam rfl rfl rfl (hgt W)) ?_
          simp only [Act.put,sA,sZ,sS]
          refine tk 19 29 (v:=.bool true) rfl rfl (fun W hW=>Kab rfl rfl) ?_
          simp only [Act.put,sA,sZ,sS]
          refine tk 20 30 (v:=.slice (some ⟨bk,ok,none⟩) l.length c) rfl rfl (fun W hW=>Kab rfl rfl) ?_
          simp only [Act.put,sA,sZ,sS]
          refine tk 21 31 (v:=.int .i64 (j : Int)) rfl rfl (fun W hW=>Kab rfl rfl) ?_
          simp only [Act.put,sA,sZ,sS]
          refine tk 22 32 (v:=.int .i64 ((j - 1 : Nat) : Int)) rfl rfl (fun W hW=>Kam rfl rfl rfl (hsub W)) ?_
          simp only [Act.put,sA,sZ,sS]
          refine tk 23 33 (v:=.pointer (some ⟨bk,ok + (j - 1) * 7,none⟩)) rfl rfl (fun W hW=>Kaj rfl rfl rfl (hi0 W)) ?_
          simp only [Act.put,sA,sZ,sS]
          refine tk 24 34 (v:=.pointer (some ⟨bk,ok + (j - 1) * 7,none⟩)) rfl rfl (fun W hW=>Kac rfl rfl (Kdl _ _ W)) ?_
          simp only [Act.put,sA,sZ,sS]
          refine tk 25 35 (v:=.string (strB s0)) rfl rfl (fun W hW=>Kad rfl rfl (Kaf (w:=W) Tryz.underlying9 rfl (Kae hW (ltOf q0) q0))) ?_
          simp only [Act.put,sA,sZ,sS]
          refine tk 26 36 (v:=.slice (some ⟨bk,ok,none⟩) l.length c) rfl rfl (fun W hW=>Kab rfl rfl) ?_
          simp only [Act.put,sA,sZ,sS]
          refine tk 27 37 (v:=.int .i64 (j : Int)) rfl rfl (fun W hW=>Kab rfl rfl) ?_
          simp only [Act.put,sA,sZ,sS]
          refine tk 28 38 (v:=.pointer (some ⟨bk,ok + j * 7,none⟩)) rfl rfl (fun W hW=>Kaj rfl rfl rfl (hi1 W)) ?_
          simp only [Act.put,sA,sZ,sS]
          refine tk 29 39 (v:=.pointer (some ⟨bk,ok + j * 7,none⟩)) rfl rfl (fun W hW=>Kac rfl rfl (Kdl _ _ W)) ?_
          simp only [Act.put,sA,sZ,sS]
          refine tk 30 40 (v:=.string (strB s1)) rfl rfl (fun W hW=>Kad rfl rfl (Kaf (w:=W) Tryz.underlying9 rfl (Kae hW (ltOf q1) q1))) ?_
          simp only [Act.put,sA,sZ,sS]
          refine Kao 31 41 rfl rfl (by kernel_rfl) rfl (Kan [.string (strB s0),.string (strB s1)] rfl rfl Tryz.func93 (by kernel_rfl) (by kernel_rfl)) ?_
          refine (texts_any s0 s1 hl0 hl1 _).mono ?_
          rintro e W31 ⟨rfl,hb31⟩
          have hS31:=Kaa hS13 hb31
          refine ⟨_,rfl,.inr hS31,?_⟩
          simp only [Act.put,sA,sZ,sS]
          refine tk 32 42 (v:=.bool (!(ltB s0 s1))) rfl rfl (fun W hW=>Kam rfl rfl rfl (hge W)) ?_
          simp only [Act.put,sA,sZ,sS]
          refine tk 33 43 (v:=.bool (!(ltB s0 s1))) rfl rfl (fun W hW=>rfl) ?_
          simp only [Act.put,sA,sZ,sS]
          refine tk 34 44 (v:=.bool (!(ltB s0 s1))) rfl rfl (fun W hW=>rfl) ?_
          simp only [Act.put,sA,sZ,sS]
          refine done (by kernel_rfl) ?_ _
          have HB:=yh (Kaa HB1.out hS31)
          clear hi1 q1 hnm hB0 hgt hi0 q0 hl0 hl1 hsub hge hst hy1 r1 hS hS5 hS13 hS31 hb13 hb31 HX
          simp only [hlb,Bool.not_false]
          go_wp2
          go_ret
          exact ⟨Kak (by rw [okPs_eq,HN.out,Bool.and_false]),HB.out⟩
  ·obtain rfl : j = l.length:=by omega
   have h1:=HI.out.1
   have h2:=HI.out.2.1
   rw [List.take_length] at h1
   rw [List.take_of_length_le (by simp)] at h2
   have HF:=yh (And.intro (show okPs l = true by rw [okPs_eq,h1,h2];rfl) HI.out.2.2)
   clear HI h1 h2
   go_wp2
   go_ret
   exact ⟨Kak HF.out.1.symm,HF.out.2⟩
def findAt (l : List Int) (x : Int) : Int:=match l.findIdx? (· == x) with
 | some i=>(i : Int)
 | none=>-1
theorem findAt_hit {l : List Int} {x : Int} {j : Nat} (hj : j < l.length) (h1 : x ∉ l.take j) (h2 : l[j] = x) : findAt l x = (j : Int):=by
 unfold findAt
 have : l.findIdx? (· == x) = some j:=by
  rw [List.findIdx?_eq_some_iff_getElem]
  refine ⟨hj,by simp [h2],fun i hi=>?_⟩
  have : l[i] ≠ x:=fun e=>h1 (by rw [List.mem_take_iff_getElem];exact ⟨i,by omega,e⟩)
  simp [this]
 rw [this]
theorem findAt_none {l : List Int} {x : Int} (h : x ∉ l) : findAt l x = -1:=by
 unfold findAt
 have : l.findIdx? (· == x) = none:=by
  rw [List.findIdx?_eq_none_iff]
  intro y hy
  have : y ≠ x:=fun e=>h (by rw [← e];exact hy)
  simp [this]
 rw [this]
theorem findAt_neg (l : List Int) (x : Int) : decide (findAt l x < 0) = !(l.any (· == x)):=by
 by_cases h : x ∈ l
 ·have h1 : l.any (· == x) = true:=by rw [List.any_eq_true];exact ⟨x,h,by simp⟩
  rw [h1]
  unfold findAt
  cases e : l.findIdx? (· == x) with
  | none =>
    rw [List.findIdx?_eq_none_iff] at e
    have:=e x h
    simp at this
  | some i=>simp
 ·have h1 : l.any (· == x) = false:=by
   rw [List.any_eq_false]
   intro y hy e
   have e : y = x:=by simpa using e
   exact h (by rw [← e];exact hy)
  rw [h1,findAt_none h]
  rfl
theorem take_no {l : List Int} {x : Int} {j : Nat} (hj : j < l.length) (h1 : x ∉ l.take j) (h2 : l[j] ≠ x) : x ∉ l.take (j + 1):=by
 rw [List.take_succ_eq_append_getElem hj,List.mem_append,List.mem_singleton]
 rintro (h | h)
 ·exact h1 h
 ·exact h2 h.symm
theorem reffind_any {w : World} {g : GraphD} {x : Array Value} (h : GrRd w g x) (i : Int) : Calls Tryz.prog 36 #[.agg x,.int .i64 i] w fun e w'=>e = .returned (.int .i64 (findAt (g.nodes.map NodeD.id) i)) ∧ Below w.heap.size w w':=by
 obtain ⟨pn,cn,pr,cr,rfl,hn,hr⟩:=h
 have hb1:=Kai (w:=w) (.cells #[.slice pn g.nodes.length cn,.slice pr g.rels.length cr,.int .i64 g.nextNode,.int .i64 g.nextRel] 25)
 have hx1:=heap_alloc_new w (.cells #[.slice pn g.nodes.length cn,.slice pr g.rels.length cr,.int .i64 g.nextNode,.int .i64 g.nextRel] 25)
 have p0 : (w.alloc (.cells #[.slice pn g.nodes.length cn,.slice pr g.rels.length cr,.int .i64 g.nextNode,.int .i64 g.nextRel] 25)).cell? ⟨w.heap.size,0,none⟩ = some (.slice pn g.nodes.length cn):=Kag (o:=0) hx1 rfl
 have hl:=hn.below (fun h=>h.below hb1) hb1
 have z1 : (g.nodes.length : Int) ≤ 140737488355328:=by have:=hl.1.2.1;omega
 have H:=yh (And.intro hl hb1)
 clear hn hr hb1 hx1 hl
 go_enter Tryz.func36,Tryz.ntmps36
 go_wp2
 generalize w.alloc (.cells #[.slice pn g.nodes.length cn,.slice pr g.rels.length cr,.int .i64 g.nextNode,.int .i64 g.nextRel] 25) = w1 at *
 go_loopw [5] (fun k W=>∃ j : Nat,j ≤ g.nodes.length ∧ k = .int .i64 (j : Int) ∧ Hid (i ∉ (g.nodes.map NodeD.id).take j) ∧ W = w1) (fun k _=>g.nodes.length - (intOf k).toNat)
 case atStart=>exact ⟨0,Nat.zero_le _,rfl,yh (by simp),rfl⟩
 case round =>
  obtain ⟨j,hj,rfl,HI,rfl⟩:=hrel
  by_cases hlt : j < g.nodes.length
  ·have hlt1 : j + 1 ≤ g.nodes.length:=hlt
   obtain ⟨bk,ok,cs,hp,hcs,hcc,hv⟩:=H.out.1.get hlt
   have q1 : wr.cell? ⟨bk,ok + j * 3,none⟩ = some (.int .i64 g.nodes[j].id):=hcc 0 _ (by obtain ⟨_,_,_,_,e,_⟩:=hv;rw [e];rfl)
   have hm : (g.nodes.map NodeD.id)[j]'(by simpa using hlt) = g.nodes[j].id:=List.getElem_map ..
   have hhit:=findAt_hit (l:=g.nodes.map NodeD.id) (x:=i) (j:=j) (by simpa using hlt) HI.out
   have hmiss:=take_no (l:=g.nodes.map NodeD.id) (x:=i) (j:=j) (by simpa using hlt) HI.out
   rw [hm] at hhit hmiss
   have HM:=yh (And.intro hhit hmiss)
   clear hm hhit hmiss hv hcc hcs
   generalize g.nodes[j].id = id at *
   subst hp
   by_cases he : id = i
   ·have HF:=yh (HM.out.1 he)
    subst he
    clear HM
    go_wp2
    go_ret
    exact ⟨Kcr HF.out.symm,H.out.2⟩
   ·have HN:=yh (HM.out.2 he)
    have heq : (id == i) = false:=by rw [beq_eq_false_iff_ne];exact he
    clear HM
    go_wp2
    go_roundw
    case rel=>exact ⟨j + 1,hlt1,by go_num,HN,trivial⟩
    case measure=>simp [intOf];omega
  ·obtain rfl : j = g.nodes.length:=by omega
   have hq:=HI.out
   rw [List.take_of_length_le (by simp)] at hq
   have HF:=yh (findAt_none hq)
   clear hq
   go_wp2
   go_ret
   exact ⟨Kcr HF.out.symm,H.out.2⟩
theorem fa_gr (i : Nat) (h : i < 4) (b : Nat) (W : World) : (Instr.fieldAt 25 (.pointer (some ⟨b,0,none⟩)) i).run Tryz.prog W = .ok (.pointer (some ⟨b,i,none⟩)) W:=by
 match i,h with
 | 0,_=>simp [go_sem]
 | 1,_=>simp [go_sem]
 | 2,_=>simp [go_sem]
 | 3,_=>simp [go_sem]
theorem fa_nd (i : Nat) (h : i < 3) (b : Nat) (W : World) : (Instr.fieldAt 45 (.pointer (some ⟨b,0,none⟩)) i).run Tryz.prog W = .ok (.pointer (some ⟨b,i,none⟩)) W:=by
 match i,h with
 | 0,_=>simp [go_sem]
 | 1,_=>simp [go_sem]
 | 2,_=>simp [go_sem]
theorem fa_rl (i : Nat) (h : i < 5) (b : Nat) (W : World) : (Instr.fieldAt 49 (.pointer (some ⟨b,0,none⟩)) i).run Tryz.prog W = .ok (.pointer (some ⟨b,i,none⟩)) W:=by
 match i,h with
 | 0,_=>simp [go_sem]
 | 1,_=>simp [go_sem]
 | 2,_=>simp [go_sem]
 | 3,_=>simp [go_sem]
 | 4,_=>simp [go_sem]
theorem fa_ndO (b o : Nat) (W : World) : (Instr.fieldAt 45 (.pointer (some ⟨b,o,none⟩)) 0).run Tryz.prog W = .ok (.pointer (some ⟨b,o,none⟩)) W:=by simp [go_sem]
theorem fa_rlO (b o : Nat) (W : World) : (Instr.fieldAt 49 (.pointer (some ⟨b,o,none⟩)) 0).run Tryz.prog W = .ok (.pointer (some ⟨b,o,none⟩)) W:=by simp [go_sem]
theorem lss_i (n m : Int) (W : World) : (binOp .lss 2 (.int .i64 n) (.int .i64 m)).run Tryz.prog W = .ok (.bool (decide (n < m))) W:=by simp [go_sem]
theorem geq_i (n m : Int) (W : World) : (binOp .geq 2 (.int .i64 n) (.int .i64 m)).run Tryz.prog W = .ok (.bool (decide (m ≤ n))) W:=by simp [go_sem]
theorem lss_0 (n : Int) (W : World) : (binOp .lss 3 (.int .i64 n) (.int .i64 0)).run Tryz.prog W = .ok (.bool (decide (n < 0))) W:=by simp [go_sem]
def okNsP (g : GraphD) (j : Nat) : Bool:=((g.nodes.take j).all fun n=>okN n && decide (n.id < g.nextNode)) && Ka7 ((g.nodes.take j).map NodeD.id)
def okRsP (g : GraphD) (j : Nat) : Bool:=((g.rels.take j).all fun r=>okR r && decide (r.id < g.nextRel) && hasN g r.src && hasN g r.dst) && Ka7 ((g.rels.take j).map RelD.id)
theorem risesI_cut : ∀ (l m : List Int),Ka7 (l ++ m) = true → Ka7 l = true
 | [],m,_=>rfl
 | [a],m,_=>rfl
 | a :: b :: l,m,h=>by
   simp only [List.cons_append,Ka7,Bool.and_eq_true] at h ⊢
   exact ⟨h.1,risesI_cut (b :: l) m h.2⟩
theorem risesI_snoc : ∀ {l : List Int} {x : Int},Ka7 (l ++ [x]) = (Ka7 l && !(match l.getLast? with | some y=>decide (x ≤ y) | none=>false))
 | [],x=>rfl
 | [a],x=>by
   simp only [List.cons_append,List.nil_append,Ka7,List.getLast?_singleton,Bool.true_and,Bool.and_true]
   rw [Bool.eq_iff_iff];simp
 | a :: b :: l,x=>by
   have ih:=risesI_snoc (l:=b :: l) (x:=x)
   simp only [List.cons_append] at ih
   simp only [List.cons_append,Ka7,ih,List.getLast?_cons_cons,Bool.and_assoc]
theorem getLast_take {l : List Int} {j : Nat} (h0 : 0 < j) (hj : j ≤ l.length) : (l.take j).getLast? = some (l[j - 1]'(by omega)):=by
 rw [List.getLast?_eq_getElem?,List.length_take,List.getElem?_take]
 have e : min j l.length - 1 = j - 1:=by omega
 rw [e,if_pos (by omega),List.getElem?_eq_getElem (by omega)]
theorem okNsP_step {g : GraphD} {j : Nat} (hj : j < g.nodes.length) (b4 : Bool) (h4 : 0 < j → b4 = decide (g.nodes[j].id ≤ (g.nodes[j - 1]'(by omega)).id)) :
 okNsP g (j + 1) = (okNsP g j && (!(decide (g.nodes[j].id < 0)) && !(decide (g.nextNode ≤ g.nodes[j].id)) && !(decide (0 < j) && b4) && Kc0 g.nodes[j].labels && okPs g.nodes[j].props)):=by
 unfold okNsP
 rw [List.take_succ_eq_append_getElem hj,List.all_append,List.map_append,List.map_cons,List.map_nil,risesI_snoc]
 have hl : (match ((g.nodes.take j).map NodeD.id).getLast? with | some y=>decide (g.nodes[j].id ≤ y) | none=>false) = (decide (0 < j) && b4):=by
  by_cases h0 : 0 < j
  ·rw [List.map_take,getLast_take h0 (by simp;omega),h4 h0]
   simp [h0]
  ·have : j = 0:=by omega
   subst this
   rfl
 rw [hl]
 have hn : ∀ n : NodeD,okN n = (!(decide (n.id < 0)) && Kc0 n.labels && okPs n.props):=fun n=>by
  unfold okN Kc0
  have : decide (0 ≤ n.id) = !(decide (n.id < 0)):=by rw [Bool.eq_iff_iff];simp
  rw [this]
  cases decide (n.id < 0) <;> cases Kat n.labels <;> cases n.labels.all okNm <;> cases okPs n.props <;> rfl
 simp only [List.all_cons,List.all_nil,Bool.and_true,hn]
 have hlt : decide (g.nodes[j].id < g.nextNode) = !(decide (g.nextNode ≤ g.nodes[j].id)):=by rw [Bool.eq_iff_iff];simp
 rw [hlt]
 generalize (g.nodes.take j).all _ = a1
 generalize Ka7 _ = a2
 generalize (decide (0 < j) && b4) = a3
 generalize decide (g.nodes[j].id < 0) = a4
 generalize decide (g.nextNode ≤ g.nodes[j].id) = a5
 generalize Kc0 g.nodes[j].labels = a6
 generalize okPs g.nodes[j].props = a7
 cases a1 <;> cases a2 <;> cases a3 <;> cases a4 <;> cases a5 <;> cases a6 <;> cases a7 <;> rfl
theorem okRsP_step {g : GraphD} {j : Nat} (hj : j < g.rels.length) (b4 : Bool) (h4 : 0 < j → b4 = decide (g.rels[j].id ≤ (g.rels[j - 1]'(by omega)).id)) :
 okRsP g (j + 1) = (okRsP g j && (!(decide (g.rels[j].id < 0)) && !(decide (g.nextRel ≤ g.rels[j].id)) && !(decide (0 < j) && b4) && okNm g.rels[j].type && okPs g.rels[j].props && hasN g g.rels[j].src && hasN g g.rels[j].dst)):=by
 unfold okRsP
 rw [List.take_succ_eq_append_getElem hj,List.all_append,List.map_append,List.map_cons,List.map_nil,risesI_snoc]
 have hl : (match ((g.rels.take j).map RelD.id).getLast? with | some y=>decide (g.rels[j].id ≤ y) | none=>false) = (decide (0 < j) && b4):=by
  by_cases h0 : 0 < j
  ·rw [List.map_take,getLast_take h0 (by simp;omega),h4 h0]
   simp [h0]
  ·have : j = 0:=by omega
   subst this
   rfl
 rw [hl]
 have hn : ∀ n : RelD,okR n = (!(decide (n.id < 0)) && okNm n.type && okPs n.props):=fun n=>by
  unfold okR
  have : decide (0 ≤ n.id) = !(decide (n.id < 0)):=by rw [Bool.eq_iff_iff];simp
  rw [this]
 simp only [List.all_cons,List.all_nil,Bool.and_true,hn]
 have hlt : decide (g.rels[j].id < g.nextRel) = !(decide (g.nextRel ≤ g.rels[j].id)):=by rw [Bool.eq_iff_iff];simp
 rw [hlt]
 generalize (g.rels.take j).all _ = a1
 generalize Ka7 _ = a2
 generalize (decide (0 < j) && b4) = a3
 generalize decide (g.rels[j].id < 0) = a4
 generalize decide (g.nextRel ≤ g.rels[j].id) = a5
 generalize okNm g.rels[j].type = a6
 generalize okPs g.rels[j].props = a7
 generalize hasN g g.rels[j].src = a8
 generalize hasN g g.rels[j].dst = a9
 cases a1 <;> cases a2 <;> cases a3 <;> cases a4 <;> cases a5 <;> cases a6 <;> cases a7 <;> cases a8 <;> cases a9 <;> rfl
theorem okNsP_no {g : GraphD} {j : Nat} (h : okNsP g j = false) : okG g = false:=by
 cases hg : okG g with
 | false=>rfl
 | true =>
   obtain ⟨_,k6,k7,_,_⟩:=(Kdj g).1 hg
   have : okNsP g j = true:=by
    unfold okNsP
    rw [Bool.and_eq_true,List.all_eq_true]
    refine ⟨fun n hn=>by have:=k6 n (List.mem_of_mem_take hn);simp [this.1,this.2],?_⟩
    have e : g.nodes.map NodeD.id = (g.nodes.take j).map NodeD.id ++ (g.nodes.drop j).map NodeD.id:=by rw [← List.map_append,List.take_append_drop]
    rw [e] at k7
    exact risesI_cut _ _ k7
   rw [this] at h;cases h
theorem okRsP_no {g : GraphD} {j : Nat} (h : okRsP g j = false) : okG g = false:=by
 cases hg : okG g with
 | false=>rfl
 | true =>
   obtain ⟨_,_,_,k8,k9⟩:=(Kdj g).1 hg
   have : okRsP g j = true:=by
    unfold okRsP
    rw [Bool.and_eq_true,List.all_eq_true]
    refine ⟨fun n hn=>by obtain ⟨a,b,c,d⟩:=k8 n (List.mem_of_mem_take hn);simp [a,b,c,d],?_⟩
    have e : g.rels.map RelD.id = (g.rels.take j).map RelD.id ++ (g.rels.drop j).map RelD.id:=by rw [← List.map_append,List.take_append_drop]
    rw [e] at k9
    exact risesI_cut _ _ k9
   rw [this] at h;cases h
theorem okG_all {g : GraphD} (h1 : okSz g = true) (h2 : okNsP g g.nodes.length = true) (h3 : okRsP g g.rels.length = true) : okG g = true:=by
 unfold okNsP at h2
 unfold okRsP at h3
 rw [List.take_length] at h2 h3
 unfold okG okNs okRs
 rw [h1,h2,h3]
 rfl
theorem okSz_no {g : GraphD} (h : okSz g = false) : okG g = false:=by unfold okG;rw [h];rfl
def GTot (g : GraphD) : Prop:=(∀ n ∈ g.nodes,∀ x ∈ n.props,totV x.val ≤ 1099511627776) ∧ ∀ r ∈ g.rels,∀ x ∈ r.props,totV x.val ≤ 1099511627776
theorem hasN_find (g : GraphD) (i : Int) : decide (findAt (g.nodes.map NodeD.id) i < 0) = !(hasN g i):=by
 rw [findAt_neg,hasN_ids]
theorem refcheck_any {w : World} {g : GraphD} {x : Array Value} (h : GrRd w g x) (ht : GTot g) : Calls Tryz.prog 11 #[.agg x] w fun e w'=>e = .returned (.bool (okG g)) ∧ Below w.heap.size w w':=by
 have hxs:=h
 obtain ⟨pn,cn,pr,cr,rfl,hn,hr⟩:=h
 have hb1:=Kai (w:=w) (.cells #[.slice pn g.nodes.length cn,.slice pr g.rels.length cr,.int .i64 g.nextNode,.int .i64 g.nextRel] 25)
 have hx1:=heap_alloc_new w (.cells #[.slice pn g.nodes.length cn,.slice pr g.rels.length cr,.int .i64 g.nextNode,.int .i64 g.nextRel] 25)
 have p0 : (w.alloc (.cells #[.slice pn g.nodes.length cn,.slice pr g.rels.length cr,.int .i64 g.nextNode,.int .i64 g.nextRel] 25)).cell? ⟨w.heap.size,0,none⟩ = some (.slice pn g.nodes.length cn):=Kag (o:=0) hx1 rfl
 have p1 : (w.alloc (.cells #[.slice pn g.nodes.length cn,.slice pr g.rels.length cr,.int .i64 g.nextNode,.int .i64 g.nextRel] 25)).cell? ⟨w.heap.size,1,none⟩ = some (.slice pr g.rels.length cr):=Kag (o:=1) hx1 rfl
 have p2 : (w.alloc (.cells #[.slice pn g.nodes.length cn,.slice pr g.rels.length cr,.int .i64 g.nextNode,.int .i64 g.nextRel] 25)).cell? ⟨w.heap.size,2,none⟩ = some (.int .i64 g.nextNode):=Kag (o:=2) hx1 rfl
 have p3 : (w.alloc (.cells #[.slice pn g.nodes.length cn,.slice pr g.rels.length cr,.int .i64 g.nextNode,.int .i64 g.nextRel] 25)).cell? ⟨w.heap.size,3,none⟩ = some (.int .i64 g.nextRel):=Kag (o:=3) hx1 rfl
 have hn1:=hn.below (fun h=>h.below hb1) hb1
 have hr1:=hr.below (fun h=>h.below hb1) hb1
 have z1 : (g.nodes.length : Int) ≤ 140737488355328:=by have:=hn.1.2.1;omega
 have z2 : (g.rels.length : Int) ≤ 140737488355328:=by have:=hr.1.2.1;omega
 have z3 : g.nodes.length ≤ 140737488355328 ∧ g.rels.length ≤ 140737488355328:=by omega
 have HX:=yh (And.intro hn1 (And.intro ht (And.intro hb1 (And.intro hr1 (And.intro p0 (And.intro p1 (And.intro p2 (And.intro p3 z3))))))))
 have HG:=yh (And.intro hx1 (And.intro (hxs.below hb1) (show (#[.slice pn g.nodes.length cn,.slice pr g.rels.length cr,.int .i64 g.nextNode,.int .i64 g.nextRel] : Array Value).size = 4 from rfl)))
 have hsz : okSz g = (decide (g.nodes.length + g.rels.length ≤ 65536) && decide (0 ≤ g.nextNode) && decide (g.nextNode ≤ 4611686018427387904) && decide (0 ≤ g.nextRel) && decide (g.nextRel ≤ 4611686018427387904)):=rfl
 have hw1 : IntKind.i64.wrap ((g.nodes.length : Int) + (g.rels.length : Int)) = (g.nodes.length : Int) + (g.rels.length : Int):=by rw [IntKind.wrap_i64];omega
 have HNO:=yh (okSz_no (g:=g))
 clear hn hr hb1 hx1 hn1 hr1 z3 hxs ht
 cases hok : okSz g with
 | false =>
   have HF:=yh (HNO.out hok)
   have q1 : (g.nodes.length : Int) + (g.rels.length : Int) ≤ 65536 → 0 ≤ g.nextNode → g.nextNode ≤ 4611686018427387904 → 0 ≤ g.nextRel → ¬ g.nextRel ≤ 4611686018427387904:=fun a b c d e=>by
    rw [hok] at hsz
    have a2 : g.nodes.length + g.rels.length ≤ 65536:=by omega
    simp [a2,b,c,d,e] at hsz
   have HQ:=yh q1
   clear q1 hok hsz HNO
   by_cases a1 : (g.nodes.length : Int) + (g.rels.length : Int) ≤ 65536
   ·by_cases a2 : 0 ≤ g.nextNode
    ·by_cases a3 : g.nextNode ≤ 4611686018427387904
     ·by_cases a4 : 0 ≤ g.nextRel
      ·have a5:=HQ.out a1 a2 a3 a4
       go_enter Tryz.func11,Tryz.ntmps11
       go_wp2
       go_ret
       exact ⟨Kak HF.out.symm,HX.out.2.2.1⟩
      ·go_enter Tryz.func11,Tryz.ntmps11
       go_wp2
       go_ret
       exact ⟨Kak HF.out.symm,HX.out.2.2.1⟩
     ·go_enter Tryz.func11,Tryz.ntmps11
      go_wp2
      go_ret
      exact ⟨Kak HF.out.symm,HX.out.2.2.1⟩
    ·go_enter Tryz.func11,Tryz.ntmps11
     go_wp2
     go_ret
     exact ⟨Kak HF.out.symm,HX.out.2.2.1⟩
   ·go_enter Tryz.func11,Tryz.ntmps11
    go_wp2
    go_ret
    exact ⟨Kak HF.out.symm,HX.out.2.2.1⟩
 | true =>
   have hpt:=hok
   rw [hsz] at hpt
   simp only [Bool.and_eq_true,decide_eq_true_eq] at hpt
   obtain ⟨⟨⟨⟨a1,a2⟩,a3⟩,a4⟩,a5⟩:=hpt
   have a1' : (g.nodes.length : Int) + (g.rels.length : Int) ≤ 65536:=by omega
   have HSZ:=yh hok
   clear hsz hok a1 HNO
   go_enter Tryz.func11,Tryz.ntmps11
   go_wp2
   generalize hwA : w.alloc (.cells #[.slice pn g.nodes.length cn,.slice pr g.rels.length cr,.int .i64 g.nextNode,.int .i64 g.nextRel] 25) = w1 at *
   clear hwA p0 p1 p2 p3 a1' a2 a3 a4 a5 hw1
   have hxg : ∃ xg : Array Value,xg = #[.slice pn g.nodes.length cn,.slice pr g.rels.length cr,.int .i64 g.nextNode,.int .i64 g.nextRel]:=⟨_,rfl⟩
   obtain ⟨xg,hxg⟩:=hxg
   rw [← hxg] at HG
   clear hxg
   have q0:=HX.out.2.2.2.2.1
   go_loopw [3] (fun i wr=>∃ j : Nat,j ≤ g.nodes.length ∧ i = .int .i64 (j : Int) ∧ Hid (okNsP g j = true ∧ Below w1.heap.size w1 wr)) (fun i _=>g.nodes.length - (intOf i).toNat)
   case atStart=>exact ⟨0,Nat.zero_le _,rfl,yh ⟨rfl,Below.refl _ _⟩⟩
   case round =>
    clear q0
    obtain ⟨j,hj,rfl,HJ⟩:=hrel
    by_cases hlt : j < g.nodes.length
    ·have hlt1:=Nat.succ_le_of_lt hlt
     have hbw : Below w1.heap.size w1 wr:=HJ.out.2
     obtain ⟨bk,ok,cs,rfl,hs,hc,hv⟩:=HX.out.1.get hlt
     have hvl:=hv
     have gw : wr.cell? ⟨w.heap.size,0,none⟩ = some (.slice (some ⟨bk,ok,none⟩) g.nodes.length cn):=Kae hbw (ltOf HX.out.2.2.2.2.1) HX.out.2.2.2.2.1 -- gw
     have hb9 : 0 < j → ∃ id0,w1.cell? ⟨bk,ok + (j - 1) * 3,none⟩ = some (.int .i64 id0) ∧ ∀ hh : j - 1 < g.nodes.length,g.nodes[j - 1].id = id0:=fun h0=>by
      obtain ⟨bk2,ok2,cs0,e2,hs0,hc0,hv0⟩:=HX.out.1.get (show j - 1 < g.nodes.length by omega)
      cases e2
      have hq0 : w1.cell? ⟨bk,ok + (j - 1) * 3,none⟩ = some (.int .i64 (g.nodes[j - 1]'(by omega)).id):=by
       obtain ⟨_,_,_,_,rfl,_⟩:=hv0
       exact hc0 0 _ rfl
      exact ⟨_,hq0,fun _=>rfl⟩
     obtain ⟨id0,hid0⟩ : ∃ id0,0 < j → w1.cell? ⟨bk,ok + (j - 1) * 3,none⟩ = some (.int .i64 id0) ∧ ∀ hh : j - 1 < g.nodes.length,g.nodes[j - 1].id = id0:=by
      by_cases h0 : 0 < j
      ·obtain ⟨a,b⟩:=hb9 h0;exact ⟨a,fun _=>b⟩
      ·exact ⟨0,fun h=>absurd h h0⟩
     have hst:=okNsP_step hlt (decide (g.nodes[j].id ≤ id0)) (fun h0=>by rw [(hid0 h0).2 (by omega)])
     have hno:=okNsP_no (g:=g) (j:=j + 1)
     have hok1:=HJ.out.1
     rw [hok1,Bool.true_and] at hst
     have htv:=HX.out.2.1.1 _ (List.getElem_mem hlt)
     obtain ⟨pl,cl,pp,cp,ecs,hls,hps⟩:=hv
     have hn1:=Kai (w:=wr) (.cells cs 45)
     have hx1:=heap_alloc_new wr (.cells cs 45)
     have HL1:=yh (StT.load (P:=Tryz.prog) (g:=bk) (o:=ok + j * 3) (W:=wr) Kbd hs fun i u hu=>Kae hbw (ltOf (hc i u hu)) (hc i u hu))
     have HS1:=yh (StT.fresh Kbd hs (ef_node.ones hvl) (W:=wr))
     have hbw1:=Kaa hbw hn1
     have c0 : (wr.alloc (.cells cs 45)).cell? ⟨wr.heap.size,0,none⟩ = some (.int .i64 g.nodes[j].id):=Kag (o:=0) hx1 (by rw [ecs];rfl)
     have c1 : (wr.alloc (.cells cs 45)).cell? ⟨wr.heap.size,1,none⟩ = some (.slice pl g.nodes[j].labels.length cl):=Kag (o:=1) hx1 (by rw [ecs];rfl)
     have c2 : (wr.alloc (.cells cs 45)).cell? ⟨wr.heap.size,2,none⟩ = some (.slice pp g.nodes[j].props.length cp):=Kag (o:=2) hx1 (by rw [ecs];rfl)
     have g0 : (wr.alloc (.cells cs 45)).cell? ⟨w.heap.size,0,none⟩ = some (.slice (some ⟨bk,ok,none⟩) g.nodes.length cn):=Kae hbw1 (ltOf HX.out.2.2.2.2.1) HX.out.2.2.2.2.1
     have g2 : (wr.alloc (.cells cs 45)).cell? ⟨w.heap.size,2,none⟩ = some (.int .i64 g.nextNode):=Kae hbw1 (ltOf HX.out.2.2.2.2.2.2.1) HX.out.2.2.2.2.2.2.1
     have c9 : 0 < j → (wr.alloc (.cells cs 45)).cell? ⟨bk,ok + (j - 1) * 3,none⟩ = some (.int .i64 id0):=fun h0=>Kae hbw1 (ltOf (hid0 h0).1) (hid0 h0).1
     have hri:=fun W (g : Below (wr.alloc (.cells cs 45)).heap.size (wr.alloc (.cells cs 45)) W)=>refrises_any (w:=W) ((hls.below hbw1).below g)
     have hpr:=fun W (g : Below (wr.alloc (.cells cs 45)).heap.size (wr.alloc (.cells cs 45)) W)=>refprops_any (w:=W) ((hps.below (fun h=>h.below hbw1) hbw1).below (fun h=>h.below g) g) htv
     have hi0 : 0 < j → ∀ W' : World,(Instr.indexAt 22 (.slice (some ⟨bk,ok,none⟩) g.nodes.length cn) (.int .i64 ((j - 1 : Nat) : Int))).run Tryz.prog W' = .ok (.pointer (some ⟨bk,ok + (j - 1) * 3,none⟩)) W':=fun h0 W'=>ia_node (by omega) W'
     have hsub : 0 < j → ∀ W : World,(binOp .sub 3 (.int .i64 (j : Int)) (.int .i64 1)).run Tryz.prog W = .ok (.int .i64 ((j - 1 : Nat) : Int)) W:=fun h0=>sub_nat h0 (by have:=HX.out.2.2.2.2.2.2.2.2;omega)
     have h1:=fun W=>lss_i g.nodes[j].id 0 W
     have h2:=fun W=>geq_i g.nodes[j].id g.nextNode W
     have h3:=gtr_nat (j:=j)
     have h4:=fun W=>geq_i id0 g.nodes[j].id W
     obtain ⟨b1,hb1⟩ : ∃ b,b = decide (g.nodes[j].id < 0):=⟨_,rfl⟩
     obtain ⟨b2,hb2⟩ : ∃ b,b = decide (g.nextNode ≤ g.nodes[j].id):=⟨_,rfl⟩
     obtain ⟨b3,hb3⟩ : ∃ b,b = decide (0 < j):=⟨_,rfl⟩
     obtain ⟨b4,hb4⟩ : ∃ b,b = decide (g.nodes[j].id ≤ id0):=⟨_,rfl⟩
     obtain ⟨b5,hb5⟩ : ∃ b,b = Kc0 g.nodes[j].labels:=⟨_,rfl⟩
     obtain ⟨b6,hb6⟩ : ∃ b,b = okPs g.nodes[j].props:=⟨_,rfl⟩
     simp only [← hb1,← hb2,← hb3,← hb4,← hb5,← hb6] at h1 h2 h3 h4 hri hpr hst
     have hst1 : (!b1 && !b2 && !(b3 && b4) && b5 && b6) = true → okNsP g (j + 1) = true:=fun h=>by rw [hst];exact h
     have hst2 : (!b1 && !b2 && !(b3 && b4) && b5 && b6) = false → okG g = false:=fun h=>hno (by rw [hst];exact h)
     have HALL:=yh (And.intro hst1 hst2)
     have hj0 : b3 = true → 0 < j:=fun e=>by rw [hb3] at e;simpa using e
     have hc9:=fun e=>c9 (hj0 e)
     have hhi0:=fun e=>hi0 (hj0 e)
     have hhsub:=fun e=>hsub (hj0 e)
     have HB1:=yh hbw1
     have hB0 : Below (wr.alloc (.cells cs 45)).heap.size (wr.alloc (.cells cs 45)) (wr.alloc (.cells cs 45)).drew:=(Below.refl _ _).drew
     generalize g.nodes[j].id = id at *
     generalize g.nodes[j].labels.length = nl at *
     generalize g.nodes[j].props.length = np at *
     have HY:=yh (And.intro c0 (And.intro c1 (And.intro c2 (And.intro g0 (And.intro g2 (And.intro hc9 (And.intro hri (And.intro hpr (And.intro hhi0 (And.intro hhsub (And.intro h1 (And.intro h2 (And.intro h3 (And.intro h4 hB0))))))))))))))
     clear c0 c1 c2 g0 g2 c9 hc9 hri hpr hi0 hsub hhi0 hhsub h1 h2 h3 h4 hB0 hst hst1 hst2 hno hok1 hb1 hb2 hb3 hb4 hb5 hb6 hj0 hb9 hid0 hbw hbw1 hn1 hx1 hs hc hvl hls hps ecs htv HJ
     go_wp2_with (first
      | ((with_reducible apply Kaq);exact HL1.out;exact rfl;clear HL1)
      | ((with_reducible apply Kar);exact HS1.out _ rfl;exact rfl;exact rfl;clear HS1))
     clear gw
     obtain ⟨c0,c1,c2,g0,g2,c9,hri,hpr,hi0,hsub,h1,h2,h3,h4,hB0⟩:=HY.out
     refine Kah (fun W=>Below (wr.alloc (.cells cs 45)).heap.size (wr.alloc (.cells cs 45)) W) (by kernel_rfl) hB0 (fun hS=>?_)
     refine tk 0 47 (v:=.pointer (some ⟨wr.heap.size,0,none⟩)) rfl rfl (fun W hW=>Kac rfl rfl (fa_nd 0 (by omega) _ W)) ?_
     simp only [Act.put,sA,sZ,sS]
     refine tk 1 48 (v:=.int .i64 id) rfl rfl (fun W hW=>Kad rfl rfl (Kaf (w:=W) Tryz.underlying2 rfl (Kae hW (ltOf c0) c0))) ?_
     simp only [Act.put,sA,sZ,sS]
     cases b1 with
     | true =>
       refine tk 2 49 (v:=.bool true) rfl rfl (fun W hW=>Kam rfl rfl rfl (h1 W)) ?_
       simp only [Act.put,sA,sZ,sS]
       refine tk 3 50 (v:=.bool true) rfl rfl (fun W hW=>Kab rfl rfl) ?_
       simp only [Act.put,sA,sZ,sS]
       refine tn 4 51 rfl rfl ?_
       simp only [Act.put,sA,sZ,sS]
       refine tn 5 52 rfl rfl ?_
       simp only [Act.put,sA,sZ,sS]
       refine tn 6 53 rfl rfl ?_
       simp only [Act.put,sA,sZ,sS]
       refine tn 7 54 rfl rfl ?_
       simp only [Act.put,sA,sZ,sS]
       refine tn 8 55 rfl rfl ?_
       simp only [Act.put,sA,sZ,sS]
       refine tk 9 56 (v:=.bool true) rfl rfl (fun W hW=>rfl) ?_
       simp only [Act.put,sA,sZ,sS]
       refine tk 10 57 (v:=.bool true) rfl rfl (fun W hW=>Kab rfl rfl) ?_
       simp only [Act.put,sA,sZ,sS]
       refine tn 11 58 rfl rfl ?_
       simp only [Act.put,sA,sZ,sS]
       refine tn 12 59 rfl rfl ?_
       simp only [Act.put,sA,sZ,sS]
       refine tn 13 60 rfl rfl ?_
       simp only [Act.put,sA,sZ,sS]
       refine tn 14 61 rfl rfl ?_
       simp only [Act.put,sA,sZ,sS]
       refine tn 15 62 rfl rfl ?_
       simp only [Act.put,sA,sZ,sS]
       refine tn 16 63 rfl rfl ?_
       simp only [Act.put,sA,sZ,sS]
       refine tn 17 64 rfl rfl ?_
       simp only [Act.put,sA,sZ,sS]
       refine tn 18 65 rfl rfl ?_
       simp only [Act.put,sA,sZ,sS]
       refine tn 19 66 rfl rfl ?_
       simp only [Act.put,sA,sZ,sS]
       refine tn 20 67 rfl rfl ?_
       simp only [Act.put,sA,sZ,sS]
       refine tn 21 68 rfl rfl ?_
       simp only [Act.put,sA,sZ,sS]
       refine tn 22 69 rfl rfl ?_
       simp only [Act.put,sA,sZ,sS]
       refine tn 23 70 rfl rfl ?_
       simp only [Act.put,sA,sZ,sS]
       refine tn 24 71 rfl rfl ?_
       simp only [Act.put,sA,sZ,sS]
       refine tk 25 72 (v:=.bool true) rfl rfl (fun W hW=>rfl) ?_
       simp only [Act.put,sA,sZ,sS]
       refine tk 26 73 (v:=.bool true) rfl rfl (fun W hW=>Kab rfl rfl) ?_
       simp only [Act.put,sA,sZ,sS]
       refine tn 27 74 rfl rfl ?_
       simp only [Act.put,sA,sZ,sS]
       refine tn 28 75 rfl rfl ?_
       simp only [Act.put,sA,sZ,sS]
       refine Kau 29 76 rfl rfl (by kernel_rfl) rfl ?_ (.inr (by assumption))
       simp only [Act.put,sA,sZ,sS]
       refine tn 30 77 rfl rfl ?_
       simp only [Act.put,sA,sZ,sS]
       refine tk 31 78 (v:=.bool true) rfl rfl (fun W hW=>rfl) ?_
       simp only [Act.put,sA,sZ,sS]
       refine tk 32 79 (v:=.bool true) rfl rfl (fun W hW=>Kab rfl rfl) ?_
       simp only [Act.put,sA,sZ,sS]
       refine tn 33 80 rfl rfl ?_
       simp only [Act.put,sA,sZ,sS]
       refine tn 34 81 rfl rfl ?_
       simp only [Act.put,sA,sZ,sS]
       refine Kau 35 82 rfl rfl (by kernel_rfl) rfl ?_ (.inr (by assumption))
       simp only [Act.put,sA,sZ,sS]
       refine tn 36 83 rfl rfl ?_
       simp only [Act.put,sA,sZ,sS]
       refine tk 37 84 (v:=.bool true) rfl rfl (fun W hW=>rfl) ?_
       simp only [Act.put,sA,sZ,sS]
       refine done (by kernel_rfl) ?_ _
       have HB:=yh (Kaa HB1.out hS)
       clear hS c0 c1 c2 g0 g2 c9 hri hpr hi0 hsub h1 h2 h3 h4 hB0 HY 
       go_wp2
       go_ret
       exact ⟨Kak (HALL.out.2 (by simp)).symm,Kaa HX.out.2.2.1 HB.out⟩
     | false =>
       refine tk 2 49 (v:=.bool false) rfl rfl (fun W hW=>Kam rfl rfl rfl (h1 W)) ?_
       simp only [Act.put,sA,sZ,sS]
       refine tk 3 50 (v:=.bool false) rfl rfl (fun W hW=>Kab rfl rfl) ?_
       simp only [Act.put,sA,sZ,sS]
       refine tk 4 51 (v:=.pointer (some ⟨wr.heap.size,0,none⟩)) rfl rfl (fun W hW=>Kac rfl rfl (fa_nd 0 (by omega) _ W)) ?_
       simp only [Act.put,sA,sZ,sS]
       refine tk 5 52 (v:=.int .i64 id) rfl rfl (fun W hW=>Kad rfl rfl (Kaf (w:=W) Tryz.underlying2 rfl (Kae hW (ltOf c0) c0))) ?_
       simp only [Act.put,sA,sZ,sS]
       refine tk 6 53 (v:=.pointer (some ⟨w.heap.size,2,none⟩)) rfl rfl (fun W hW=>Kac rfl rfl (fa_gr 2 (by omega) _ W)) ?_
       simp only [Act.put,sA,sZ,sS]
       refine tk 7 54 (v:=.int .i64 g.nextNode) rfl rfl (fun W hW=>Kad rfl rfl (Kaf (w:=W) Tryz.underlying2 rfl (Kae hW (ltOf g2) g2))) ?_
       simp only [Act.put,sA,sZ,sS]
       cases b2 with
       | true =>
         refine tk 8 55 (v:=.bool true) rfl rfl (fun W hW=>Kam rfl rfl rfl (h2 W)) ?_
         simp only [Act.put,sA,sZ,sS]
         refine tk 9 56 (v:=.bool true) rfl rfl (fun W hW=>rfl) ?_
         simp only [Act.put,sA,sZ,sS]
         refine tk 10 57 (v:=.bool true) rfl rfl (fun W hW=>Kab rfl rfl) ?_
         simp only [Act.put,sA,sZ,sS]
         refine tn 11 58 rfl rfl ?_
         simp only [Act.put,sA,sZ,sS]
         refine tn 12 59 rfl rfl ?_
         simp only [Act.put,sA,sZ,sS]
         refine tn 13 60 rfl rfl ?_
         simp only [Act.put,sA,sZ,sS]
         refine tn 14 61 rfl rfl ?_
         simp only [Act.put,sA,sZ,sS]
         refine tn 15 62 rfl rfl ?_
         simp only [Act.put,sA,sZ,sS]
         refine tn 16 63 rfl rfl ?_
         simp only [Act.put,sA,sZ,sS]
         refine tn 17 64 rfl rfl ?_
         simp only [Act.put,sA,sZ,sS]
         refine tn 18 65 rfl rfl ?_
         simp only [Act.put,sA,sZ,sS]
         refine tn 19 66 rfl rfl ?_
         simp only [Act.put,sA,sZ,sS]
         refine tn 20 67 rfl rfl ?_
         simp only [Act.put,sA,sZ,sS]
         refine tn 21 68 rfl rfl ?_
         simp only [Act.put,sA,sZ,sS]
         refine tn 22 69 rfl rfl ?_
         simp only [Act.put,sA,sZ,sS]
         refine tn 23 70 rfl rfl ?_
         simp only [Act.put,sA,sZ,sS]
         refine tn 24 71 rfl rfl ?_
         simp only [Act.put,sA,sZ,sS]
         refine tk 25 72 (v:=.bool true) rfl rfl (fun W hW=>rfl) ?_
         simp only [Act.put,sA,sZ,sS]
         refine tk 26 73 (v:=.bool true) rfl rfl (fun W hW=>Kab rfl rfl) ?_
         simp only [Act.put,sA,sZ,sS]
         refine tn 27 74 rfl rfl ?_
         simp only [Act.put,sA,sZ,sS]
         refine tn 28 75 rfl rfl ?_
         simp only [Act.put,sA,sZ,sS]
         refine Kau 29 76 rfl rfl (by kernel_rfl) rfl ?_ (.inr (by assumption))
         simp only [Act.put,sA,sZ,sS]
         refine tn 30 77 rfl rfl ?_
         simp only [Act.put,sA,sZ,sS]
         refine tk 31 78 (v:=.bool true) rfl rfl (fun W hW=>rfl) ?_
         simp only [Act.put,sA,sZ,sS]
         refine tk 32 79 (v:=.bool true) rfl rfl (fun W hW=>Kab rfl rfl) ?_
         simp only [Act.put,sA,sZ,sS]
         refine tn 33 80 rfl rfl ?_
         simp only [Act.put,sA,sZ,sS]
         refine tn 34 81 rfl rfl ?_
         simp only [Act.put,sA,sZ,sS]
         refine Kau 35 82 rfl rfl (by kernel_rfl) rfl ?_ (.inr (by assumption))
         simp only [Act.put,sA,sZ,sS]
         refine tn 36 83 rfl rfl ?_
         simp only [Act.put,sA,sZ,sS]
         refine tk 37 84 (v:=.bool true) rfl rfl (fun W hW=>rfl) ?_
         simp only [Act.put,sA,sZ,sS]
         refine done (by kernel_rfl) ?_ _
         have HB:=yh (Kaa HB1.out hS)
         clear hS c0 c1 c2 g0 g2 c9 hri hpr hi0 hsub h1 h2 h3 h4 hB0 HY 
         go_wp2
         go_ret
         exact ⟨Kak (HALL.out.2 (by simp)).symm,Kaa HX.out.2.2.1 HB.out⟩
       | false =>
         refine tk 8 55 (v:=.bool false) rfl rfl (fun W hW=>Kam rfl rfl rfl (h2 W)) ?_
         simp only [Act.put,sA,sZ,sS]
         refine tk 9 56 (v:=.bool false) rfl rfl (fun W hW=>rfl) ?_
         simp only [Act.put,sA,sZ,sS]
         refine tk 10 57 (v:=.bool false) rfl rfl (fun W hW=>Kab rfl rfl) ?_
         simp only [Act.put,sA,sZ,sS]
         refine tk 11 58 (v:=.int .i64 (j : Int)) rfl rfl (fun W hW=>Kab rfl rfl) ?_
         simp only [Act.put,sA,sZ,sS]
         cases b3 with
         | true =>
           have c9:=c9 rfl
           have hi0:=hi0 rfl
           have hsub:=hsub rfl
           refine tk 12 59 (v:=.bool true) rfl rfl (fun W hW=>Kam rfl rfl rfl (h3 W)) ?_
           simp only [Act.put,sA,sZ,sS]
           refine tk 13 60 (v:=.bool true) rfl rfl (fun W hW=>Kab rfl rfl) ?_
           simp only [Act.put,sA,sZ,sS]
           refine tk 14 61 (v:=.pointer (some ⟨w.heap.size,0,none⟩)) rfl rfl (fun W hW=>Kac rfl rfl (fa_gr 0 (by omega) _ W)) ?_
           simp only [Act.put,sA,sZ,sS]
           refine tk 15 62 (v:=.slice (some ⟨bk,ok,none⟩) g.nodes.length cn) rfl rfl (fun W hW=>Kad rfl rfl (Kaf (w:=W) Tryz.underlying22 rfl (Kae hW (ltOf g0) g0))) ?_
           simp only [Act.put,sA,sZ,sS]
           refine tk 16 63 (v:=.int .i64 (j : Int)) rfl rfl (fun W hW=>Kab rfl rfl) ?_
           simp only [Act.put,sA,sZ,sS]
           refine tk 17 64 (v:=.int .i64 ((j - 1 : Nat) : Int)) rfl rfl (fun W hW=>Kam rfl rfl rfl (hsub W)) ?_
           simp only [Act.put,sA,sZ,sS]
           refine tk 18 65 (v:=.pointer (some ⟨bk,ok + (j - 1) * 3,none⟩)) rfl rfl (fun W hW=>Kaj rfl rfl rfl (hi0 W)) ?_
           simp only [Act.put,sA,sZ,sS]
           refine tk 19 66 (v:=.pointer (some ⟨bk,ok + (j - 1) * 3,none⟩)) rfl rfl (fun W hW=>Kac rfl rfl (fa_ndO _ _ W)) ?_
           simp only [Act.put,sA,sZ,sS]
           refine tk 20 67 (v:=.int .i64 id0) rfl rfl (fun W hW=>Kad rfl rfl (Kaf (w:=W) Tryz.underlying2 rfl (Kae hW (ltOf c9) c9))) ?_
           simp only [Act.put,sA,sZ,sS]
           refine tk 21 68 (v:=.pointer (some ⟨wr.heap.size,0,none⟩)) rfl rfl (fun W hW=>Kac rfl rfl (fa_nd 0 (by omega) _ W)) ?_
           simp only [Act.put,sA,sZ,sS]
           refine tk 22 69 (v:=.int .i64 id) rfl rfl (fun W hW=>Kad rfl rfl (Kaf (w:=W) Tryz.underlying2 rfl (Kae hW (ltOf c0) c0))) ?_
           simp only [Act.put,sA,sZ,sS]
           cases b4 with
           | true =>
             refine tk 23 70 (v:=.bool true) rfl rfl (fun W hW=>Kam rfl rfl rfl (h4 W)) ?_
             simp only [Act.put,sA,sZ,sS]
             refine tk 24 71 (v:=.bool true) rfl rfl (fun W hW=>rfl) ?_
             simp only [Act.put,sA,sZ,sS]
             refine tk 25 72 (v:=.bool true) rfl rfl (fun W hW=>rfl) ?_
             simp only [Act.put,sA,sZ,sS]
             refine tk 26 73 (v:=.bool true) rfl rfl (fun W hW=>Kab rfl rfl) ?_
             simp only [Act.put,sA,sZ,sS]
             refine tn 27 74 rfl rfl ?_
             simp only [Act.put,sA,sZ,sS]
             refine tn 28 75 rfl rfl ?_
             simp only [Act.put,sA,sZ,sS]
             refine Kau 29 76 rfl rfl (by kernel_rfl) rfl ?_ (.inr (by assumption))
             simp only [Act.put,sA,sZ,sS]
             refine tn 30 77 rfl rfl ?_
             simp only [Act.put,sA,sZ,sS]
             refine tk 31 78 (v:=.bool true) rfl rfl (fun W hW=>rfl) ?_
             simp only [Act.put,sA,sZ,sS]
             refine tk 32 79 (v:=.bool true) rfl rfl (fun W hW=>Kab rfl rfl) ?_
             simp only [Act.put,sA,sZ,sS]
             refine tn 33 80 rfl rfl ?_
             simp only [Act.put,sA,sZ,sS]
             refine tn 34 81 rfl rfl ?_
             simp only [Act.put,sA,sZ,sS]
             refine Kau 35 82 rfl rfl (by kernel_rfl) rfl ?_ (.inr (by assumption))
             simp only [Act.put,sA,sZ,sS]
             refine tn 36 83 rfl rfl ?_
             simp only [Act.put,sA,sZ,sS]
             refine tk 37 84 (v:=.bool true) rfl rfl (fun W hW=>rfl) ?_
             simp only [Act.put,sA,sZ,sS]
             refine done (by kernel_rfl) ?_ _
             have HB:=yh (Kaa HB1.out hS)
             clear hS c0 c1 c2 g0 g2 c9 hri hpr hi0 hsub h1 h2 h3 h4 hB0 HY 
             go_wp2
             go_ret
             exact ⟨Kak (HALL.out.2 (by simp)).symm,Kaa HX.out.2.2.1 HB.out⟩
           | false =>
             refine tk 23 70 (v:=.bool false) rfl rfl (fun W hW=>Kam rfl rfl rfl (h4 W)) ?_
             simp only [Act.put,sA,sZ,sS]
             refine tk 24 71 (v:=.bool false) rfl rfl (fun W hW=>rfl) ?_
             simp only [Act.put,sA,sZ,sS]
             refine tk 25 72 (v:=.bool false) rfl rfl (fun W hW=>rfl) ?_
             simp only [Act.put,sA,sZ,sS]
             refine tk 26 73 (v:=.bool false) rfl rfl (fun W hW=>Kab rfl rfl) ?_
             simp only [Act.put,sA,sZ,sS]
             refine tk 27 74 (v:=.pointer (some ⟨wr.heap.size,1,none⟩)) rfl rfl (fun W hW=>Kac rfl rfl (fa_nd 1 (by omega) _ W)) ?_
             simp only [Act.put,sA,sZ,sS]
             refine tk 28 75 (v:=.slice pl nl cl) rfl rfl (fun W hW=>Kad rfl rfl (Kaf (w:=W) Tryz.underlying26 rfl (Kae hW (ltOf c1) c1))) ?_
             simp only [Act.put,sA,sZ,sS]
             cases b5 with
             | true =>
               refine Kao 29 76 rfl rfl (by kernel_rfl) rfl (Kan [.slice pl nl cl] rfl rfl Tryz.func33 (by kernel_rfl) (by kernel_rfl)) ?_
               refine (hri _ hS).mono ?_
               rintro e W29 ⟨rfl,hb29⟩
               have hS29:=Kaa hS hb29
               refine ⟨_,rfl,.inr hS29,?_⟩
               simp only [Act.put,sA,sZ,sS]
               refine tk 30 77 (v:=.bool false) rfl rfl (fun W hW=>Kap (b:=true) rfl rfl) ?_
               simp only [Act.put,sA,sZ,sS]
               refine tk 31 78 (v:=.bool false) rfl rfl (fun W hW=>rfl) ?_
               simp only [Act.put,sA,sZ,sS]
               refine tk 32 79 (v:=.bool false) rfl rfl (fun W hW=>Kab rfl rfl) ?_
               simp only [Act.put,sA,sZ,sS]
               refine tk 33 80 (v:=.pointer (some ⟨wr.heap.size,2,none⟩)) rfl rfl (fun W hW=>Kac rfl rfl (fa_nd 2 (by omega) _ W)) ?_
               simp only [Act.put,sA,sZ,sS]
               refine tk 34 81 (v:=.slice pp np cp) rfl rfl (fun W hW=>Kad rfl rfl (Kaf (w:=W) Tryz.underlying27 rfl (Kae hW (ltOf c2) c2))) ?_
               simp only [Act.put,sA,sZ,sS]
               cases b6 with
               | true =>
                 refine Kao 35 82 rfl rfl (by kernel_rfl) rfl (Kan [.slice pp np cp] rfl rfl Tryz.func34 (by kernel_rfl) (by kernel_rfl)) ?_
                 refine (hpr _ hS29).mono ?_
                 rintro e W35 ⟨rfl,hb35⟩
                 have hS35:=Kaa hS29 hb35
                 refine ⟨_,rfl,.inr hS35,?_⟩
                 simp only [Act.put,sA,sZ,sS]
                 refine tk 36 83 (v:=.bool false) rfl rfl (fun W hW=>Kap (b:=true) rfl rfl) ?_
                 simp only [Act.put,sA,sZ,sS]
                 refine tk 37 84 (v:=.bool false) rfl rfl (fun W hW=>rfl) ?_
                 simp only [Act.put,sA,sZ,sS]
                 refine done (by kernel_rfl) ?_ _
                 have HB:=yh (Kaa HB1.out hS35)
                 clear hS hS29 hb29 hS35 hb35 c0 c1 c2 g0 g2 c9 hri hpr hi0 hsub h1 h2 h3 h4 hB0 HY 
                 go_wp2
                 go_roundw
                 case rel=>exact ⟨j + 1,hlt1,by go_num,yh ⟨HALL.out.1 rfl,HB.out⟩⟩
                 case measure=>simp [intOf];omega
               | false =>
                 refine Kao 35 82 rfl rfl (by kernel_rfl) rfl (Kan [.slice pp np cp] rfl rfl Tryz.func34 (by kernel_rfl) (by kernel_rfl)) ?_
                 refine (hpr _ hS29).mono ?_
                 rintro e W35 ⟨rfl,hb35⟩
                 have hS35:=Kaa hS29 hb35
                 refine ⟨_,rfl,.inr hS35,?_⟩
                 simp only [Act.put,sA,sZ,sS]
                 refine tk 36 83 (v:=.bool true) rfl rfl (fun W hW=>Kap (b:=false) rfl rfl) ?_
                 simp only [Act.put,sA,sZ,sS]
                 refine tk 37 84 (v:=.bool true) rfl rfl (fun W hW=>rfl) ?_
                 simp only [Act.put,sA,sZ,sS]
                 refine done (by kernel_rfl) ?_ _
                 have HB:=yh (Kaa HB1.out hS35)
                 clear hS hS29 hb29 hS35 hb35 c0 c1 c2 g0 g2 c9 hri hpr hi0 hsub h1 h2 h3 h4 hB0 HY 
                 go_wp2
                 go_ret
                 exact ⟨Kak (HALL.out.2 (by simp)).symm,Kaa HX.out.2.2.1 HB.out⟩
             | false =>
               refine Kao 29 76 rfl rfl (by kernel_rfl) rfl (Kan [.slice pl nl cl] rfl rfl Tryz.func33 (by kernel_rfl) (by kernel_rfl)) ?_
               refine (hri _ hS).mono ?_
               rintro e W29 ⟨rfl,hb29⟩
               have hS29:=Kaa hS hb29
               refine ⟨_,rfl,.inr hS29,?_⟩
               simp only [Act.put,sA,sZ,sS]
               refine tk 30 77 (v:=.bool true) rfl rfl (fun W hW=>Kap (b:=false) rfl rfl) ?_
               simp only [Act.put,sA,sZ,sS]
               refine tk 31 78 (v:=.bool true) rfl rfl (fun W hW=>rfl) ?_
               simp only [Act.put,sA,sZ,sS]
               refine tk 32 79 (v:=.bool true) rfl rfl (fun W hW=>Kab rfl rfl) ?_
               simp only [Act.put,sA,sZ,sS]
               refine tn 33 80 rfl rfl ?_
               simp only [Act.put,sA,sZ,sS]
               refine tn 34 81 rfl rfl ?_
               simp only [Act.put,sA,sZ,sS]
               refine Kau 35 82 rfl rfl (by kernel_rfl) rfl ?_ (.inr (by assumption))
               simp only [Act.put,sA,sZ,sS]
               refine tn 36 83 rfl rfl ?_
               simp only [Act.put,sA,sZ,sS]
               refine tk 37 84 (v:=.bool true) rfl rfl (fun W hW=>rfl) ?_
               simp only [Act.put,sA,sZ,sS]
               refine done (by kernel_rfl) ?_ _
               have HB:=yh (Kaa HB1.out hS29)
               clear hS hS29 hb29 c0 c1 c2 g0 g2 c9 hri hpr hi0 hsub h1 h2 h3 h4 hB0 HY 
               go_wp2
               go_ret
               exact ⟨Kak (HALL.out.2 (by simp)).symm,Kaa HX.out.2.2.1 HB.out⟩
         | false =>
           refine tk 12 59 (v:=.bool false) rfl rfl (fun W hW=>Kam rfl rfl rfl (h3 W)) ?_
           simp only [Act.put,sA,sZ,sS]
           refine tk 13 60 (v:=.bool false) rfl rfl (fun W hW=>Kab rfl rfl) ?_
           simp only [Act.put,sA,sZ,sS]
           refine tn 14 61 rfl rfl ?_
           simp only [Act.put,sA,sZ,sS]
           refine tn 15 62 rfl rfl ?_
           simp only [Act.put,sA,sZ,sS]
           refine tn 16 63 rfl rfl ?_
           simp only [Act.put,sA,sZ,sS]
           refine tn 17 64 rfl rfl ?_
           simp only [Act.put,sA,sZ,sS]
           refine tn 18 65 rfl rfl ?_
           simp only [Act.put,sA,sZ,sS]
           refine tn 19 66 rfl rfl ?_
           simp only [Act.put,sA,sZ,sS]
           refine tn 20 67 rfl rfl ?_
           simp only [Act.put,sA,sZ,sS]
           refine tn 21 68 rfl rfl ?_
           simp only [Act.put,sA,sZ,sS]
           refine tn 22 69 rfl rfl ?_
           simp only [Act.put,sA,sZ,sS]
           refine tn 23 70 rfl rfl ?_
           simp only [Act.put,sA,sZ,sS]
           refine tk 24 71 (v:=.bool false) rfl rfl (fun W hW=>rfl) ?_
           simp only [Act.put,sA,sZ,sS]
           refine tk 25 72 (v:=.bool false) rfl rfl (fun W hW=>rfl) ?_
           simp only [Act.put,sA,sZ,sS]
           refine tk 26 73 (v:=.bool false) rfl rfl (fun W hW=>Kab rfl rfl) ?_
           simp only [Act.put,sA,sZ,sS]
           refine tk 27 74 (v:=.pointer (some ⟨wr.heap.size,1,none⟩)) rfl rfl (fun W hW=>Kac rfl rfl (fa_nd 1 (by omega) _ W)) ?_
           simp only [Act.put,sA,sZ,sS]
           refine tk 28 75 (v:=.slice pl nl cl) rfl rfl (fun W hW=>Kad rfl rfl (Kaf (w:=W) Tryz.underlying26 rfl (Kae hW (ltOf c1) c1))) ?_
           simp only [Act.put,sA,sZ,sS]
           cases b5 with
           | true =>
             refine Kao 29 76 rfl rfl (by kernel_rfl) rfl (Kan [.slice pl nl cl] rfl rfl Tryz.func33 (by kernel_rfl) (by kernel_rfl)) ?_
             refine (hri _ hS).mono ?_
             rintro e W29 ⟨rfl,hb29⟩
             have hS29:=Kaa hS hb29
             refine ⟨_,rfl,.inr hS29,?_⟩
             simp only [Act.put,sA,sZ,sS]
             refine tk 30 77 (v:=.bool false) rfl rfl (fun W hW=>Kap (b:=true) rfl rfl) ?_
             simp only [Act.put,sA,sZ,sS]
             refine tk 31 78 (v:=.bool false) rfl rfl (fun W hW=>rfl) ?_
             simp only [Act.put,sA,sZ,sS]
             refine tk 32 79 (v:=.bool false) rfl rfl (fun W hW=>Kab rfl rfl) ?_
             simp only [Act.put,sA,sZ,sS]
             refine tk 33 80 (v:=.pointer (some ⟨wr.heap.size,2,none⟩)) rfl rfl (fun W hW=>Kac rfl rfl (fa_nd 2 (by omega) _ W)) ?_
             simp only [Act.put,sA,sZ,sS]
             refine tk 34 81 (v:=.slice pp np cp) rfl rfl (fun W hW=>Kad rfl rfl (Kaf (w:=W) Tryz.underlying27 rfl (Kae hW (ltOf c2) c2))) ?_
             simp only [Act.put,sA,sZ,sS]
             cases b6 with
             | true =>
               refine Kao 35 82 rfl rfl (by kernel_rfl) rfl (Kan [.slice pp np cp] rfl rfl Tryz.func34 (by kernel_rfl) (by kernel_rfl)) ?_
               refine (hpr _ hS29).mono ?_
               rintro e W35 ⟨rfl,hb35⟩
               have hS35:=Kaa hS29 hb35
               refine ⟨_,rfl,.inr hS35,?_⟩
               simp only [Act.put,sA,sZ,sS]
               refine tk 36 83 (v:=.bool false) rfl rfl (fun W hW=>Kap (b:=true) rfl rfl) ?_
               simp only [Act.put,sA,sZ,sS]
               refine tk 37 84 (v:=.bool false) rfl rfl (fun W hW=>rfl) ?_
               simp only [Act.put,sA,sZ,sS]
               refine done (by kernel_rfl) ?_ _
               have HB:=yh (Kaa HB1.out hS35)
               clear hS hS29 hb29 hS35 hb35 c0 c1 c2 g0 g2 c9 hri hpr hi0 hsub h1 h2 h3 h4 hB0 HY 
               go_wp2
               go_roundw
               case rel=>exact ⟨j + 1,hlt1,by go_num,yh ⟨HALL.out.1 rfl,HB.out⟩⟩
               case measure=>simp [intOf];omega
             | false =>
               refine Kao 35 82 rfl rfl (by kernel_rfl) rfl (Kan [.slice pp np cp] rfl rfl Tryz.func34 (by kernel_rfl) (by kernel_rfl)) ?_
               refine (hpr _ hS29).mono ?_
               rintro e W35 ⟨rfl,hb35⟩
               have hS35:=Kaa hS29 hb35
               refine ⟨_,rfl,.inr hS35,?_⟩
               simp only [Act.put,sA,sZ,sS]
               refine tk 36 83 (v:=.bool true) rfl rfl (fun W hW=>Kap (b:=false) rfl rfl) ?_
               simp only [Act.put,sA,sZ,sS]
               refine tk 37 84 (v:=.bool true) rfl rfl (fun W hW=>rfl) ?_
               simp only [Act.put,sA,sZ,sS]
               refine done (by kernel_rfl) ?_ _
               have HB:=yh (Kaa HB1.out hS35)
               clear hS hS29 hb29 hS35 hb35 c0 c1 c2 g0 g2 c9 hri hpr hi0 hsub h1 h2 h3 h4 hB0 HY 
               go_wp2
               go_ret
               exact ⟨Kak (HALL.out.2 (by simp)).symm,Kaa HX.out.2.2.1 HB.out⟩
           | false =>
             refine Kao 29 76 rfl rfl (by kernel_rfl) rfl (Kan [.slice pl nl cl] rfl rfl Tryz.func33 (by kernel_rfl) (by kernel_rfl)) ?_
             refine (hri _ hS).mono ?_
             rintro e W29 ⟨rfl,hb29⟩
             have hS29:=Kaa hS hb29
             refine ⟨_,rfl,.inr hS29,?_⟩
             simp only [Act.put,sA,sZ,sS]
             refine tk 30 77 (v:=.bool true) rfl rfl (fun W hW=>Kap (b:=false) rfl rfl) ?_
             simp only [Act.put,sA,sZ,sS]
             refine tk 31 78 (v:=.bool true) rfl rfl (fun W hW=>rfl) ?_
             simp only [Act.put,sA,sZ,sS]
             refine tk 32 79 (v:=.bool true) rfl rfl (fun W hW=>Kab rfl rfl) ?_
             simp only [Act.put,sA,sZ,sS]
             refine tn 33 80 rfl rfl ?_
             simp only [Act.put,sA,sZ,sS]
             refine tn 34 81 rfl rfl ?_
             simp only [Act.put,sA,sZ,sS]
             refine Kau 35 82 rfl rfl (by kernel_rfl) rfl ?_ (.inr (by assumption))
             simp only [Act.put,sA,sZ,sS]
             refine tn 36 83 rfl rfl ?_
             simp only [Act.put,sA,sZ,sS]
             refine tk 37 84 (v:=.bool true) rfl rfl (fun W hW=>rfl) ?_
             simp only [Act.put,sA,sZ,sS]
             refine done (by kernel_rfl) ?_ _
             have HB:=yh (Kaa HB1.out hS29)
             clear hS hS29 hb29 c0 c1 c2 g0 g2 c9 hri hpr hi0 hsub h1 h2 h3 h4 hB0 HY 
             go_wp2
             go_ret
             exact ⟨Kak (HALL.out.2 (by simp)).symm,Kaa HX.out.2.2.1 HB.out⟩
    ·obtain rfl : j = g.nodes.length:=by omega
     have HN:=yh HJ.out.1
     have HBW:=yh HJ.out.2
     have p0:=Kae HJ.out.2 (ltOf HX.out.2.2.2.2.1) HX.out.2.2.2.2.1
     have q1:=Kae HJ.out.2 (ltOf HX.out.2.2.2.2.2.1) HX.out.2.2.2.2.2.1
     clear HJ
     go_wp2
     clear p0 q1
     go_loopw [5] (fun i wr=>∃ j : Nat,j ≤ g.rels.length ∧ i = .int .i64 (j : Int) ∧ Hid (okRsP g j = true ∧ Below w1.heap.size w1 wr)) (fun i _=>g.rels.length - (intOf i).toNat)
     case atStart=>exact ⟨0,Nat.zero_le _,rfl,yh ⟨rfl,HBW.out⟩⟩
     case round =>
      rename_i wr0 wr
      clear HBW
      obtain ⟨j,hj,rfl,HJ⟩:=hrel
      by_cases hlt : j < g.rels.length
      ·have hlt1:=Nat.succ_le_of_lt hlt
       have hbw : Below w1.heap.size w1 wr:=HJ.out.2
       obtain ⟨bk,ok,cs,rfl,hs,hc,hv⟩:=HX.out.2.2.2.1.get hlt
       have hvl:=hv
       have gw : wr.cell? ⟨w.heap.size,1,none⟩ = some (.slice (some ⟨bk,ok,none⟩) g.rels.length cr):=Kae hbw (ltOf HX.out.2.2.2.2.2.1) HX.out.2.2.2.2.2.1 -- gw
       have hb9 : 0 < j → ∃ id0,w1.cell? ⟨bk,ok + (j - 1) * 5,none⟩ = some (.int .i64 id0) ∧ ∀ hh : j - 1 < g.rels.length,g.rels[j - 1].id = id0:=fun h0=>by
        obtain ⟨bk2,ok2,cs0,e2,hs0,hc0,hv0⟩:=HX.out.2.2.2.1.get (show j - 1 < g.rels.length by omega)
        cases e2
        have hq0 : w1.cell? ⟨bk,ok + (j - 1) * 5,none⟩ = some (.int .i64 (g.rels[j - 1]'(by omega)).id):=by
         obtain ⟨_,_,rfl,_⟩:=hv0
         exact hc0 0 _ rfl
        exact ⟨_,hq0,fun _=>rfl⟩
       obtain ⟨id0,hid0⟩ : ∃ id0,0 < j → w1.cell? ⟨bk,ok + (j - 1) * 5,none⟩ = some (.int .i64 id0) ∧ ∀ hh : j - 1 < g.rels.length,g.rels[j - 1].id = id0:=by
        by_cases h0 : 0 < j
        ·obtain ⟨a,b⟩:=hb9 h0;exact ⟨a,fun _=>b⟩
        ·exact ⟨0,fun h=>absurd h h0⟩
       have hst:=okRsP_step hlt (decide (g.rels[j].id ≤ id0)) (fun h0=>by rw [(hid0 h0).2 (by omega)])
       have hno:=okRsP_no (g:=g) (j:=j + 1)
       have hok1:=HJ.out.1
       rw [hok1,Bool.true_and] at hst
       have htv:=HX.out.2.1.2 _ (List.getElem_mem hlt)
       obtain ⟨pp,cp,ecs,hty,hps⟩:=hv
       have hn1:=Kai (w:=wr) (.cells cs 49)
       have hx1:=heap_alloc_new wr (.cells cs 49)
       have HL1:=yh (StT.load (P:=Tryz.prog) (g:=bk) (o:=ok + j * 5) (W:=wr) Kb1 hs fun i u hu=>Kae hbw (ltOf (hc i u hu)) (hc i u hu))
       have HS1:=yh (StT.fresh Kb1 hs (ef_rel.ones hvl) (W:=wr))
       have hbw1:=Kaa hbw hn1
       have c0 : (wr.alloc (.cells cs 49)).cell? ⟨wr.heap.size,0,none⟩ = some (.int .i64 g.rels[j].id):=Kag (o:=0) hx1 (by rw [ecs];rfl)
       have c1 : (wr.alloc (.cells cs 49)).cell? ⟨wr.heap.size,1,none⟩ = some (.int .i64 g.rels[j].src):=Kag (o:=1) hx1 (by rw [ecs];rfl)
       have c2 : (wr.alloc (.cells cs 49)).cell? ⟨wr.heap.size,2,none⟩ = some (.int .i64 g.rels[j].dst):=Kag (o:=2) hx1 (by rw [ecs];rfl)
       have c3 : (wr.alloc (.cells cs 49)).cell? ⟨wr.heap.size,3,none⟩ = some (.string (strB g.rels[j].type)):=Kag (o:=3) hx1 (by rw [ecs];rfl)
       have c4 : (wr.alloc (.cells cs 49)).cell? ⟨wr.heap.size,4,none⟩ = some (.slice pp g.rels[j].props.length cp):=Kag (o:=4) hx1 (by rw [ecs];rfl)
       have g1 : (wr.alloc (.cells cs 49)).cell? ⟨w.heap.size,1,none⟩ = some (.slice (some ⟨bk,ok,none⟩) g.rels.length cr):=Kae hbw1 (ltOf HX.out.2.2.2.2.2.1) HX.out.2.2.2.2.2.1
       have g3 : (wr.alloc (.cells cs 49)).cell? ⟨w.heap.size,3,none⟩ = some (.int .i64 g.nextRel):=Kae hbw1 (ltOf HX.out.2.2.2.2.2.2.2.1) HX.out.2.2.2.2.2.2.2.1
       have hgx : (wr.alloc (.cells cs 49)).heap[w.heap.size]? = some (.cells xg 25 (0,0)):=Kal hbw1 (Array.getElem?_eq_some_iff.1 HG.out.1).1 HG.out.1
       have hgl:=(Array.getElem?_eq_some_iff.1 hgx).1
       have hlg : ∀ W : World,W.heap[w.heap.size]? = some (.cells xg 25 (0,0)) → (loadVar 25 ⟨w.heap.size,0,none⟩).run Tryz.prog W = .ok (.agg xg) W:=fun W hW=>Kbl.get (P:=Tryz.prog) HG.out.2.2 hW
       have hfs:=fun W (gg : Below (wr.alloc (.cells cs 49)).heap.size (wr.alloc (.cells cs 49)) W)=>reffind_any (w:=W) ((HG.out.2.1.below hbw1).below gg) g.rels[j].src
       have hfd:=fun W (gg : Below (wr.alloc (.cells cs 49)).heap.size (wr.alloc (.cells cs 49)) W)=>reffind_any (w:=W) ((HG.out.2.1.below hbw1).below gg) g.rels[j].dst
       have hf7:=fun W=>lss_0 (findAt (g.nodes.map NodeD.id) g.rels[j].src) W
       have hf8:=fun W=>lss_0 (findAt (g.nodes.map NodeD.id) g.rels[j].dst) W
       simp only [hasN_find] at hf7 hf8
       have c9 : 0 < j → (wr.alloc (.cells cs 49)).cell? ⟨bk,ok + (j - 1) * 5,none⟩ = some (.int .i64 id0):=fun h0=>Kae hbw1 (ltOf (hid0 h0).1) (hid0 h0).1
       have hri:=fun W=>refname_any (w:=W) g.rels[j].type hty
       have hpr:=fun W (g : Below (wr.alloc (.cells cs 49)).heap.size (wr.alloc (.cells cs 49)) W)=>refprops_any (w:=W) ((hps.below (fun h=>h.below hbw1) hbw1).below (fun h=>h.below g) g) htv
       have hi0 : 0 < j → ∀ W' : World,(Instr.indexAt 23 (.slice (some ⟨bk,ok,none⟩) g.rels.length cn) (.int .i64 ((j - 1 : Nat) : Int))).run Tryz.prog W' = .ok (.pointer (some ⟨bk,ok + (j - 1) * 5,none⟩)) W':=fun h0 W'=>ia_rel (by omega) W'
       have hsub : 0 < j → ∀ W : World,(binOp .sub 3 (.int .i64 (j : Int)) (.int .i64 1)).run Tryz.prog W = .ok (.int .i64 ((j - 1 : Nat) : Int)) W:=fun h0=>sub_nat h0 (by have:=HX.out.2.2.2.2.2.2.2.2;omega)
       have h1:=fun W=>lss_i g.rels[j].id 0 W
       have h2:=fun W=>geq_i g.rels[j].id g.nextRel W
       have h3:=gtr_nat (j:=j)
       have h4:=fun W=>geq_i id0 g.rels[j].id W
       obtain ⟨b1,hb1⟩ : ∃ b,b = decide (g.rels[j].id < 0):=⟨_,rfl⟩
       obtain ⟨b2,hb2⟩ : ∃ b,b = decide (g.nextRel ≤ g.rels[j].id):=⟨_,rfl⟩
       obtain ⟨b3,hb3⟩ : ∃ b,b = decide (0 < j):=⟨_,rfl⟩
       obtain ⟨b4,hb4⟩ : ∃ b,b = decide (g.rels[j].id ≤ id0):=⟨_,rfl⟩
       obtain ⟨b5,hb5⟩ : ∃ b,b = okNm g.rels[j].type:=⟨_,rfl⟩
       obtain ⟨b6,hb6⟩ : ∃ b,b = okPs g.rels[j].props:=⟨_,rfl⟩
       obtain ⟨b7,hb7⟩ : ∃ b,b = hasN g g.rels[j].src:=⟨_,rfl⟩
       obtain ⟨b8,hb8⟩ : ∃ b,b = hasN g g.rels[j].dst:=⟨_,rfl⟩
       simp only [← hb1,← hb2,← hb3,← hb4,← hb5,← hb6,← hb7,← hb8] at h1 h2 h3 h4 hri hpr hst hf7 hf8
       have hst1 : (!b1 && !b2 && !(b3 && b4) && b5 && b6 && b7 && b8) = true → okRsP g (j + 1) = true:=fun h=>by rw [hst];exact h
       have hst2 : (!b1 && !b2 && !(b3 && b4) && b5 && b6 && b7 && b8) = false → okG g = false:=fun h=>hno (by rw [hst];exact h)
       have HALL:=yh (And.intro hst1 hst2)
       have hj0 : b3 = true → 0 < j:=fun e=>by rw [hb3] at e;simpa using e
       have hc9:=fun e=>c9 (hj0 e)
       have hhi0:=fun e=>hi0 (hj0 e)
       have hhsub:=fun e=>hsub (hj0 e)
       have HB1:=yh hbw1
       have hB0 : Below (wr.alloc (.cells cs 49)).heap.size (wr.alloc (.cells cs 49)) (wr.alloc (.cells cs 49)).drew:=(Below.refl _ _).drew
       generalize g.rels[j].id = id at *
       generalize findAt (g.nodes.map NodeD.id) g.rels[j].src = fs at *
       generalize findAt (g.nodes.map NodeD.id) g.rels[j].dst = fd at *
       generalize g.rels[j].src = src at *
       generalize g.rels[j].dst = dst at *
       generalize g.rels[j].type = ty at *
       generalize g.rels[j].props.length = np at *
       have HY:=yh (And.intro c0 (And.intro c1 (And.intro c2 (And.intro c3 (And.intro c4 (And.intro g1 (And.intro g3 (And.intro hgx (And.intro hgl (And.intro hlg (And.intro hfs (And.intro hfd (And.intro hf7 (And.intro hf8 (And.intro hc9 (And.intro hri (And.intro hpr (And.intro hhi0 (And.intro hhsub (And.intro h1 (And.intro h2 (And.intro h3 (And.intro h4 hB0)))))))))))))))))))))))
       clear c0 c1 c2 c3 c4 g1 g3 hgx hgl hlg hfs hfd hf7 hf8 hb7 hb8 hty c9 hc9 hri hpr hi0 hsub hhi0 hhsub h1 h2 h3 h4 hB0 hst hst1 hst2 hno hok1 hb1 hb2 hb3 hb4 hb5 hb6 hj0 hb9 hid0 hbw hbw1 hn1 hx1 hs hc hvl hps ecs htv HJ
       go_wp2_with (first
        | ((with_reducible apply Kaq);exact HL1.out;exact rfl;clear HL1)
        | ((with_reducible apply Kar);exact HS1.out _ rfl;exact rfl;exact rfl;clear HS1))
       clear gw
       obtain ⟨c0,c1,c2,c3,c4,g1,g3,hgx,hgl,hlg,hfs,hfd,hf7,hf8,c9,hri,hpr,hi0,hsub,h1,h2,h3,h4,hB0⟩:=HY.out
       refine Kah (fun W=>Below (wr.alloc (.cells cs 49)).heap.size (wr.alloc (.cells cs 49)) W) (by kernel_rfl) hB0 (fun hS=>?_)
       refine tk 0 97 (v:=.pointer (some ⟨wr.heap.size,0,none⟩)) rfl rfl (fun W hW=>Kac rfl rfl (fa_rl 0 (by omega) _ W)) ?_
       simp only [Act.put,sA,sZ,sS]
       refine tk 1 98 (v:=.int .i64 id) rfl rfl (fun W hW=>Kad rfl rfl (Kaf (w:=W) Tryz.underlying2 rfl (Kae hW (ltOf c0) c0))) ?_
       simp only [Act.put,sA,sZ,sS]
       cases b1 with
       | true =>
         refine tk 2 99 (v:=.bool true) rfl rfl (fun W hW=>Kam rfl rfl rfl (h1 W)) ?_
         simp only [Act.put,sA,sZ,sS]
         refine tk 3 100 (v:=.bool true) rfl rfl (fun W hW=>Kab rfl rfl) ?_
         simp only [Act.put,sA,sZ,sS]
         refine tn 4 101 rfl rfl ?_
         simp only [Act.put,sA,sZ,sS]
         refine tn 5 102 rfl rfl ?_
         simp only [Act.put,sA,sZ,sS]
         refine tn 6 103 rfl rfl ?_
         simp only [Act.put,sA,sZ,sS]
         refine tn 7 104 rfl rfl ?_
         simp only [Act.put,sA,sZ,sS]
         refine tn 8 105 rfl rfl ?_
         simp only [Act.put,sA,sZ,sS]
         refine tk 9 106 (v:=.bool true) rfl rfl (fun W hW=>rfl) ?_
         simp only [Act.put,sA,sZ,sS]
         refine tk 10 107 (v:=.bool true) rfl rfl (fun W hW=>Kab rfl rfl) ?_
         simp only [Act.put,sA,sZ,sS]
         refine tn 11 108 rfl rfl ?_
         simp only [Act.put,sA,sZ,sS]
         refine tn 12 109 rfl rfl ?_
         simp only [Act.put,sA,sZ,sS]
         refine tn 13 110 rfl rfl ?_
         simp only [Act.put,sA,sZ,sS]
         refine tn 14 111 rfl rfl ?_
         simp only [Act.put,sA,sZ,sS]
         refine tn 15 112 rfl rfl ?_
         simp only [Act.put,sA,sZ,sS]
         refine tn 16 113 rfl rfl ?_
         simp only [Act.put,sA,sZ,sS]
         refine tn 17 114 rfl rfl ?_
         simp only [Act.put,sA,sZ,sS]
         refine tn 18 115 rfl rfl ?_
         simp only [Act.put,sA,sZ,sS]
         refine tn 19 116 rfl rfl ?_
         simp only [Act.put,sA,sZ,sS]
         refine tn 20 117 rfl rfl ?_
         simp only [Act.put,sA,sZ,sS]
         refine tn 21 118 rfl rfl ?_
         simp only [Act.put,sA,sZ,sS]
         refine tn 22 119 rfl rfl ?_
         simp only [Act.put,sA,sZ,sS]
         refine tn 23 120 rfl rfl ?_
         simp only [Act.put,sA,sZ,sS]
         refine tn 24 121 rfl rfl ?_
         simp only [Act.put,sA,sZ,sS]
         refine tk 25 122 (v:=.bool true) rfl rfl (fun W hW=>rfl) ?_
         simp only [Act.put,sA,sZ,sS]
         refine tk 26 123 (v:=.bool true) rfl rfl (fun W hW=>Kab rfl rfl) ?_
         simp only [Act.put,sA,sZ,sS]
         refine tn 27 124 rfl rfl ?_
         simp only [Act.put,sA,sZ,sS]
         refine tn 28 125 rfl rfl ?_
         simp only [Act.put,sA,sZ,sS]
         refine Kau 29 126 rfl rfl (by kernel_rfl) rfl ?_ (.inr (by assumption))
         simp only [Act.put,sA,sZ,sS]
         refine tn 30 127 rfl rfl ?_
         simp only [Act.put,sA,sZ,sS]
         refine tk 31 128 (v:=.bool true) rfl rfl (fun W hW=>rfl) ?_
         simp only [Act.put,sA,sZ,sS]
         refine tk 32 129 (v:=.bool true) rfl rfl (fun W hW=>Kab rfl rfl) ?_
         simp only [Act.put,sA,sZ,sS]
         refine tn 33 130 rfl rfl ?_
         simp only [Act.put,sA,sZ,sS]
         refine tn 34 131 rfl rfl ?_
         simp only [Act.put,sA,sZ,sS]
         refine Kau 35 132 rfl rfl (by kernel_rfl) rfl ?_ (.inr (by assumption))
         simp only [Act.put,sA,sZ,sS]
         refine tn 36 133 rfl rfl ?_
         simp only [Act.put,sA,sZ,sS]
         refine tk 37 134 (v:=.bool true) rfl rfl (fun W hW=>rfl) ?_
         simp only [Act.put,sA,sZ,sS]
         refine tk 38 135 (v:=.bool true) rfl rfl (fun W hW=>Kab rfl rfl) ?_
         simp only [Act.put,sA,sZ,sS]
         refine tn 39 136 rfl rfl ?_
         simp only [Act.put,sA,sZ,sS]
         refine tn 40 137 rfl rfl ?_
         simp only [Act.put,sA,sZ,sS]
         refine tn 41 138 rfl rfl ?_
         simp only [Act.put,sA,sZ,sS]
         refine Kau 42 139 rfl rfl (by kernel_rfl) rfl ?_ (.inr (by assumption))
         simp only [Act.put,sA,sZ,sS]
         refine tn 43 140 rfl rfl ?_
         simp only [Act.put,sA,sZ,sS]
         refine tk 44 141 (v:=.bool true) rfl rfl (fun W hW=>rfl) ?_
         simp only [Act.put,sA,sZ,sS]
         refine tk 45 142 (v:=.bool true) rfl rfl (fun W hW=>Kab rfl rfl) ?_
         simp only [Act.put,sA,sZ,sS]
         refine tn 46 143 rfl rfl ?_
         simp only [Act.put,sA,sZ,sS]
         refine tn 47 144 rfl rfl ?_
         simp only [Act.put,sA,sZ,sS]
         refine tn 48 145 rfl rfl ?_
         simp only [Act.put,sA,sZ,sS]
         refine Kau 49 146 rfl rfl (by kernel_rfl) rfl ?_ (.inr (by assumption))
         simp only [Act.put,sA,sZ,sS]
         refine tn 50 147 rfl rfl ?_
         simp only [Act.put,sA,sZ,sS]
         refine tk 51 148 (v:=.bool true) rfl rfl (fun W hW=>rfl) ?_
         simp only [Act.put,sA,sZ,sS]
         refine done (by kernel_rfl) ?_ _
         have HB:=yh (Kaa HB1.out hS)
         clear hS c0 c1 c2 c3 c4 g1 g3 hgx hgl hlg hfs hfd hf7 hf8 c9 hri hpr hi0 hsub h1 h2 h3 h4 hB0 HY 
         go_wp2
         go_ret
         exact ⟨Kak (HALL.out.2 (by simp)).symm,Kaa HX.out.2.2.1 HB.out⟩
       | false =>
         refine tk 2 99 (v:=.bool false) rfl rfl (fun W hW=>Kam rfl rfl rfl (h1 W)) ?_
         simp only [Act.put,sA,sZ,sS]
         refine tk 3 100 (v:=.bool false) rfl rfl (fun W hW=>Kab rfl rfl) ?_
         simp only [Act.put,sA,sZ,sS]
         refine tk 4 101 (v:=.pointer (some ⟨wr.heap.size,0,none⟩)) rfl rfl (fun W hW=>Kac rfl rfl (fa_rl 0 (by omega) _ W)) ?_
         simp only [Act.put,sA,sZ,sS]
         refine tk 5 102 (v:=.int .i64 id) rfl rfl (fun W hW=>Kad rfl rfl (Kaf (w:=W) Tryz.underlying2 rfl (Kae hW (ltOf c0) c0))) ?_
         simp only [Act.put,sA,sZ,sS]
         refine tk 6 103 (v:=.pointer (some ⟨w.heap.size,3,none⟩)) rfl rfl (fun W hW=>Kac rfl rfl (fa_gr 3 (by omega) _ W)) ?_
         simp only [Act.put,sA,sZ,sS]
         refine tk 7 104 (v:=.int .i64 g.nextRel) rfl rfl (fun W hW=>Kad rfl rfl (Kaf (w:=W) Tryz.underlying2 rfl (Kae hW (ltOf g3) g3))) ?_
         simp only [Act.put,sA,sZ,sS]
         cases b2 with
         | true =>
           refine tk 8 105 (v:=.bool true) rfl rfl (fun W hW=>Kam rfl rfl rfl (h2 W)) ?_
           simp only [Act.put,sA,sZ,sS]
           refine tk 9 106 (v:=.bool true) rfl rfl (fun W hW=>rfl) ?_
           simp only [Act.put,sA,sZ,sS]
           refine tk 10 107 (v:=.bool true) rfl rfl (fun W hW=>Kab rfl rfl) ?_
           simp only [Act.put,sA,sZ,sS]
           refine tn 11 108 rfl rfl ?_
           simp only [Act.put,sA,sZ,sS]
           refine tn 12 109 rfl rfl ?_
           simp only [Act.put,sA,sZ,sS]
           refine tn 13 110 rfl rfl ?_
           simp only [Act.put,sA,sZ,sS]
           refine tn 14 111 rfl rfl ?_
           simp only [Act.put,sA,sZ,sS]
           refine tn 15 112 rfl rfl ?_
           simp only [Act.put,sA,sZ,sS]
           refine tn 16 113 rfl rfl ?_
           simp only [Act.put,sA,sZ,sS]
           refine tn 17 114 rfl rfl ?_
           simp only [Act.put,sA,sZ,sS]
           refine tn 18 115 rfl rfl ?_
           simp only [Act.put,sA,sZ,sS]
           refine tn 19 116 rfl rfl ?_
           simp only [Act.put,sA,sZ,sS]
           refine tn 20 117 rfl rfl ?_
           simp only [Act.put,sA,sZ,sS]
           refine tn 21 118 rfl rfl ?_
           simp only [Act.put,sA,sZ,sS]
           refine tn 22 119 rfl rfl ?_
           simp only [Act.put,sA,sZ,sS]
           refine tn 23 120 rfl rfl ?_
           simp only [Act.put,sA,sZ,sS]
           refine tn 24 121 rfl rfl ?_
           simp only [Act.put,sA,sZ,sS]
           refine tk 25 122 (v:=.bool true) rfl rfl (fun W hW=>rfl) ?_
           simp only [Act.put,sA,sZ,sS]
           refine tk 26 123 (v:=.bool true) rfl rfl (fun W hW=>Kab rfl rfl) ?_
           simp only [Act.put,sA,sZ,sS]
           refine tn 27 124 rfl rfl ?_
           simp only [Act.put,sA,sZ,sS]
           refine tn 28 125 rfl rfl ?_
           simp only [Act.put,sA,sZ,sS]
           refine Kau 29 126 rfl rfl (by kernel_rfl) rfl ?_ (.inr (by assumption))
           simp only [Act.put,sA,sZ,sS]
           refine tn 30 127 rfl rfl ?_
           simp only [Act.put,sA,sZ,sS]
           refine tk 31 128 (v:=.bool true) rfl rfl (fun W hW=>rfl) ?_
           simp only [Act.put,sA,sZ,sS]
           refine tk 32 129 (v:=.bool true) rfl rfl (fun W hW=>Kab rfl rfl) ?_
           simp only [Act.put,sA,sZ,sS]
           refine tn 33 130 rfl rfl ?_
           simp only [Act.put,sA,sZ,sS]
           refine tn 34 131 rfl rfl ?_
           simp only [Act.put,sA,sZ,sS]
           refine Kau 35 132 rfl rfl (by kernel_rfl) rfl ?_ (.inr (by assumption))
           simp only [Act.put,sA,sZ,sS]
           refine tn 36 133 rfl rfl ?_
           simp only [Act.put,sA,sZ,sS]
           refine tk 37 134 (v:=.bool true) rfl rfl (fun W hW=>rfl) ?_
           simp only [Act.put,sA,sZ,sS]
           refine tk 38 135 (v:=.bool true) rfl rfl (fun W hW=>Kab rfl rfl) ?_
           simp only [Act.put,sA,sZ,sS]
           refine tn 39 136 rfl rfl ?_
           simp only [Act.put,sA,sZ,sS]
           refine tn 40 137 rfl rfl ?_
           simp only [Act.put,sA,sZ,sS]
           refine tn 41 138 rfl rfl ?_
           simp only [Act.put,sA,sZ,sS]
           refine Kau 42 139 rfl rfl (by kernel_rfl) rfl ?_ (.inr (by assumption))
           simp only [Act.put,sA,sZ,sS]
           refine tn 43 140 rfl rfl ?_
           simp only [Act.put,sA,sZ,sS]
           refine tk 44 141 (v:=.bool true) rfl rfl (fun W hW=>rfl) ?_
           simp only [Act.put,sA,sZ,sS]
           refine tk 45 142 (v:=.bool true) rfl rfl (fun W hW=>Kab rfl rfl) ?_
           simp only [Act.put,sA,sZ,sS]
           refine tn 46 143 rfl rfl ?_
           simp only [Act.put,sA,sZ,sS]
           refine tn 47 144 rfl rfl ?_
           simp only [Act.put,sA,sZ,sS]
           refine tn 48 145 rfl rfl ?_
           simp only [Act.put,sA,sZ,sS]
           refine Kau 49 146 rfl rfl (by kernel_rfl) rfl ?_ (.inr (by assumption))
           simp only [Act.put,sA,sZ,sS]
           refine tn 50 147 rfl rfl ?_
           simp only [Act.put,sA,sZ,sS]
           refine tk 51 148 (v:=.bool true) rfl rfl (fun W hW=>rfl) ?_
           simp only [Act.put,sA,sZ,sS]
           refine done (by kernel_rfl) ?_ _
           have HB:=yh (Kaa HB1.out hS)
           clear hS c0 c1 c2 c3 c4 g1 g3 hgx hgl hlg hfs hfd hf7 hf8 c9 hri hpr hi0 hsub h1 h2 h3 h4 hB0 HY 
           go_wp2
           go_ret
           exact ⟨Kak (HALL.out.2 (by simp)).symm,Kaa HX.out.2.2.1 HB.out⟩
         | false =>
           refine tk 8 105 (v:=.bool false) rfl rfl (fun W hW=>Kam rfl rfl rfl (h2 W)) ?_
           simp only [Act.put,sA,sZ,sS]
           refine tk 9 106 (v:=.bool false) rfl rfl (fun W hW=>rfl) ?_
           simp only [Act.put,sA,sZ,sS]
           refine tk 10 107 (v:=.bool false) rfl rfl (fun W hW=>Kab rfl rfl) ?_
           simp only [Act.put,sA,sZ,sS]
           refine tk 11 108 (v:=.int .i64 (j : Int)) rfl rfl (fun W hW=>Kab rfl rfl) ?_
           simp only [Act.put,sA,sZ,sS]
           cases b3 with
           | true =>
             have c9:=c9 rfl
             have hi0:=hi0 rfl
             have hsub:=hsub rfl
             refine tk 12 109 (v:=.bool true) rfl rfl (fun W hW=>Kam rfl rfl rfl (h3 W)) ?_
             simp only [Act.put,sA,sZ,sS]
             refine tk 13 110 (v:=.bool true) rfl rfl (fun W hW=>Kab rfl rfl) ?_
             simp only [Act.put,sA,sZ,sS]
             refine tk 14 111 (v:=.pointer (some ⟨w.heap.size,1,none⟩)) rfl rfl (fun W hW=>Kac rfl rfl (fa_gr 1 (by omega) _ W)) ?_
             simp only [Act.put,sA,sZ,sS]
             refine tk 15 112 (v:=.slice (some ⟨bk,ok,none⟩) g.rels.length cr) rfl rfl (fun W hW=>Kad rfl rfl (Kaf (w:=W) Tryz.underlying23 rfl (Kae hW (ltOf g1) g1))) ?_
             simp only [Act.put,sA,sZ,sS]
             refine tk 16 113 (v:=.int .i64 (j : Int)) rfl rfl (fun W hW=>Kab rfl rfl) ?_
             simp only [Act.put,sA,sZ,sS]
             refine tk 17 114 (v:=.int .i64 ((j - 1 : Nat) : Int)) rfl rfl (fun W hW=>Kam rfl rfl rfl (hsub W)) ?_
             simp only [Act.put,sA,sZ,sS]
             refine tk 18 115 (v:=.pointer (some ⟨bk,ok + (j - 1) * 5,none⟩)) rfl rfl (fun W hW=>Kaj rfl rfl rfl (hi0 W)) ?_
             simp only [Act.put,sA,sZ,sS]
             refine tk 19 116 (v:=.pointer (some ⟨bk,ok + (j - 1) * 5,none⟩)) rfl rfl (fun W hW=>Kac rfl rfl (fa_rlO _ _ W)) ?_
             simp only [Act.put,sA,sZ,sS]
             refine tk 20 117 (v:=.int .i64 id0) rfl rfl (fun W hW=>Kad rfl rfl (Kaf (w:=W) Tryz.underlying2 rfl (Kae hW (ltOf c9) c9))) ?_
             simp only [Act.put,sA,sZ,sS]
             refine tk 21 118 (v:=.pointer (some ⟨wr.heap.size,0,none⟩)) rfl rfl (fun W hW=>Kac rfl rfl (fa_rl 0 (by omega) _ W)) ?_
             simp only [Act.put,sA,sZ,sS]
             refine tk 22 119 (v:=.int .i64 id) rfl rfl (fun W hW=>Kad rfl rfl (Kaf (w:=W) Tryz.underlying2 rfl (Kae hW (ltOf c0) c0))) ?_
             simp only [Act.put,sA,sZ,sS]
             cases b4 with
             | true =>
               refine tk 23 120 (v:=.bool true) rfl rfl (fun W hW=>Kam rfl rfl rfl (h4 W)) ?_
               simp only [Act.put,sA,sZ,sS]
               refine tk 24 121 (v:=.bool true) rfl rfl (fun W hW=>rfl) ?_
               simp only [Act.put,sA,sZ,sS]
               refine tk 25 122 (v:=.bool true) rfl rfl (fun W hW=>rfl) ?_
               simp only [Act.put,sA,sZ,sS]
               refine tk 26 123 (v:=.bool true) rfl rfl (fun W hW=>Kab rfl rfl) ?_
               simp only [Act.put,sA,sZ,sS]
               refine tn 27 124 rfl rfl ?_
               simp only [Act.put,sA,sZ,sS]
               refine tn 28 125 rfl rfl ?_
               simp only [Act.put,sA,sZ,sS]
               refine Kau 29 126 rfl rfl (by kernel_rfl) rfl ?_ (.inr (by assumption))
               simp only [Act.put,sA,sZ,sS]
               refine tn 30 127 rfl rfl ?_
               simp only [Act.put,sA,sZ,sS]
               refine tk 31 128 (v:=.bool true) rfl rfl (fun W hW=>rfl) ?_
               simp only [Act.put,sA,sZ,sS]
               refine tk 32 129 (v:=.bool true) rfl rfl (fun W hW=>Kab rfl rfl) ?_
               simp only [Act.put,sA,sZ,sS]
               refine tn 33 130 rfl rfl ?_
               simp only [Act.put,sA,sZ,sS]
               refine tn 34 131 rfl rfl ?_
               simp only [Act.put,sA,sZ,sS]
               refine Kau 35 132 rfl rfl (by kernel_rfl) rfl ?_ (.inr (by assumption))
               simp only [Act.put,sA,sZ,sS]
               refine tn 36 133 rfl rfl ?_
               simp only [Act.put,sA,sZ,sS]
               refine tk 37 134 (v:=.bool true) rfl rfl (fun W hW=>rfl) ?_
               simp only [Act.put,sA,sZ,sS]
               refine tk 38 135 (v:=.bool true) rfl rfl (fun W hW=>Kab rfl rfl) ?_
               simp only [Act.put,sA,sZ,sS]
               refine tn 39 136 rfl rfl ?_
               simp only [Act.put,sA,sZ,sS]
               refine tn 40 137 rfl rfl ?_
               simp only [Act.put,sA,sZ,sS]
               refine tn 41 138 rfl rfl ?_
               simp only [Act.put,sA,sZ,sS]
               refine Kau 42 139 rfl rfl (by kernel_rfl) rfl ?_ (.inr (by assumption))
               simp only [Act.put,sA,sZ,sS]
               refine tn 43 140 rfl rfl ?_
               simp only [Act.put,sA,sZ,sS]
               refine tk 44 141 (v:=.bool true) rfl rfl (fun W hW=>rfl) ?_
               simp only [Act.put,sA,sZ,sS]
               refine tk 45 142 (v:=.bool true) rfl rfl (fun W hW=>Kab rfl rfl) ?_
               simp only [Act.put,sA,sZ,sS]
               refine tn 46 143 rfl rfl ?_
               simp only [Act.put,sA,sZ,sS]
               refine tn 47 144 rfl rfl ?_
               simp only [Act.put,sA,sZ,sS]
               refine tn 48 145 rfl rfl ?_
               simp only [Act.put,sA,sZ,sS]
               refine Kau 49 146 rfl rfl (by kernel_rfl) rfl ?_ (.inr (by assumption))
               simp only [Act.put,sA,sZ,sS]
               refine tn 50 147 rfl rfl ?_
               simp only [Act.put,sA,sZ,sS]
               refine tk 51 148 (v:=.bool true) rfl rfl (fun W hW=>rfl) ?_
               simp only [Act.put,sA,sZ,sS]
               refine done (by kernel_rfl) ?_ _
               have HB:=yh (Kaa HB1.out hS)
               clear hS c0 c1 c2 c3 c4 g1 g3 hgx hgl hlg hfs hfd hf7 hf8 c9 hri hpr hi0 hsub h1 h2 h3 h4 hB0 HY 
               go_wp2
               go_ret
               exact ⟨Kak (HALL.out.2 (by simp)).symm,Kaa HX.out.2.2.1 HB.out⟩
             | false =>
               refine tk 23 120 (v:=.bool false) rfl rfl (fun W hW=>Kam rfl rfl rfl (h4 W)) ?_
               simp only [Act.put,sA,sZ,sS]
               refine tk 24 121 (v:=.bool false) rfl rfl (fun W hW=>rfl) ?_
               simp only [Act.put,sA,sZ,sS]
               refine tk 25 122 (v:=.bool false) rfl rfl (fun W hW=>rfl) ?_
               simp only [Act.put,sA,sZ,sS]
               refine tk 26 123 (v:=.bool false) rfl rfl (fun W hW=>Kab rfl rfl) ?_
               simp only [Act.put,sA,sZ,sS]
               refine tk 27 124 (v:=.pointer (some ⟨wr.heap.size,3,none⟩)) rfl rfl (fun W hW=>Kac rfl rfl (fa_rl 3 (by omega) _ W)) ?_
               simp only [Act.put,sA,sZ,sS]
               refine tk 28 125 (v:=.string (strB ty)) rfl rfl (fun W hW=>Kad rfl rfl (Kaf (w:=W) Tryz.underlying9 rfl (Kae hW (ltOf c3) c3))) ?_
               simp only [Act.put,sA,sZ,sS]
               cases b5 with
               | true =>
                 refine Kao 29 126 rfl rfl (by kernel_rfl) rfl (Kan [.string (strB ty)] rfl rfl Tryz.func35 (by kernel_rfl) (by kernel_rfl)) ?_
                 refine (hri _).mono ?_
                 rintro e W29 ⟨rfl,rfl⟩
                 have hS29:=hS
                 refine ⟨_,rfl,.inr hS29,?_⟩
                 simp only [Act.put,sA,sZ,sS]
                 refine tk 30 127 (v:=.bool false) rfl rfl (fun W hW=>Kap (b:=true) rfl rfl) ?_
                 simp only [Act.put,sA,sZ,sS]
                 refine tk 31 128 (v:=.bool false) rfl rfl (fun W hW=>rfl) ?_
                 simp only [Act.put,sA,sZ,sS]
                 refine tk 32 129 (v:=.bool false) rfl rfl (fun W hW=>Kab rfl rfl) ?_
                 simp only [Act.put,sA,sZ,sS]
                 refine tk 33 130 (v:=.pointer (some ⟨wr.heap.size,4,none⟩)) rfl rfl (fun W hW=>Kac rfl rfl (fa_rl 4 (by omega) _ W)) ?_
                 simp only [Act.put,sA,sZ,sS]
                 refine tk 34 131 (v:=.slice pp np cp) rfl rfl (fun W hW=>Kad rfl rfl (Kaf (w:=W) Tryz.underlying27 rfl (Kae hW (ltOf c4) c4))) ?_
                 simp only [Act.put,sA,sZ,sS]
                 cases b6 with
                 | true =>
                   refine Kao 35 132 rfl rfl (by kernel_rfl) rfl (Kan [.slice pp np cp] rfl rfl Tryz.func34 (by kernel_rfl) (by kernel_rfl)) ?_
                   refine (hpr _ hS29).mono ?_
                   rintro e W35 ⟨rfl,hb35⟩
                   have hS35:=Kaa hS29 hb35
                   refine ⟨_,rfl,.inr hS35,?_⟩
                   simp only [Act.put,sA,sZ,sS]
                   refine tk 36 133 (v:=.bool false) rfl rfl (fun W hW=>Kap (b:=true) rfl rfl) ?_
                   simp only [Act.put,sA,sZ,sS]
                   refine tk 37 134 (v:=.bool false) rfl rfl (fun W hW=>rfl) ?_
                   simp only [Act.put,sA,sZ,sS]
                   refine tk 38 135 (v:=.bool false) rfl rfl (fun W hW=>Kab rfl rfl) ?_
                   simp only [Act.put,sA,sZ,sS]
                   refine tk 39 136 (v:=.agg xg) rfl rfl (fun W hW=>Kad rfl rfl (hlg W (Kal hW hgl hgx))) ?_
                   simp only [Act.put,sA,sZ,sS]
                   refine tk 40 137 (v:=.pointer (some ⟨wr.heap.size,1,none⟩)) rfl rfl (fun W hW=>Kac rfl rfl (fa_rl 1 (by omega) _ W)) ?_
                   simp only [Act.put,sA,sZ,sS]
                   refine tk 41 138 (v:=.int .i64 src) rfl rfl (fun W hW=>Kad rfl rfl (Kaf (w:=W) Tryz.underlying2 rfl (Kae hW (ltOf c1) c1))) ?_
                   simp only [Act.put,sA,sZ,sS]
                   refine Kao 42 139 rfl rfl (by kernel_rfl) rfl (Kan [.agg xg,.int .i64 src] rfl rfl Tryz.func36 (by kernel_rfl) (by kernel_rfl)) ?_
                   refine (hfs _ hS35).mono ?_
                   rintro e W42 ⟨rfl,hb42⟩
                   have hS42:=Kaa hS35 hb42
                   refine ⟨_,rfl,.inr hS42,?_⟩
                   simp only [Act.put,sA,sZ,sS]
                   cases b7 with
                   | true =>
                     refine tk 43 140 (v:=.bool false) rfl rfl (fun W hW=>Kam rfl rfl rfl (hf7 W)) ?_
                     simp only [Act.put,sA,sZ,sS]
                     refine tk 44 141 (v:=.bool false) rfl rfl (fun W hW=>rfl) ?_
                     simp only [Act.put,sA,sZ,sS]
                     refine tk 45 142 (v:=.bool false) rfl rfl (fun W hW=>Kab rfl rfl) ?_
                     simp only [Act.put,sA,sZ,sS]
                     refine tk 46 143 (v:=.agg xg) rfl rfl (fun W hW=>Kad rfl rfl (hlg W (Kal hW hgl hgx))) ?_
                     simp only [Act.put,sA,sZ,sS]
                     refine tk 47 144 (v:=.pointer (some ⟨wr.heap.size,2,none⟩)) rfl rfl (fun W hW=>Kac rfl rfl (fa_rl 2 (by omega) _ W)) ?_
                     simp only [Act.put,sA,sZ,sS]
                     refine tk 48 145 (v:=.int .i64 dst) rfl rfl (fun W hW=>Kad rfl rfl (Kaf (w:=W) Tryz.underlying2 rfl (Kae hW (ltOf c2) c2))) ?_
                     simp only [Act.put,sA,sZ,sS]
                     refine Kao 49 146 rfl rfl (by kernel_rfl) rfl (Kan [.agg xg,.int .i64 dst] rfl rfl Tryz.func36 (by kernel_rfl) (by kernel_rfl)) ?_
                     refine (hfd _ hS42).mono ?_
                     rintro e W49 ⟨rfl,hb49⟩
                     have hS49:=Kaa hS42 hb49
                     refine ⟨_,rfl,.inr hS49,?_⟩
                     simp only [Act.put,sA,sZ,sS]
                     cases b8 with
                     | true =>
                       refine tk 50 147 (v:=.bool false) rfl rfl (fun W hW=>Kam rfl rfl rfl (hf8 W)) ?_
                       simp only [Act.put,sA,sZ,sS]
                       refine tk 51 148 (v:=.bool false) rfl rfl (fun W hW=>rfl) ?_
                       simp only [Act.put,sA,sZ,sS]
                       refine done (by kernel_rfl) ?_ _
                       have HB:=yh (Kaa HB1.out hS49)
                       clear hS hS29 hS35 hb35 hS42 hb42 hS49 hb49 c0 c1 c2 c3 c4 g1 g3 hgx hgl hlg hfs hfd hf7 hf8 c9 hri hpr hi0 hsub h1 h2 h3 h4 hB0 HY 
                       go_wp2
                       go_roundw
                       case rel=>exact ⟨j + 1,hlt1,by go_num,yh ⟨HALL.out.1 rfl,HB.out⟩⟩
                       case measure=>simp [intOf];omega
                     | false =>
                       refine tk 50 147 (v:=.bool true) rfl rfl (fun W hW=>Kam rfl rfl rfl (hf8 W)) ?_
                       simp only [Act.put,sA,sZ,sS]
                       refine tk 51 148 (v:=.bool true) rfl rfl (fun W hW=>rfl) ?_
                       simp only [Act.put,sA,sZ,sS]
                       refine done (by kernel_rfl) ?_ _
                       have HB:=yh (Kaa HB1.out hS49)
                       clear hS hS29 hS35 hb35 hS42 hb42 hS49 hb49 c0 c1 c2 c3 c4 g1 g3 hgx hgl hlg hfs hfd hf7 hf8 c9 hri hpr hi0 hsub h1 h2 h3 h4 hB0 HY 
                       go_wp2
                       go_ret
                       exact ⟨Kak (HALL.out.2 (by simp)).symm,Kaa HX.out.2.2.1 HB.out⟩
                   | false =>
                     refine tk 43 140 (v:=.bool true) rfl rfl (fun W hW=>Kam rfl rfl rfl (hf7 W)) ?_
                     simp only [Act.put,sA,sZ,sS]
                     refine tk 44 141 (v:=.bool true) rfl rfl (fun W hW=>rfl) ?_
                     simp only [Act.put,sA,sZ,sS]
                     refine tk 45 142 (v:=.bool true) rfl rfl (fun W hW=>Kab rfl rfl) ?_
                     simp only [Act.put,sA,sZ,sS]
                     refine tn 46 143 rfl rfl ?_
                     simp only [Act.put,sA,sZ,sS]
                     refine tn 47 144 rfl rfl ?_
                     simp only [Act.put,sA,sZ,sS]
                     refine tn 48 145 rfl rfl ?_
                     simp only [Act.put,sA,sZ,sS]
                     refine Kau 49 146 rfl rfl (by kernel_rfl) rfl ?_ (.inr (by assumption))
                     simp only [Act.put,sA,sZ,sS]
                     refine tn 50 147 rfl rfl ?_
                     simp only [Act.put,sA,sZ,sS]
                     refine tk 51 148 (v:=.bool true) rfl rfl (fun W hW=>rfl) ?_
                     simp only [Act.put,sA,sZ,sS]
                     refine done (by kernel_rfl) ?_ _
                     have HB:=yh (Kaa HB1.out hS42)
                     clear hS hS29 hS35 hb35 hS42 hb42 c0 c1 c2 c3 c4 g1 g3 hgx hgl hlg hfs hfd hf7 hf8 c9 hri hpr hi0 hsub h1 h2 h3 h4 hB0 HY 
                     go_wp2
                     go_ret
                     exact ⟨Kak (HALL.out.2 (by simp)).symm,Kaa HX.out.2.2.1 HB.out⟩
                 | false =>
                   refine Kao 35 132 rfl rfl (by kernel_rfl) rfl (Kan [.slice pp np cp] rfl rfl Tryz.func34 (by kernel_rfl) (by kernel_rfl)) ?_
                   refine (hpr _ hS29).mono ?_
                   rintro e W35 ⟨rfl,hb35⟩
                   have hS35:=Kaa hS29 hb35
                   refine ⟨_,rfl,.inr hS35,?_⟩
                   simp only [Act.put,sA,sZ,sS]
                   refine tk 36 133 (v:=.bool true) rfl rfl (fun W hW=>Kap (b:=false) rfl rfl) ?_
                   simp only [Act.put,sA,sZ,sS]
                   refine tk 37 134 (v:=.bool true) rfl rfl (fun W hW=>rfl) ?_
                   simp only [Act.put,sA,sZ,sS]
                   refine tk 38 135 (v:=.bool true) rfl rfl (fun W hW=>Kab rfl rfl) ?_
                   simp only [Act.put,sA,sZ,sS]
                   refine tn 39 136 rfl rfl ?_
                   simp only [Act.put,sA,sZ,sS]
                   refine tn 40 137 rfl rfl ?_
                   simp only [Act.put,sA,sZ,sS]
                   refine tn 41 138 rfl rfl ?_
                   simp only [Act.put,sA,sZ,sS]
                   refine Kau 42 139 rfl rfl (by kernel_rfl) rfl ?_ (.inr (by assumption))
                   simp only [Act.put,sA,sZ,sS]
                   refine tn 43 140 rfl rfl ?_
                   simp only [Act.put,sA,sZ,sS]
                   refine tk 44 141 (v:=.bool true) rfl rfl (fun W hW=>rfl) ?_
                   simp only [Act.put,sA,sZ,sS]
                   refine tk 45 142 (v:=.bool true) rfl rfl (fun W hW=>Kab rfl rfl) ?_
                   simp only [Act.put,sA,sZ,sS]
                   refine tn 46 143 rfl rfl ?_
                   simp only [Act.put,sA,sZ,sS]
                   refine tn 47 144 rfl rfl ?_
                   simp only [Act.put,sA,sZ,sS]
                   refine tn 48 145 rfl rfl ?_
                   simp only [Act.put,sA,sZ,sS]
                   refine Kau 49 146 rfl rfl (by kernel_rfl) rfl ?_ (.inr (by assumption))
                   simp only [Act.put,sA,sZ,sS]
                   refine tn 50 147 rfl rfl ?_
                   simp only [Act.put,sA,sZ,sS]
                   refine tk 51 148 (v:=.bool true) rfl rfl (fun W hW=>rfl) ?_
                   simp only [Act.put,sA,sZ,sS]
                   refine done (by kernel_rfl) ?_ _
                   have HB:=yh (Kaa HB1.out hS35)
                   clear hS hS29 hS35 hb35 c0 c1 c2 c3 c4 g1 g3 hgx hgl hlg hfs hfd hf7 hf8 c9 hri hpr hi0 hsub h1 h2 h3 h4 hB0 HY 
                   go_wp2
                   go_ret
                   exact ⟨Kak (HALL.out.2 (by simp)).symm,Kaa HX.out.2.2.1 HB.out⟩
               | false =>
                 refine Kao 29 126 rfl rfl (by kernel_rfl) rfl (Kan [.string (strB ty)] rfl rfl Tryz.func35 (by kernel_rfl) (by kernel_rfl)) ?_
                 refine (hri _).mono ?_
                 rintro e W29 ⟨rfl,rfl⟩
                 have hS29:=hS
                 refine ⟨_,rfl,.inr hS29,?_⟩
                 simp only [Act.put,sA,sZ,sS]
                 refine tk 30 127 (v:=.bool true) rfl rfl (fun W hW=>Kap (b:=false) rfl rfl) ?_
                 simp only [Act.put,sA,sZ,sS]
                 refine tk 31 128 (v:=.bool true) rfl rfl (fun W hW=>rfl) ?_
                 simp only [Act.put,sA,sZ,sS]
                 refine tk 32 129 (v:=.bool true) rfl rfl (fun W hW=>Kab rfl rfl) ?_
                 simp only [Act.put,sA,sZ,sS]
                 refine tn 33 130 rfl rfl ?_
                 simp only [Act.put,sA,sZ,sS]
                 refine tn 34 131 rfl rfl ?_
                 simp only [Act.put,sA,sZ,sS]
                 refine Kau 35 132 rfl rfl (by kernel_rfl) rfl ?_ (.inr (by assumption))
                 simp only [Act.put,sA,sZ,sS]
                 refine tn 36 133 rfl rfl ?_
                 simp only [Act.put,sA,sZ,sS]
                 refine tk 37 134 (v:=.bool true) rfl rfl (fun W hW=>rfl) ?_
                 simp only [Act.put,sA,sZ,sS]
                 refine tk 38 135 (v:=.bool true) rfl rfl (fun W hW=>Kab rfl rfl) ?_
                 simp only [Act.put,sA,sZ,sS]
                 refine tn 39 136 rfl rfl ?_
                 simp only [Act.put,sA,sZ,sS]
                 refine tn 40 137 rfl rfl ?_
                 simp only [Act.put,sA,sZ,sS]
                 refine tn 41 138 rfl rfl ?_
                 simp only [Act.put,sA,sZ,sS]
                 refine Kau 42 139 rfl rfl (by kernel_rfl) rfl ?_ (.inr (by assumption))
                 simp only [Act.put,sA,sZ,sS]
                 refine tn 43 140 rfl rfl ?_
                 simp only [Act.put,sA,sZ,sS]
                 refine tk 44 141 (v:=.bool true) rfl rfl (fun W hW=>rfl) ?_
                 simp only [Act.put,sA,sZ,sS]
                 refine tk 45 142 (v:=.bool true) rfl rfl (fun W hW=>Kab rfl rfl) ?_
                 simp only [Act.put,sA,sZ,sS]
                 refine tn 46 143 rfl rfl ?_
                 simp only [Act.put,sA,sZ,sS]
                 refine tn 47 144 rfl rfl ?_
                 simp only [Act.put,sA,sZ,sS]
                 refine tn 48 145 rfl rfl ?_
                 simp only [Act.put,sA,sZ,sS]
                 refine Kau 49 146 rfl rfl (by kernel_rfl) rfl ?_ (.inr (by assumption))
                 simp only [Act.put,sA,sZ,sS]
                 refine tn 50 147 rfl rfl ?_
                 simp only [Act.put,sA,sZ,sS]
                 refine tk 51 148 (v:=.bool true) rfl rfl (fun W hW=>rfl) ?_
                 simp only [Act.put,sA,sZ,sS]
                 refine done (by kernel_rfl) ?_ _
                 have HB:=yh (Kaa HB1.out hS29)
                 clear hS hS29 c0 c1 c2 c3 c4 g1 g3 hgx hgl hlg hfs hfd hf7 hf8 c9 hri hpr hi0 hsub h1 h2 h3 h4 hB0 HY 
                 go_wp2
                 go_ret
                 exact ⟨Kak (HALL.out.2 (by simp)).symm,Kaa HX.out.2.2.1 HB.out⟩
           | false =>
             refine tk 12 109 (v:=.bool false) rfl rfl (fun W hW=>Kam rfl rfl rfl (h3 W)) ?_
             simp only [Act.put,sA,sZ,sS]
             refine tk 13 110 (v:=.bool false) rfl rfl (fun W hW=>Kab rfl rfl) ?_
             simp only [Act.put,sA,sZ,sS]
             refine tn 14 111 rfl rfl ?_
             simp only [Act.put,sA,sZ,sS]
             refine tn 15 112 rfl rfl ?_
             simp only [Act.put,sA,sZ,sS]
             refine tn 16 113 rfl rfl ?_
             simp only [Act.put,sA,sZ,sS]
             refine tn 17 114 rfl rfl ?_
             simp only [Act.put,sA,sZ,sS]
             refine tn 18 115 rfl rfl ?_
             simp only [Act.put,sA,sZ,sS]
             refine tn 19 116 rfl rfl ?_
             simp only [Act.put,sA,sZ,sS]
             refine tn 20 117 rfl rfl ?_
             simp only [Act.put,sA,sZ,sS]
             refine tn 21 118 rfl rfl ?_
             simp only [Act.put,sA,sZ,sS]
             refine tn 22 119 rfl rfl ?_
             simp only [Act.put,sA,sZ,sS]
             refine tn 23 120 rfl rfl ?_
             simp only [Act.put,sA,sZ,sS]
             refine tk 24 121 (v:=.bool false) rfl rfl (fun W hW=>rfl) ?_
             simp only [Act.put,sA,sZ,sS]
             refine tk 25 122 (v:=.bool false) rfl rfl (fun W hW=>rfl) ?_
             simp only [Act.put,sA,sZ,sS]
             refine tk 26 123 (v:=.bool false) rfl rfl (fun W hW=>Kab rfl rfl) ?_
             simp only [Act.put,sA,sZ,sS]
             refine tk 27 124 (v:=.pointer (some ⟨wr.heap.size,3,none⟩)) rfl rfl (fun W hW=>Kac rfl rfl (fa_rl 3 (by omega) _ W)) ?_
             simp only [Act.put,sA,sZ,sS]
             refine tk 28 125 (v:=.string (strB ty)) rfl rfl (fun W hW=>Kad rfl rfl (Kaf (w:=W) Tryz.underlying9 rfl (Kae hW (ltOf c3) c3))) ?_
             simp only [Act.put,sA,sZ,sS]
             cases b5 with
             | true =>
               refine Kao 29 126 rfl rfl (by kernel_rfl) rfl (Kan [.string (strB ty)] rfl rfl Tryz.func35 (by kernel_rfl) (by kernel_rfl)) ?_
               refine (hri _).mono ?_
               rintro e W29 ⟨rfl,rfl⟩
               have hS29:=hS
               refine ⟨_,rfl,.inr hS29,?_⟩
               simp only [Act.put,sA,sZ,sS]
               refine tk 30 127 (v:=.bool false) rfl rfl (fun W hW=>Kap (b:=true) rfl rfl) ?_
               simp only [Act.put,sA,sZ,sS]
               refine tk 31 128 (v:=.bool false) rfl rfl (fun W hW=>rfl) ?_
               simp only [Act.put,sA,sZ,sS]
               refine tk 32 129 (v:=.bool false) rfl rfl (fun W hW=>Kab rfl rfl) ?_
               simp only [Act.put,sA,sZ,sS]
               refine tk 33 130 (v:=.pointer (some ⟨wr.heap.size,4,none⟩)) rfl rfl (fun W hW=>Kac rfl rfl (fa_rl 4 (by omega) _ W)) ?_
               simp only [Act.put,sA,sZ,sS]
               refine tk 34 131 (v:=.slice pp np cp) rfl rfl (fun W hW=>Kad rfl rfl (Kaf (w:=W) Tryz.underlying27 rfl (Kae hW (ltOf c4) c4))) ?_
               simp only [Act.put,sA,sZ,sS]
               cases b6 with
               | true =>
                 refine Kao 35 132 rfl rfl (by kernel_rfl) rfl (Kan [.slice pp np cp] rfl rfl Tryz.func34 (by kernel_rfl) (by kernel_rfl)) ?_
                 refine (hpr _ hS29).mono ?_
                 rintro e W35 ⟨rfl,hb35⟩
                 have hS35:=Kaa hS29 hb35
                 refine ⟨_,rfl,.inr hS35,?_⟩
                 simp only [Act.put,sA,sZ,sS]
                 refine tk 36 133 (v:=.bool false) rfl rfl (fun W hW=>Kap (b:=true) rfl rfl) ?_
                 simp only [Act.put,sA,sZ,sS]
                 refine tk 37 134 (v:=.bool false) rfl rfl (fun W hW=>rfl) ?_
                 simp only [Act.put,sA,sZ,sS]
                 refine tk 38 135 (v:=.bool false) rfl rfl (fun W hW=>Kab rfl rfl) ?_
                 simp only [Act.put,sA,sZ,sS]
                 refine tk 39 136 (v:=.agg xg) rfl rfl (fun W hW=>Kad rfl rfl (hlg W (Kal hW hgl hgx))) ?_
                 simp only [Act.put,sA,sZ,sS]
                 refine tk 40 137 (v:=.pointer (some ⟨wr.heap.size,1,none⟩)) rfl rfl (fun W hW=>Kac rfl rfl (fa_rl 1 (by omega) _ W)) ?_
                 simp only [Act.put,sA,sZ,sS]
                 refine tk 41 138 (v:=.int .i64 src) rfl rfl (fun W hW=>Kad rfl rfl (Kaf (w:=W) Tryz.underlying2 rfl (Kae hW (ltOf c1) c1))) ?_
                 simp only [Act.put,sA,sZ,sS]
                 refine Kao 42 139 rfl rfl (by kernel_rfl) rfl (Kan [.agg xg,.int .i64 src] rfl rfl Tryz.func36 (by kernel_rfl) (by kernel_rfl)) ?_
                 refine (hfs _ hS35).mono ?_
                 rintro e W42 ⟨rfl,hb42⟩
                 have hS42:=Kaa hS35 hb42
                 refine ⟨_,rfl,.inr hS42,?_⟩
                 simp only [Act.put,sA,sZ,sS]
                 cases b7 with
                 | true =>
                   refine tk 43 140 (v:=.bool false) rfl rfl (fun W hW=>Kam rfl rfl rfl (hf7 W)) ?_
                   simp only [Act.put,sA,sZ,sS]
                   refine tk 44 141 (v:=.bool false) rfl rfl (fun W hW=>rfl) ?_
                   simp only [Act.put,sA,sZ,sS]
                   refine tk 45 142 (v:=.bool false) rfl rfl (fun W hW=>Kab rfl rfl) ?_
                   simp only [Act.put,sA,sZ,sS]
                   refine tk 46 143 (v:=.agg xg) rfl rfl (fun W hW=>Kad rfl rfl (hlg W (Kal hW hgl hgx))) ?_
                   simp only [Act.put,sA,sZ,sS]
                   refine tk 47 144 (v:=.pointer (some ⟨wr.heap.size,2,none⟩)) rfl rfl (fun W hW=>Kac rfl rfl (fa_rl 2 (by omega) _ W)) ?_
                   simp only [Act.put,sA,sZ,sS]
                   refine tk 48 145 (v:=.int .i64 dst) rfl rfl (fun W hW=>Kad rfl rfl (Kaf (w:=W) Tryz.underlying2 rfl (Kae hW (ltOf c2) c2))) ?_
                   simp only [Act.put,sA,sZ,sS]
                   refine Kao 49 146 rfl rfl (by kernel_rfl) rfl (Kan [.agg xg,.int .i64 dst] rfl rfl Tryz.func36 (by kernel_rfl) (by kernel_rfl)) ?_
                   refine (hfd _ hS42).mono ?_
                   rintro e W49 ⟨rfl,hb49⟩
                   have hS49:=Kaa hS42 hb49
                   refine ⟨_,rfl,.inr hS49,?_⟩
                   simp only [Act.put,sA,sZ,sS]
                   cases b8 with
                   | true =>
                     refine tk 50 147 (v:=.bool false) rfl rfl (fun W hW=>Kam rfl rfl rfl (hf8 W)) ?_
                     simp only [Act.put,sA,sZ,sS]
                     refine tk 51 148 (v:=.bool false) rfl rfl (fun W hW=>rfl) ?_
                     simp only [Act.put,sA,sZ,sS]
                     refine done (by kernel_rfl) ?_ _
                     have HB:=yh (Kaa HB1.out hS49)
                     clear hS hS29 hS35 hb35 hS42 hb42 hS49 hb49 c0 c1 c2 c3 c4 g1 g3 hgx hgl hlg hfs hfd hf7 hf8 c9 hri hpr hi0 hsub h1 h2 h3 h4 hB0 HY 
                     go_wp2
                     go_roundw
                     case rel=>exact ⟨j + 1,hlt1,by go_num,yh ⟨HALL.out.1 rfl,HB.out⟩⟩
                     case measure=>simp [intOf];omega
                   | false =>
                     refine tk 50 147 (v:=.bool true) rfl rfl (fun W hW=>Kam rfl rfl rfl (hf8 W)) ?_
                     simp only [Act.put,sA,sZ,sS]
                     refine tk 51 148 (v:=.bool true) rfl rfl (fun W hW=>rfl) ?_
                     simp only [Act.put,sA,sZ,sS]
                     refine done (by kernel_rfl) ?_ _
                     have HB:=yh (Kaa HB1.out hS49)
                     clear hS hS29 hS35 hb35 hS42 hb42 hS49 hb49 c0 c1 c2 c3 c4 g1 g3 hgx hgl hlg hfs hfd hf7 hf8 c9 hri hpr hi0 hsub h1 h2 h3 h4 hB0 HY 
                     go_wp2
                     go_ret
                     exact ⟨Kak (HALL.out.2 (by simp)).symm,Kaa HX.out.2.2.1 HB.out⟩
                 | false =>
                   refine tk 43 140 (v:=.bool true) rfl rfl (fun W hW=>Kam rfl rfl rfl (hf7 W)) ?_
                   simp only [Act.put,sA,sZ,sS]
                   refine tk 44 141 (v:=.bool true) rfl rfl (fun W hW=>rfl) ?_
                   simp only [Act.put,sA,sZ,sS]
                   refine tk 45 142 (v:=.bool true) rfl rfl (fun W hW=>Kab rfl rfl) ?_
                   simp only [Act.put,sA,sZ,sS]
                   refine tn 46 143 rfl rfl ?_
                   simp only [Act.put,sA,sZ,sS]
                   refine tn 47 144 rfl rfl ?_
                   simp only [Act.put,sA,sZ,sS]
                   refine tn 48 145 rfl rfl ?_
                   simp only [Act.put,sA,sZ,sS]
                   refine Kau 49 146 rfl rfl (by kernel_rfl) rfl ?_ (.inr (by assumption))
                   simp only [Act.put,sA,sZ,sS]
                   refine tn 50 147 rfl rfl ?_
                   simp only [Act.put,sA,sZ,sS]
                   refine tk 51 148 (v:=.bool true) rfl rfl (fun W hW=>rfl) ?_
                   simp only [Act.put,sA,sZ,sS]
                   refine done (by kernel_rfl) ?_ _
                   have HB:=yh (Kaa HB1.out hS42)
                   clear hS hS29 hS35 hb35 hS42 hb42 c0 c1 c2 c3 c4 g1 g3 hgx hgl hlg hfs hfd hf7 hf8 c9 hri hpr hi0 hsub h1 h2 h3 h4 hB0 HY 
                   go_wp2
                   go_ret
                   exact ⟨Kak (HALL.out.2 (by simp)).symm,Kaa HX.out.2.2.1 HB.out⟩
               | false =>
                 refine Kao 35 132 rfl rfl (by kernel_rfl) rfl (Kan [.slice pp np cp] rfl rfl Tryz.func34 (by kernel_rfl) (by kernel_rfl)) ?_
                 refine (hpr _ hS29).mono ?_
                 rintro e W35 ⟨rfl,hb35⟩
                 have hS35:=Kaa hS29 hb35
                 refine ⟨_,rfl,.inr hS35,?_⟩
                 simp only [Act.put,sA,sZ,sS]
                 refine tk 36 133 (v:=.bool true) rfl rfl (fun W hW=>Kap (b:=false) rfl rfl) ?_
                 simp only [Act.put,sA,sZ,sS]
                 refine tk 37 134 (v:=.bool true) rfl rfl (fun W hW=>rfl) ?_
                 simp only [Act.put,sA,sZ,sS]
                 refine tk 38 135 (v:=.bool true) rfl rfl (fun W hW=>Kab rfl rfl) ?_
                 simp only [Act.put,sA,sZ,sS]
                 refine tn 39 136 rfl rfl ?_
                 simp only [Act.put,sA,sZ,sS]
                 refine tn 40 137 rfl rfl ?_
                 simp only [Act.put,sA,sZ,sS]
                 refine tn 41 138 rfl rfl ?_
                 simp only [Act.put,sA,sZ,sS]
                 refine Kau 42 139 rfl rfl (by kernel_rfl) rfl ?_ (.inr (by assumption))
                 simp only [Act.put,sA,sZ,sS]
                 refine tn 43 140 rfl rfl ?_
                 simp only [Act.put,sA,sZ,sS]
                 refine tk 44 141 (v:=.bool true) rfl rfl (fun W hW=>rfl) ?_
                 simp only [Act.put,sA,sZ,sS]
                 refine tk 45 142 (v:=.bool true) rfl rfl (fun W hW=>Kab rfl rfl) ?_
                 simp only [Act.put,sA,sZ,sS]
                 refine tn 46 143 rfl rfl ?_
                 simp only [Act.put,sA,sZ,sS]
                 refine tn 47 144 rfl rfl ?_
                 simp only [Act.put,sA,sZ,sS]
                 refine tn 48 145 rfl rfl ?_
                 simp only [Act.put,sA,sZ,sS]
                 refine Kau 49 146 rfl rfl (by kernel_rfl) rfl ?_ (.inr (by assumption))
                 simp only [Act.put,sA,sZ,sS]
                 refine tn 50 147 rfl rfl ?_
                 simp only [Act.put,sA,sZ,sS]
                 refine tk 51 148 (v:=.bool true) rfl rfl (fun W hW=>rfl) ?_
                 simp only [Act.put,sA,sZ,sS]
                 refine done (by kernel_rfl) ?_ _
                 have HB:=yh (Kaa HB1.out hS35)
                 clear hS hS29 hS35 hb35 c0 c1 c2 c3 c4 g1 g3 hgx hgl hlg hfs hfd hf7 hf8 c9 hri hpr hi0 hsub h1 h2 h3 h4 hB0 HY 
                 go_wp2
                 go_ret
                 exact ⟨Kak (HALL.out.2 (by simp)).symm,Kaa HX.out.2.2.1 HB.out⟩
             | false =>
               refine Kao 29 126 rfl rfl (by kernel_rfl) rfl (Kan [.string (strB ty)] rfl rfl Tryz.func35 (by kernel_rfl) (by kernel_rfl)) ?_
               refine (hri _).mono ?_
               rintro e W29 ⟨rfl,rfl⟩
               have hS29:=hS
               refine ⟨_,rfl,.inr hS29,?_⟩
               simp only [Act.put,sA,sZ,sS]
               refine tk 30 127 (v:=.bool true) rfl rfl (fun W hW=>Kap (b:=false) rfl rfl) ?_
               simp only [Act.put,sA,sZ,sS]
               refine tk 31 128 (v:=.bool true) rfl rfl (fun W hW=>rfl) ?_
               simp only [Act.put,sA,sZ,sS]
               refine tk 32 129 (v:=.bool true) rfl rfl (fun W hW=>Kab rfl rfl) ?_
               simp only [Act.put,sA,sZ,sS]
               refine tn 33 130 rfl rfl ?_
               simp only [Act.put,sA,sZ,sS]
               refine tn 34 131 rfl rfl ?_
               simp only [Act.put,sA,sZ,sS]
               refine Kau 35 132 rfl rfl (by kernel_rfl) rfl ?_ (.inr (by assumption))
               simp only [Act.put,sA,sZ,sS]
               refine tn 36 133 rfl rfl ?_
               simp only [Act.put,sA,sZ,sS]
               refine tk 37 134 (v:=.bool true) rfl rfl (fun W hW=>rfl) ?_
               simp only [Act.put,sA,sZ,sS]
               refine tk 38 135 (v:=.bool true) rfl rfl (fun W hW=>Kab rfl rfl) ?_
               simp only [Act.put,sA,sZ,sS]
               refine tn 39 136 rfl rfl ?_
               simp only [Act.put,sA,sZ,sS]
               refine tn 40 137 rfl rfl ?_
               simp only [Act.put,sA,sZ,sS]
               refine tn 41 138 rfl rfl ?_
               simp only [Act.put,sA,sZ,sS]
               refine Kau 42 139 rfl rfl (by kernel_rfl) rfl ?_ (.inr (by assumption))
               simp only [Act.put,sA,sZ,sS]
               refine tn 43 140 rfl rfl ?_
               simp only [Act.put,sA,sZ,sS]
               refine tk 44 141 (v:=.bool true) rfl rfl (fun W hW=>rfl) ?_
               simp only [Act.put,sA,sZ,sS]
               refine tk 45 142 (v:=.bool true) rfl rfl (fun W hW=>Kab rfl rfl) ?_
               simp only [Act.put,sA,sZ,sS]
               refine tn 46 143 rfl rfl ?_
               simp only [Act.put,sA,sZ,sS]
               refine tn 47 144 rfl rfl ?_
               simp only [Act.put,sA,sZ,sS]
               refine tn 48 145 rfl rfl ?_
               simp only [Act.put,sA,sZ,sS]
               refine Kau 49 146 rfl rfl (by kernel_rfl) rfl ?_ (.inr (by assumption))
               simp only [Act.put,sA,sZ,sS]
               refine tn 50 147 rfl rfl ?_
               simp only [Act.put,sA,sZ,sS]
               refine tk 51 148 (v:=.bool true) rfl rfl (fun W hW=>rfl) ?_
               simp only [Act.put,sA,sZ,sS]
               refine done (by kernel_rfl) ?_ _
               have HB:=yh (Kaa HB1.out hS29)
               clear hS hS29 c0 c1 c2 c3 c4 g1 g3 hgx hgl hlg hfs hfd hf7 hf8 c9 hri hpr hi0 hsub h1 h2 h3 h4 hB0 HY 
               go_wp2
               go_ret
               exact ⟨Kak (HALL.out.2 (by simp)).symm,Kaa HX.out.2.2.1 HB.out⟩
      ·obtain rfl : j = g.rels.length:=by omega
       have HF:=yh (okG_all HSZ.out HN.out HJ.out.1)
       have q1:=Kae HJ.out.2 (ltOf HX.out.2.2.2.2.2.1) HX.out.2.2.2.2.2.1
       have HB:=yh (Kaa HX.out.2.2.1 HJ.out.2)
       clear HJ
       go_wp2
       go_ret
       exact ⟨Kak HF.out.symm,HB.out⟩
theorem copy_end {w W : World} {g : GraphD} {ov rv : Value} {r c : Nat} (h1 : GOwn NOwn 45 3 W (fun b=>w.heap.size ≤ b ∧ b ≠ r ∧ b ≠ c) ov g.nodes) (h2 : GOwn ROwn 49 5 W (fun b=>w.heap.size ≤ b ∧ b ≠ r ∧ b ≠ c) rv g.rels)
 (hx : W.heap[r]? = some (.cells grZ 25 (0,0))) (hc : W.heap[c]? = some (.cells (Kas ov rv g.nextNode g.nextRel) 25 (0,0))) (hr : w.heap.size ≤ r) (hb : Below w.heap.size w W) :
 (loadVar 25 ⟨c,0,none⟩).run Tryz.prog W = .ok (.agg (Kas ov rv g.nextNode g.nextRel)) W ∧ ∃ W9,(storeVar 25 ⟨r,0,none⟩ (.agg (Kas ov rv g.nextNode g.nextRel))).run Tryz.prog W = .ok () W9 ∧ (loadVar 25 ⟨r,0,none⟩).run Tryz.prog W9 = .ok (.agg (Kas ov rv g.nextNode g.nextRel)) W9 ∧
   GrOwn W9 (fun b=>w.heap.size ≤ b) g (Kas ov rv g.nextNode g.nextRel) ∧ Below w.heap.size w W9:=by
 have o1 : ov.oneCell' = true:=by obtain ⟨xs,h,_⟩:=h1;exact own_one h
 have o2 : rv.oneCell' = true:=by obtain ⟨xs,h,_⟩:=h2;exact own_one h
 have h1c : ∀ u ∈ (Kas ov rv g.nextNode g.nextRel).toList,u.oneCell' = true:=fun u hu=>by
  simp only [Kas,List.mem_cons,List.not_mem_nil,or_false] at hu
  rcases hu with rfl | rfl | rfl | rfl <;> first | assumption | rfl
 have hk : ∀ b,b ≠ r → (W.setRow r (Kas ov rv g.nextNode g.nextRel)).heap[b]? = W.heap[b]?:=fun b hb=>setRow_other W _ b _ hb
 exact ⟨StT.get (P:=Tryz.prog) Kbl rfl hc,_,StT.put (P:=Tryz.prog) Kbl rfl h1c hx rfl,StT.get (P:=Tryz.prog) Kbl rfl (setRow_heap W _ _ _ _ _ hx),
  ⟨_,_,rfl,(h1.keep Ka2 fun b hb _=>hk b hb.2.1).imp Ka2 fun b _ hb=>hb.1,(h2.keep Kbi fun b hb _=>hk b hb.2.1).imp Kbi fun b _ hb=>hb.1⟩,below_row hb hr _⟩
theorem copyG_any {w : World} {g : GraphD} {x : Array Value} (h : GrRd w g x) (hk : GOk g) : Calls Tryz.prog 13 #[.agg x] w fun e w'=>∃ y,e = .returned (.agg y) ∧ GrOwn w' (fun b=>w.heap.size ≤ b) g y ∧ Below w.heap.size w w':=by
 obtain ⟨pn,cn,pr,cr,rfl,hn,hr⟩:=h
 have hb1:=Kai (w:=w) (.cells #[.slice pn g.nodes.length cn,.slice pr g.rels.length cr,.int .i64 g.nextNode,.int .i64 g.nextRel] 25)
 have hb2:=Kai (w:=w.alloc (.cells #[.slice pn g.nodes.length cn,.slice pr g.rels.length cr,.int .i64 g.nextNode,.int .i64 g.nextRel] 25)) (.cells #[.slice none 0 0,.slice none 0 0,.int .i64 0,.int .i64 0] 25)
 have hb3:=Kai (w:=(w.alloc (.cells #[.slice pn g.nodes.length cn,.slice pr g.rels.length cr,.int .i64 g.nextNode,.int .i64 g.nextRel] 25)).alloc (.cells #[.slice none 0 0,.slice none 0 0,.int .i64 0,.int .i64 0] 25)) (.cells #[.slice none 0 0,.slice none 0 0,.int .i64 g.nextNode,.int .i64 g.nextRel] 25)
 have hbc:=Kaa hb1 (Kaa hb2 hb3)
 have hx1:=Kal hb3 (by simp;omega) (Kal hb2 (by simp) (heap_alloc_new w (.cells #[.slice pn g.nodes.length cn,.slice pr g.rels.length cr,.int .i64 g.nextNode,.int .i64 g.nextRel] 25)))
 have hx2:=heap_alloc_new (w.alloc (.cells #[.slice pn g.nodes.length cn,.slice pr g.rels.length cr,.int .i64 g.nextNode,.int .i64 g.nextRel] 25)) (.cells #[.slice none 0 0,.slice none 0 0,.int .i64 0,.int .i64 0] 25)
 have hx3:=heap_alloc_new ((w.alloc (.cells #[.slice pn g.nodes.length cn,.slice pr g.rels.length cr,.int .i64 g.nextNode,.int .i64 g.nextRel] 25)).alloc (.cells #[.slice none 0 0,.slice none 0 0,.int .i64 0,.int .i64 0] 25)) (.cells #[.slice none 0 0,.slice none 0 0,.int .i64 g.nextNode,.int .i64 g.nextRel] 25)
 simp only [World.size_alloc] at hx2 hx3
 have hx2':=Kal hb3 (by simp) hx2
 have HST:=yh (StT.fresh (P:=Tryz.prog) (cs:=#[.slice none 0 0,.slice none 0 0,.int .i64 g.nextNode,.int .i64 g.nextRel]) Kbl rfl (by simp [Value.oneCell']) (W:=(w.alloc (.cells #[.slice pn g.nodes.length cn,.slice pr g.rels.length cr,.int .i64 g.nextNode,.int .i64 g.nextRel] 25)).alloc (.cells #[.slice none 0 0,.slice none 0 0,.int .i64 0,.int .i64 0] 25)))
 have z1 : (g.nodes.length : Int) ≤ 1100000:=by have:=hk.1;omega
 have z2 : (g.rels.length : Int) ≤ 1100000:=by have:=hk.2.1;omega
 have HN:=yh (And.intro hn (And.intro hr (And.intro hk.2.2.1 (And.intro hk.2.2.2 (And.intro hk.1 hk.2.1)))))
 have q0 : (((w.alloc (.cells #[.slice pn g.nodes.length cn,.slice pr g.rels.length cr,.int .i64 g.nextNode,.int .i64 g.nextRel] 25)).alloc (.cells #[.slice none 0 0,.slice none 0 0,.int .i64 0,.int .i64 0] 25)).alloc (.cells #[.slice none 0 0,.slice none 0 0,.int .i64 g.nextNode,.int .i64 g.nextRel] 25)).cell? ⟨w.heap.size,0,none⟩ = some (.slice pn g.nodes.length cn):=Kag (o:=0) hx1 rfl
 have hzz : w.heap.size + 3 ≤ (((w.alloc (.cells #[.slice pn g.nodes.length cn,.slice pr g.rels.length cr,.int .i64 g.nextNode,.int .i64 g.nextRel] 25)).alloc (.cells #[.slice none 0 0,.slice none 0 0,.int .i64 0,.int .i64 0] 25)).alloc (.cells #[.slice none 0 0,.slice none 0 0,.int .i64 g.nextNode,.int .i64 g.nextRel] 25)).heap.size:=by simp
 have HX:=yh (show Below w.heap.size w (((w.alloc (.cells #[.slice pn g.nodes.length cn,.slice pr g.rels.length cr,.int .i64 g.nextNode,.int .i64 g.nextRel] 25)).alloc (.cells #[.slice none 0 0,.slice none 0 0,.int .i64 0,.int .i64 0] 25)).alloc (.cells #[.slice none 0 0,.slice none 0 0,.int .i64 g.nextNode,.int .i64 g.nextRel] 25)) ∧ (((w.alloc (.cells #[.slice pn g.nodes.length cn,.slice pr g.rels.length cr,.int .i64 g.nextNode,.int .i64 g.nextRel] 25)).alloc (.cells #[.slice none 0 0,.slice none 0 0,.int .i64 0,.int .i64 0] 25)).alloc (.cells #[.slice none 0 0,.slice none 0 0,.int .i64 g.nextNode,.int .i64 g.nextRel] 25)).heap[w.heap.size + 2]? = some (.cells (Kas (.slice none 0 0) (.slice none 0 0) g.nextNode g.nextRel) 25 (0,0)) ∧ w.heap.size + 3 ≤ (((w.alloc (.cells #[.slice pn g.nodes.length cn,.slice pr g.rels.length cr,.int .i64 g.nextNode,.int .i64 g.nextRel] 25)).alloc (.cells #[.slice none 0 0,.slice none 0 0,.int .i64 0,.int .i64 0] 25)).alloc (.cells #[.slice none 0 0,.slice none 0 0,.int .i64 g.nextNode,.int .i64 g.nextRel] 25)).heap.size ∧ (((w.alloc (.cells #[.slice pn g.nodes.length cn,.slice pr g.rels.length cr,.int .i64 g.nextNode,.int .i64 g.nextRel] 25)).alloc (.cells #[.slice none 0 0,.slice none 0 0,.int .i64 0,.int .i64 0] 25)).alloc (.cells #[.slice none 0 0,.slice none 0 0,.int .i64 g.nextNode,.int .i64 g.nextRel] 25)).heap[w.heap.size + 1]? = some (.cells grZ 25 (0,0)) ∧ (((w.alloc (.cells #[.slice pn g.nodes.length cn,.slice pr g.rels.length cr,.int .i64 g.nextNode,.int .i64 g.nextRel] 25)).alloc (.cells #[.slice none 0 0,.slice none 0 0,.int .i64 0,.int .i64 0] 25)).alloc (.cells #[.slice none 0 0,.slice none 0 0,.int .i64 g.nextNode,.int .i64 g.nextRel] 25)).heap[w.heap.size]? = some (.cells #[.slice pn g.nodes.length cn,.slice pr g.rels.length cr,.int .i64 g.nextNode,.int .i64 g.nextRel] 25 (0,0)) from ⟨hbc,hx3,hzz,hx2',hx1⟩)
 clear hb1 hb2 hb3 hbc hx1 hx2 hx2' hx3 hn hr hk hzz
 go_enter Tryz.func13,Tryz.ntmps13
 go_wp2_with ((with_reducible apply Kar);exact HST.out _ rfl;exact rfl;exact rfl;clear HST)
 clear q0
 generalize ((w.alloc (.cells #[.slice pn g.nodes.length cn,.slice pr g.rels.length cr,.int .i64 g.nextNode,.int .i64 g.nextRel] 25)).alloc (.cells #[.slice none 0 0,.slice none 0 0,.int .i64 0,.int .i64 0] 25)).alloc (.cells #[.slice none 0 0,.slice none 0 0,.int .i64 g.nextNode,.int .i64 g.nextRel] 25) = w3 at *
 have HI0:=yh (show ∃ po co,GIn NOwn 45 3 (fun b=>w3.heap.size ≤ b) w3 (.slice po (g.nodes.take 0).length co) (g.nodes.take 0) ∧ Touch (fun b=>b = w.heap.size + 2) w3 w3 ∧ w3.heap[w.heap.size + 2]? = some (.cells (Kas (.slice po (g.nodes.take 0).length co) (.slice none 0 0) g.nextNode g.nextRel) 25 (0,0)) from ⟨none,0,GIn.start,Touch.refl _ _,HX.out.2.1⟩)
 go_loopw [16] (fun i wr=>∃ j : Nat,j ≤ g.nodes.length ∧ i = .int .i64 (j : Int) ∧ Hid (∃ po co,GIn NOwn 45 3 (fun b=>w3.heap.size ≤ b) wr (.slice po (g.nodes.take j).length co) (g.nodes.take j) ∧ Touch (fun b=>b = w.heap.size + 2) w3 wr ∧ wr.heap[w.heap.size + 2]? = some (.cells (Kas (.slice po (g.nodes.take j).length co) (.slice none 0 0) g.nextNode g.nextRel) 25 (0,0)))) (fun i _=>g.nodes.length - (intOf i).toNat)
 case atStart=>exact ⟨0,Nat.zero_le _,rfl,HI0⟩
 case round =>
  obtain ⟨j,hj,rfl,HJ⟩:=hrel
  by_cases hlt : j < g.nodes.length
  ·have hlt1:=Nat.succ_le_of_lt hlt
   obtain ⟨po,co,hI,hT,hc⟩:=HJ.out
   have hbr:=hT.below (B:=w.heap.size) HX.out.1 (fun b hb e=>by omega) HX.out.1.size
   have h3:=HX.out.2.2.1
   obtain ⟨b1,o1,cs,rfl,hsz,hcc,hv⟩:=(HN.out.1.below (fun h=>h.below hbr) hbr).get hlt
   have htn:=HN.out.2.2.1 _ (List.getElem_mem hlt)
   have hok:=node_okT htn
   have HL1:=yh (StT.load (P:=Tryz.prog) (g:=b1) (o:=o1 + j * 3) (W:=wr) Kbd hsz fun i u hu=>hcc i u hu)
   have HS1:=yh (StT.fresh Kbd hsz (ef_node.ones hv) (W:=wr))
   have hbn:=Kai (w:=wr) (.cells cs 45)
   have hcall:=copyNode_any ((hv.below hbn).below (Below.refl _ _).drew) hok.1 hok.2
   have htk : g.nodes.take (j + 1) = g.nodes.take j ++ [g.nodes[j]]:=List.take_succ_eq_append_getElem hlt
   have hl1 : (g.nodes.take j).length ≤ 1100000:=by rw [List.length_take];have:=HN.out.2.2.2.2;omega
   have hzz : w.heap.size + 3 ≤ wr.heap.size:=Nat.le_trans h3 hT.size
   have hS0 : (wr.alloc (.cells cs 45)).drew.heap[w.heap.size + 2]? = some (.cells (Kas (.slice po (g.nodes.take j).length co) (.slice none 0 0) g.nextNode g.nextRel) 25 (0,0)) ∧ (wr.alloc (.cells cs 45)).drew.heap[wr.heap.size]? = some (.cells cs 45 (0,0)):=⟨Kal hbn.drew (Array.getElem?_eq_some_iff.1 hc).1 hc,heap_alloc_new wr _⟩
   have HY:=yh (And.intro hI (And.intro hT (And.intro hc (And.intro hcall (And.intro htk (And.intro hl1 (And.intro hS0 (And.intro hbn (And.intro hsz (And.intro hzz h3))))))))))
   generalize g.nodes[j] = nj at *
   clear hbr hcc hv htn hok hcall htk hl1 hS0 hI hT hc hbn hsz hzz h3
   go_wp2_with (first
    | ((with_reducible apply Kaq);exact HL1.out;exact rfl;clear HL1)
    | ((with_reducible apply Kar);exact HS1.out _ rfl;exact rfl;exact rfl;clear HS1))
   obtain ⟨hI,hT,hc,hcall,htk,hl1,hS0,hbn,hsz,hzz,h3⟩:=HY.out
   refine Kah (fun W=>W.heap[w.heap.size + 2]? = some (.cells (Kas (.slice po (g.nodes.take j).length co) (.slice none 0 0) g.nextNode g.nextRel) 25 (0,0)) ∧ W.heap[wr.heap.size]? = some (.cells cs 45 (0,0))) (by kernel_rfl) hS0 (fun hS=>?_)
   refine tk 0 20 (v:=.pointer (some ⟨w.heap.size + 2,0,none⟩)) rfl rfl (fun W hW=>Kac rfl rfl (fa_api 0 (by omega) _ W)) ?_
   simp only [Act.put,sA,sZ,sS]
   refine tk 1 21 (v:=.slice po (g.nodes.take j).length co) rfl rfl (fun W hW=>Kad rfl rfl (Kaf (w:=W) Tryz.underlying22 rfl (Kag (o:=0) hW.1 rfl))) ?_
   simp only [Act.put,sA,sZ,sS]
   refine tk 2 22 (v:=.agg cs) rfl rfl (fun W hW=>Kad rfl rfl (StT.get (P:=Tryz.prog) Kbd hsz hW.2)) ?_
   simp only [Act.put,sA,sZ,sS]
   refine Kao 3 23 rfl rfl (by kernel_rfl) rfl (Kan [.agg cs] rfl rfl Tryz.func39 (by kernel_rfl) (by kernel_rfl)) ?_
   refine hcall.mono ?_
   rintro e W8 ⟨x8,rfl,hx8,hb8⟩
   have hbw8:=Kaa (Below.refl _ _).drew hb8
   have hI1:=hI.kept (W':=wr.alloc (.cells cs 45)) Ka2 (P':=fun b=>w3.heap.size ≤ b) (fun b _ hl=>hbn.block b hl) (fun b _ h=>h)
   have hT1:=hT.grow hbn
   have hbs : (Instr.buildSlice 22 1 #[(0,.agg x8)]).run Tryz.prog W8 = .ok (.slice (some ⟨W8.heap.size,0,none⟩) 1 1) (W8.alloc (.cells x8 45)):=Kaz Tryz.underlying22 Tryz.sizeOf45 Tryz.zeroValue45 (Ka2.size hx8) (by omega) (by omega)
   obtain ⟨pq,cq,W10,a1,a2,a3,a4,a5,a6,a7⟩:=tell_push (i:=0) Ka2 gt_node (fun h1 h2=>put_nodesT h1 h2) hI1 hT1 hS0.1 (by omega) (by simp [Kas]) hbw8 hx8 hl1
   have hS8 : W8.heap[w.heap.size + 2]? = some (.cells (Kas (.slice po (g.nodes.take j).length co) (.slice none 0 0) g.nextNode g.nextRel) 25 (0,0)) ∧ W8.heap[wr.heap.size]? = some (.cells cs 45 (0,0)):=⟨Kal hb8 (Array.getElem?_eq_some_iff.1 hS0.1).1 hS0.1,Kal hb8 (Array.getElem?_eq_some_iff.1 hS0.2).1 hS0.2⟩
   have hS9 : (W8.alloc (.cells x8 45)).heap[w.heap.size + 2]? = some (.cells (Kas (.slice po (g.nodes.take j).length co) (.slice none 0 0) g.nextNode g.nextRel) 25 (0,0)) ∧ (W8.alloc (.cells x8 45)).heap[wr.heap.size]? = some (.cells cs 45 (0,0)):=⟨Kal (Kai _) (Array.getElem?_eq_some_iff.1 hS8.1).1 hS8.1,Kal (Kai _) (Array.getElem?_eq_some_iff.1 hS8.2).1 hS8.2⟩
   have hS10 : W10.heap[w.heap.size + 2]? = some (.cells (Kas (.slice po (g.nodes.take j).length co) (.slice none 0 0) g.nextNode g.nextRel) 25 (0,0)) ∧ W10.heap[wr.heap.size]? = some (.cells cs 45 (0,0)):=⟨a2,(a3 _ (by simp) (fun e=>by have:=(hI.lt _ e).1;omega)).trans hS0.2⟩
   refine ⟨_,rfl,.inr hS8,?_⟩
   simp only [Act.put,sA,sZ,sS]
   refine Kcc 4 24 (v:=.slice (some ⟨W8.heap.size,0,none⟩) 1 1) rfl rfl (by kernel_rfl) rfl (Kbb rfl rfl hbs) (.inr (by assumption)) ?_
   simp only [Act.put,sA,sZ,sS]
   refine Kcc 5 25 (v:=.slice pq ((g.nodes.take j).length + 1) cq) rfl rfl (by kernel_rfl) rfl (Kb6 rfl rfl rfl a1) (.inr (by assumption)) ?_
   simp only [Act.put,sA,sZ,sS]
   refine tk 6 26 (v:=.pointer (some ⟨w.heap.size + 2,0,none⟩)) rfl rfl (fun W hW=>Kac rfl rfl (fa_api 0 (by omega) _ W)) ?_
   simp only [Act.put,sA,sZ,sS]
   refine Kce 7 rfl rfl (by kernel_rfl) rfl (Kck rfl rfl rfl a4) (.inl (by kernel_rfl)) ?_
   refine done (by kernel_rfl) ?_ _
   have HN2:=yh (show ∃ po co,GIn NOwn 45 3 (fun b=>w3.heap.size ≤ b) (W10.setCell ⟨w.heap.size + 2,0,none⟩ (.slice pq ((g.nodes.take j).length + 1) cq)) (.slice po (g.nodes.take (j + 1)).length co) (g.nodes.take (j + 1)) ∧ Touch (fun b=>b = w.heap.size + 2) w3 (W10.setCell ⟨w.heap.size + 2,0,none⟩ (.slice pq ((g.nodes.take j).length + 1) cq)) ∧ (W10.setCell ⟨w.heap.size + 2,0,none⟩ (.slice pq ((g.nodes.take j).length + 1) cq)).heap[w.heap.size + 2]? = some (.cells (Kas (.slice po (g.nodes.take (j + 1)).length co) (.slice none 0 0) g.nextNode g.nextRel) 25 (0,0)) from by
    rw [show (g.nodes.take (j + 1)).length = (g.nodes.take j).length + 1 by rw [htk];simp,htk]
    exact ⟨pq,cq,a5,a6,a7⟩)
   generalize W10.setCell ⟨w.heap.size + 2,0,none⟩ (.slice pq ((g.nodes.take j).length + 1) cq) = W11 at HN2 ⊢
   clear hI hT hc hcall htk hl1 hS0 hbn hsz hzz h3 hS HY HJ a1 a2 a3 a4 a5 a6 a7 hbs hx8 hb8 hS8 hS9 hS10 hbw8 hI1 hT1
   go_wp2
   go_roundw
   case rel=>exact ⟨j + 1,hlt1,by go_num,HN2⟩
   case measure=>simp [intOf];omega
  ·obtain rfl : j = g.nodes.length:=by omega
   obtain ⟨qn,dn,hI,hT,hc⟩:=HJ.out
   rw [List.take_length] at hI hc
   have hbr:=hT.below (B:=w.heap.size) HX.out.1 (fun b hb e=>by omega) HX.out.1.size
   have h3:=HX.out.2.2.1
   have hzr : w.heap.size + 3 ≤ wr.heap.size:=Nat.le_trans h3 hT.size
   have hx6:=(hT.block _ (Array.getElem?_eq_some_iff.1 HX.out.2.2.2.1).1 (by omega)).trans HX.out.2.2.2.1
   have hon:=(hI.own Ka2).imp (P':=fun b=>w.heap.size ≤ b ∧ b ≠ w.heap.size + 1 ∧ b ≠ w.heap.size + 2) Ka2 fun b _ hb=>by have hb' : w3.heap.size ≤ b:=hb;omega
   have gr : wr.cell? ⟨w.heap.size,1,none⟩ = some (.slice pr g.rels.length cr):=Kag (o:=1) ((hT.block _ (Array.getElem?_eq_some_iff.1 HX.out.2.2.2.2).1 (by omega)).trans HX.out.2.2.2.2) rfl
   have hcW : wr.heap[w.heap.size + 2]? = some (.cells (Kas (.slice qn g.nodes.length dn) (.slice none 0 0) g.nextNode g.nextRel) 25 (0,0)):=hc
   have HX7:=yh (And.intro hbr (And.intro hcW (And.intro hzr (And.intro hx6 hon))))
   clear hI hT hc hbr h3 hzr hx6 hon hcW HJ HI0 HX
   go_wp2
   clear gr
   generalize wr = w7 at *
   have HI0:=yh (show ∃ po co,GIn ROwn 49 5 (fun b=>w7.heap.size ≤ b) w7 (.slice po (g.rels.take 0).length co) (g.rels.take 0) ∧ Touch (fun b=>b = w.heap.size + 2) w7 w7 ∧ w7.heap[w.heap.size + 2]? = some (.cells (Kas (.slice qn g.nodes.length dn) (.slice po (g.rels.take 0).length co) g.nextNode g.nextRel) 25 (0,0)) from ⟨none,0,GIn.start,Touch.refl _ _,HX7.out.2.1⟩)
   go_loopw [31] (fun i wr=>∃ j : Nat,j ≤ g.rels.length ∧ i = .int .i64 (j : Int) ∧ Hid (∃ po co,GIn ROwn 49 5 (fun b=>w7.heap.size ≤ b) wr (.slice po (g.rels.take j).length co) (g.rels.take j) ∧ Touch (fun b=>b = w.heap.size + 2) w7 wr ∧ wr.heap[w.heap.size + 2]? = some (.cells (Kas (.slice qn g.nodes.length dn) (.slice po (g.rels.take j).length co) g.nextNode g.nextRel) 25 (0,0)))) (fun i _=>g.rels.length - (intOf i).toNat)
   case atStart=>exact ⟨0,Nat.zero_le _,rfl,HI0⟩
   case round =>
    rename_i wr0 wr
    obtain ⟨j,hj,rfl,HJ⟩:=hrel
    by_cases hlt : j < g.rels.length
    ·have hlt1:=Nat.succ_le_of_lt hlt
     obtain ⟨po,co,hI,hT,hc⟩:=HJ.out
     have hbr:=hT.below (B:=w.heap.size) HX7.out.1 (fun b hb e=>by omega) HX7.out.1.size
     have h3:=HX7.out.2.2.1
     obtain ⟨b1,o1,cs,rfl,hsz,hcc,hv⟩:=(HN.out.2.1.below (fun h=>h.below hbr) hbr).get hlt
     have htn:=HN.out.2.2.2.1 _ (List.getElem_mem hlt)
     have hok:=rel_okT htn
     have HL1:=yh (StT.load (P:=Tryz.prog) (g:=b1) (o:=o1 + j * 5) (W:=wr) Kb1 hsz fun i u hu=>hcc i u hu)
     have HS1:=yh (StT.fresh Kb1 hsz (ef_rel.ones hv) (W:=wr))
     have hbn:=Kai (w:=wr) (.cells cs 49)
     have hcall:=copyRel_any ((hv.below hbn).below (Below.refl _ _).drew) hok
     have htk : g.rels.take (j + 1) = g.rels.take j ++ [g.rels[j]]:=List.take_succ_eq_append_getElem hlt
     have hl1 : (g.rels.take j).length ≤ 1100000:=by rw [List.length_take];have:=HN.out.2.2.2.2;omega
     have hzz : w.heap.size + 3 ≤ wr.heap.size:=Nat.le_trans h3 hT.size
     have hS0 : (wr.alloc (.cells cs 49)).drew.heap[w.heap.size + 2]? = some (.cells (Kas (.slice qn g.nodes.length dn) (.slice po (g.rels.take j).length co) g.nextNode g.nextRel) 25 (0,0)) ∧ (wr.alloc (.cells cs 49)).drew.heap[wr.heap.size]? = some (.cells cs 49 (0,0)):=⟨Kal hbn.drew (Array.getElem?_eq_some_iff.1 hc).1 hc,heap_alloc_new wr _⟩
     have HY:=yh (And.intro hI (And.intro hT (And.intro hc (And.intro hcall (And.intro htk (And.intro hl1 (And.intro hS0 (And.intro hbn (And.intro hsz (And.intro hzz h3))))))))))
     generalize g.rels[j] = nj at *
     clear hbr hcc hv htn hok hcall htk hl1 hS0 hI hT hc hbn hsz hzz h3
     go_wp2_with (first
      | ((with_reducible apply Kaq);exact HL1.out;exact rfl;clear HL1)
      | ((with_reducible apply Kar);exact HS1.out _ rfl;exact rfl;exact rfl;clear HS1))
     obtain ⟨hI,hT,hc,hcall,htk,hl1,hS0,hbn,hsz,hzz,h3⟩:=HY.out
     refine Kah (fun W=>W.heap[w.heap.size + 2]? = some (.cells (Kas (.slice qn g.nodes.length dn) (.slice po (g.rels.take j).length co) g.nextNode g.nextRel) 25 (0,0)) ∧ W.heap[wr.heap.size]? = some (.cells cs 49 (0,0))) (by kernel_rfl) hS0 (fun hS=>?_)
     refine tk 0 35 (v:=.pointer (some ⟨w.heap.size + 2,1,none⟩)) rfl rfl (fun W hW=>Kac rfl rfl (fa_api 1 (by omega) _ W)) ?_
     simp only [Act.put,sA,sZ,sS]
     refine tk 1 36 (v:=.slice po (g.rels.take j).length co) rfl rfl (fun W hW=>Kad rfl rfl (Kaf (w:=W) Tryz.underlying23 rfl (Kag (o:=1) hW.1 rfl))) ?_
     simp only [Act.put,sA,sZ,sS]
     refine tk 2 37 (v:=.agg cs) rfl rfl (fun W hW=>Kad rfl rfl (StT.get (P:=Tryz.prog) Kb1 hsz hW.2)) ?_
     simp only [Act.put,sA,sZ,sS]
     refine Kao 3 38 rfl rfl (by kernel_rfl) rfl (Kan [.agg cs] rfl rfl Tryz.func40 (by kernel_rfl) (by kernel_rfl)) ?_
     refine hcall.mono ?_
     rintro e W8 ⟨x8,rfl,hx8,hb8⟩
     have hbw8:=Kaa (Below.refl _ _).drew hb8
     have hI1:=hI.kept (W':=wr.alloc (.cells cs 49)) Kbi (P':=fun b=>w7.heap.size ≤ b) (fun b _ hl=>hbn.block b hl) (fun b _ h=>h)
     have hT1:=hT.grow hbn
     have hbs : (Instr.buildSlice 23 1 #[(0,.agg x8)]).run Tryz.prog W8 = .ok (.slice (some ⟨W8.heap.size,0,none⟩) 1 1) (W8.alloc (.cells x8 49)):=Kaz Tryz.underlying23 Tryz.sizeOf49 Tryz.zeroValue49 (Kbi.size hx8) (by omega) (by omega)
     obtain ⟨pq,cq,W10,a1,a2,a3,a4,a5,a6,a7⟩:=tell_push (i:=1) Kbi gt_rel (fun h1 h2=>put_relsT h1 h2) hI1 hT1 hS0.1 (by omega) (by simp [Kas]) hbw8 hx8 hl1
     have hS8 : W8.heap[w.heap.size + 2]? = some (.cells (Kas (.slice qn g.nodes.length dn) (.slice po (g.rels.take j).length co) g.nextNode g.nextRel) 25 (0,0)) ∧ W8.heap[wr.heap.size]? = some (.cells cs 49 (0,0)):=⟨Kal hb8 (Array.getElem?_eq_some_iff.1 hS0.1).1 hS0.1,Kal hb8 (Array.getElem?_eq_some_iff.1 hS0.2).1 hS0.2⟩
     have hS9 : (W8.alloc (.cells x8 49)).heap[w.heap.size + 2]? = some (.cells (Kas (.slice qn g.nodes.length dn) (.slice po (g.rels.take j).length co) g.nextNode g.nextRel) 25 (0,0)) ∧ (W8.alloc (.cells x8 49)).heap[wr.heap.size]? = some (.cells cs 49 (0,0)):=⟨Kal (Kai _) (Array.getElem?_eq_some_iff.1 hS8.1).1 hS8.1,Kal (Kai _) (Array.getElem?_eq_some_iff.1 hS8.2).1 hS8.2⟩
     have hS10 : W10.heap[w.heap.size + 2]? = some (.cells (Kas (.slice qn g.nodes.length dn) (.slice po (g.rels.take j).length co) g.nextNode g.nextRel) 25 (0,0)) ∧ W10.heap[wr.heap.size]? = some (.cells cs 49 (0,0)):=⟨a2,(a3 _ (by simp) (fun e=>by have:=(hI.lt _ e).1;omega)).trans hS0.2⟩
     refine ⟨_,rfl,.inr hS8,?_⟩
     simp only [Act.put,sA,sZ,sS]
     refine Kcc 4 39 (v:=.slice (some ⟨W8.heap.size,0,none⟩) 1 1) rfl rfl (by kernel_rfl) rfl (Kbb rfl rfl hbs) (.inr (by assumption)) ?_
     simp only [Act.put,sA,sZ,sS]
     refine Kcc 5 40 (v:=.slice pq ((g.rels.take j).length + 1) cq) rfl rfl (by kernel_rfl) rfl (Kb6 rfl rfl rfl a1) (.inr (by assumption)) ?_
     simp only [Act.put,sA,sZ,sS]
     refine tk 6 41 (v:=.pointer (some ⟨w.heap.size + 2,1,none⟩)) rfl rfl (fun W hW=>Kac rfl rfl (fa_api 1 (by omega) _ W)) ?_
     simp only [Act.put,sA,sZ,sS]
     refine Kce 7 rfl rfl (by kernel_rfl) rfl (Kck rfl rfl rfl a4) (.inl (by kernel_rfl)) ?_
     refine done (by kernel_rfl) ?_ _
     have HN2:=yh (show ∃ po co,GIn ROwn 49 5 (fun b=>w7.heap.size ≤ b) (W10.setCell ⟨w.heap.size + 2,1,none⟩ (.slice pq ((g.rels.take j).length + 1) cq)) (.slice po (g.rels.take (j + 1)).length co) (g.rels.take (j + 1)) ∧ Touch (fun b=>b = w.heap.size + 2) w7 (W10.setCell ⟨w.heap.size + 2,1,none⟩ (.slice pq ((g.rels.take j).length + 1) cq)) ∧ (W10.setCell ⟨w.heap.size + 2,1,none⟩ (.slice pq ((g.rels.take j).length + 1) cq)).heap[w.heap.size + 2]? = some (.cells (Kas (.slice qn g.nodes.length dn) (.slice po (g.rels.take (j + 1)).length co) g.nextNode g.nextRel) 25 (0,0)) from by
      rw [show (g.rels.take (j + 1)).length = (g.rels.take j).length + 1 by rw [htk];simp,htk]
      exact ⟨pq,cq,a5,a6,a7⟩)
     generalize W10.setCell ⟨w.heap.size + 2,1,none⟩ (.slice pq ((g.rels.take j).length + 1) cq) = W11 at HN2 ⊢
     clear hI hT hc hcall htk hl1 hS0 hbn hsz hzz h3 hS HY HJ a1 a2 a3 a4 a5 a6 a7 hbs hx8 hb8 hS8 hS9 hS10 hbw8 hI1 hT1
     go_wp2
     go_roundw
     case rel=>exact ⟨j + 1,hlt1,by go_num,HN2⟩
     case measure=>simp [intOf];omega
    ·obtain rfl : j = g.rels.length:=by omega
     obtain ⟨qr,dr,hI,hT,hc⟩:=HJ.out
     rw [List.take_length] at hI hc
     obtain ⟨hb7,hc7,hz7,hx7,hon7⟩:=HX7.out
     have hbr:=hT.below (B:=w.heap.size) hb7 (fun b hb e=>by omega) hb7.size
     have hor:=(hI.own Kbi).imp (P':=fun b=>w.heap.size ≤ b ∧ b ≠ w.heap.size + 1 ∧ b ≠ w.heap.size + 2) Kbi fun b _ hb=>by have hb' : w7.heap.size ≤ b:=hb;omega
     have hon:=hon7.keep (w':=wr) Ka2 fun b hb hl=>hT.block b hl hb.2.2
     have hx6:=(hT.block _ (Array.getElem?_eq_some_iff.1 hx7).1 (by omega)).trans hx7
     obtain ⟨d1,W9,d2,d3,d4,d5⟩:=copy_end hon hor hx6 hc (Nat.le_succ _) hbr
     have HLD:=yh d1
     have HST:=yh d2
     have HLE:=yh d3
     have HF:=yh (And.intro d4 d5)
     clear hI hT hc hb7 hc7 hz7 hx7 hon7 hbr hor hon hx6 d1 d2 d3 d4 d5 HJ HX7 HI0
     go_wp2_with (first
      | ((with_reducible apply Kaq);exact HLD.out;exact rfl;clear HLD)
      | ((with_reducible apply Kar);exact HST.out;exact rfl;exact rfl;clear HST))
     refine bodyPost_ret (Ka9 rfl _ _ ⟨w.heap.size + 1,0,none⟩ _ rfl HLE.out) rfl ?_
     exact ⟨_,rfl,HF.out⟩
theorem all2_of {α β : Type} {f : α → β → Bool} : ∀ {l : List α} {m : List β},l.length = m.length → (∀ i (h1 : i < l.length) (h2 : i < m.length),f l[i] m[i] = true) → all2 f l m = true
 | [],[],_,_=>rfl
 | [],_ :: _,h,_=>by simp at h
 | _ :: _,[],h,_=>by simp at h
 | a :: x,b :: y,h,g=>by
   rw [all2,Bool.and_eq_true]
   exact ⟨g 0 (by simp) (by simp),all2_of (by simpa using h) fun i h1 h2=>g (i + 1) (by simpa using h1) (by simpa using h2)⟩
theorem all2_no {α β : Type} {f : α → β → Bool} : ∀ {l : List α} {m : List β} {j : Nat} (h1 : j < l.length) (h2 : j < m.length),f l[j] m[j] = false → all2 f l m = false
 | [],_,j,h1,_,_=>by simp at h1
 | _ :: _,[],j,_,h2,_=>by simp at h2
 | a :: x,b :: y,0,_,_,h=>by rw [all2,show f a b = false from h];rfl
 | a :: x,b :: y,j + 1,h1,h2,h=>by rw [all2,all2_no (j:=j) (by simpa using h1) (by simpa using h2) h,Bool.and_false]
theorem all2_ne {α β : Type} {f : α → β → Bool} {l : List α} {m : List β} (h : l.length ≠ m.length) : all2 f l m = false:=by
 cases e : all2 f l m with
 | false=>rfl
 | true=>exact absurd (all2_len e) h
end Go.Proofs.YtihfnegakcghiaaGreatDoor
