/- CodecDone: for every graph and every changes the law returns true, and the arguments read as they did. The listed tables of Go's library read as the program's text lays them. -/
import Derived.Test.YthdfedfholmbmaaGreatDoorZCdna
import Derived.Test.YthdfedfholmbmaaGreatDoorZCdnb
import Derived.Test.YthdfedfholmbmaaGreatDoorZCdnc
import Derived.Test.YthdfedfholmbmaaGreatDoorZCdne
import Derived.Deep.Slices
import Derived.Test.YthdfedfholmbmaaGreatDoorCards
import Derived.Test.YthdfedfholmbmaaGreatDoorTie
set_option linter.unusedSimpArgs false
set_option linter.unusedVariables false
set_option maxRecDepth 100000
set_option maxHeartbeats 64000000
namespace Go.Proofs.YthdfedfholmbmaaGreatDoor
open Go.RowKit
theorem sum_putBy {α : Type} (id : α → Int) (f : α → Nat) (n : α) : ∀ l : List α,((putBy id n l).map f).sum ≤ (l.map f).sum + f n
 | []=>by simp [putBy]
 | a :: l=>by
   have ih:=sum_putBy id f n l
   unfold putBy
   split
   ·simp only [List.map_cons,List.sum_cons];omega
   ·split <;> (simp only [List.map_cons,List.sum_cons];omega)
theorem sum_filter {α : Type} (p : α → Bool) (f : α → Nat) : ∀ l : List α,((l.filter p).map f).sum ≤ (l.map f).sum
 | []=>by simp
 | a :: l=>by
   have ih:=sum_filter p f l
   rw [List.filter_cons]
   split <;> (simp only [List.map_cons,List.sum_cons];omega)
theorem applyC_tot {g h : GraphD} {c : ChangeD} (e : Kc3 g c = some h) : totG h ≤ totG g + totC c:=by
 have h1:=sum_putBy NodeD.id totN c.node g.nodes
 have h2:=sum_putBy RelD.id totR c.rel g.rels
 have h3:=sum_filter (fun n : NodeD=>!(n.id == c.id)) totN g.nodes
 have h4:=sum_filter (fun n : RelD=>!(n.id == c.id)) totR g.rels
 unfold Kc3 at e
 rw [putN_eq,putR_eq] at e
 unfold totG totC
 repeat' split at e
 all_goals first | (cases e;simp only;omega) | cases e
theorem applyL_snoc (l : List ChangeD) (c : ChangeD) : ∀ g,Kck g (l ++ [c]) = (Kck g l).bind fun h=>Kc3 h c:=by
 induction l with
 | nil=>intro g;simp only [List.nil_append,Kck,Option.bind];cases Kc3 g c <;> rfl
 | cons a l ih=>intro g;simp only [List.cons_append,Kck];cases Kc3 g a with
   | none=>rfl
   | some h=>exact ih h
theorem applyL_cut (l m : List ChangeD) : ∀ g,Kck g l = none → Kck g (l ++ m) = none:=by
 induction l with
 | nil=>intro g h;simp [Kck] at h
 | cons a l ih=>intro g h;simp only [List.cons_append,Kck] at h ⊢;cases e : Kc3 g a with
   | none=>rfl
   | some x=>rw [e] at h;exact ih x h
theorem applyL_tot : ∀ (l : List ChangeD) {g h : GraphD},Kck g l = some h → totG h ≤ totG g + (l.map totC).sum
 | [],g,h,e=>by cases e;simp
 | c :: l,g,h,e=>by
   simp only [Kck] at e
   cases e2 : Kc3 g c with
   | none=>rw [e2] at e;cases e
   | some x =>
     rw [e2] at e
     have h1:=applyC_tot e2
     have h2:=applyL_tot l e
     simp only [List.map_cons,List.sum_cons]
     omega
def sOf (x : GraphD) (f : Int → List Int) : GS:=⟨x.nodes,x.rels,f,x.nextNode,x.nextRel⟩
theorem apply_step {g x : GraphD} {l : List ChangeD} {j : Nat} (h : Kck g (l.take j) = some x) (hj : j < l.length) : Kck g (l.take (j + 1)) = Kc3 x l[j]:=by
 rw [List.take_succ_eq_append_getElem hj,applyL_snoc,h];rfl
theorem apply_cut {g x : GraphD} {l : List ChangeD} {j : Nat} (h : Kck g (l.take j) = some x) (hj : j < l.length) (hn : Kc3 x l[j] = none) : Kck g l = none:=by
 have h1:=apply_step h hj
 rw [hn] at h1
 rw [← List.take_append_drop (j + 1) l]
 exact applyL_cut _ _ g h1
theorem Kcc {P : Program} {fn : Func} {p u : Tmp} {ty : TypeId} (h : fn.results = #[.cell p ty,.tmp u]) (tmps : Array Value) (w : World) (ad : Addr) (v : Value)
 (hp : tmps.getD p undef = .pointer (some ad)) (hl : (loadVar ty ad).run P w = .ok v w) : (results fn tmps).run P w = .ok (.tuple #[v,tmps.getD u undef]) w:=by
 have hp' : tmps[p]?.getD undef = .pointer (some ad):=by simpa using hp
 simp [results,h,hp',asAddr,hl]
theorem graph_lens {x : GraphD} (h : totG x ≤ 900000) : x.nodes.length ≤ 900000 ∧ x.rels.length ≤ 900000 ∧ (∀ n ∈ x.nodes,totN n ≤ 900000) ∧ ∀ n ∈ x.rels,totR n ≤ 900000:=by
 unfold totG at h
 have h1 : x.nodes.length ≤ (x.nodes.map totN).sum:=Kcb totN fun n _=>by unfold totN;omega
 have h2 : x.rels.length ≤ (x.rels.map totR).sum:=Kcb totR fun n _=>by unfold totR;omega
 exact ⟨by omega,by omega,fun n hn=>by have:=Kbb totN hn;omega,fun n hn=>by have:=Kbb totR hn;omega⟩
theorem Kd2 {w : World} {P : Nat → Prop} {g : GraphD} {y : Array Value} (h : GrOwn w P g y) : y.size = 4:=by obtain ⟨_,_,rfl,_⟩:=h;rfl
theorem gr_ones {w : World} {P : Nat → Prop} {g : GraphD} {y : Array Value} (h : GrOwn w P g y) : ∀ u ∈ y.toList,u.oneCell' = true:=by
 obtain ⟨vn,vr,rfl,⟨_,h1,_⟩,⟨_,h2,_⟩⟩:=h
 have o1:=Kdn h1
 have o2:=Kdn h2
 intro u hu
 simp only [List.mem_cons,List.not_mem_nil,or_false] at hu
 rcases hu with rfl | rfl | rfl | rfl <;> first | assumption | rfl
theorem gr_rd {w : World} {P : Nat → Prop} {g : GraphD} {x : Array Value} (h : GrOwn w P g x) (ht : totG g ≤ 900000) : GrRd w g x:=by
 obtain ⟨k1,k2,k3,k4⟩:=graph_lens ht
 obtain ⟨vn,vr,rfl,h1,h2⟩:=h
 obtain ⟨pn,cn,rfl,e1⟩:=h1.rd Kas (F:=NRd) (by omega) fun v hv x hx=>hx.rd (k3 v hv)
 obtain ⟨pr,cr,rfl,e2⟩:=h2.rd Ka5 (F:=RRd) (by omega) fun v hv x hx=>hx.rd (k4 v hv)
 exact ⟨pn,cn,pr,cr,rfl,e1,e2⟩
theorem i64R_of {k : Int} (h : i64T k) : i64R k:=by unfold i64T at h;unfold i64R;omega
theorem fa_chg (b : Nat) (W : World) : (Instr.fieldAt 74 (.pointer (some ⟨b,0,none⟩)) 0).run Tryz.prog W = .ok (.pointer (some ⟨b,0,none⟩)) W ∧ (Instr.fieldAt 74 (.pointer (some ⟨b,0,none⟩)) 1).run Tryz.prog W = .ok (.pointer (some ⟨b,1,none⟩)) W ∧ (Instr.fieldAt 74 (.pointer (some ⟨b,0,none⟩)) 2).run Tryz.prog W = .ok (.pointer (some ⟨b,2,none⟩)) W ∧ (Instr.fieldAt 74 (.pointer (some ⟨b,0,none⟩)) 3).run Tryz.prog W = .ok (.pointer (some ⟨b,3,none⟩)) W ∧ (Instr.fieldAt 74 (.pointer (some ⟨b,0,none⟩)) 4).run Tryz.prog W = .ok (.pointer (some ⟨b,6,none⟩)) W:=by
 refine ⟨?_,?_,?_,?_,?_⟩ <;> simp [go_sem]
theorem fa_nodeO (b o : Nat) (W : World) : (Instr.fieldAt 70 (.pointer (some ⟨b,o,none⟩)) 0).run Tryz.prog W = .ok (.pointer (some ⟨b,o,none⟩)) W:=by simp [go_sem]
theorem fa_relO (b o : Nat) (W : World) : (Instr.fieldAt 72 (.pointer (some ⟨b,o,none⟩)) 0).run Tryz.prog W = .ok (.pointer (some ⟨b,o,none⟩)) W:=by simp [go_sem]
theorem exec_delete {P : Program} {a : Act} {w w' : World} {o : Oper} {x y : Operand} {t u : TypeId} {m k v : Value} (ho : o.op = .call { callee:=.builtin .delete,args:=#[x,y],argTypes:=#[t,u] }) (hx : a.eval x = m) (hy : a.eval y = k)
 (hr : (Builtin.delete_ #[t,u] o.type #[m,k]).run P w = .ok v w') : (execOp a.eval o).run P w = .ok (.value v) w':=by
 unfold execOp
 simp only [ho,resolve,invoke,builtin,Sem.run_bind,Sem.run_pure,Result.andThen_ok,List.map_toArray,List.map_cons,List.map_nil,hx,hy,hr]
theorem onlyVoid {P : Program} {ops : Array Oper} {K : Exit → Act → World → Prop} {S : World → Prop} {fuel : Nat} {listed : Array Bool} {a : Act} {w : World} (i : Nat) {oi : Oper} {v : Value} {w' : World} (hi : ops[i]? = some oi) (hdst : oi.dst = none) (hr : Region.ready .any ops listed = [i]) (hw : Region.wanted oi (yielded ops a.tmps) = true)
 (hx : (execOp a.eval oi).run P w = .ok (.value v) w') (hS : lastly ops i = true ∨ S w') (h : wpE P ops K S fuel (listed.setIfInBounds i true) a w') : wpE P ops K S (fuel + 1) listed a w :=
 only i hi hr hw (by unfold Oper.wp;rw [hx];refine ⟨hS,?_⟩;rw [hdst];exact h)
theorem KInv.nums {w W : World} {B : GB} {ma : Int → Option Value} {x : GraphD} {f : Int → List Int} (h : KInv w W B ma (sOf x f)) (n m : Int) :
 ∃ W1 W2,(storeVar 2 ⟨B.gx,3,none⟩ (.int .i64 n)).run Tryz.prog W = .ok () W1 ∧ (storeVar 2 ⟨B.gx,4,none⟩ (.int .i64 m)).run Tryz.prog W1 = .ok () W2 ∧ (∀ b,b ≠ B.gx → W1.heap[b]? = W.heap[b]?) ∧ KInv w W2 B ma (sOf ⟨x.nodes,x.rels,n,m⟩ f):=by
 have h0:=h.1.box
 have h1:=Kcd (k:=3) (.int .i64 n) h0
 have h2:=Kcd (k:=4) (.int .i64 m) h1
 have e1 : (storeVar 2 ⟨B.gx,3,none⟩ (.int .i64 n)).run Tryz.prog W = .ok () (W.setCell ⟨B.gx,3,none⟩ (.int .i64 n)):=by
  have hc:=Kab (o:=3) h0 rfl
  have hf:=Kav (o:=3) h0
  simp [storeVar,go_sem,hc,hf]
 have e2 : (storeVar 2 ⟨B.gx,4,none⟩ (.int .i64 m)).run Tryz.prog (W.setCell ⟨B.gx,3,none⟩ (.int .i64 n)) = .ok () ((W.setCell ⟨B.gx,3,none⟩ (.int .i64 n)).setCell ⟨B.gx,4,none⟩ (.int .i64 m)):=by
  have hc:=Kab (o:=4) h1 rfl
  have hf:=Kav (o:=4) h1
  simp [storeVar,go_sem,hc,hf]
 have ht : Touch (fun b=>b = B.gx) W ((W.setCell ⟨B.gx,3,none⟩ (.int .i64 n)).setCell ⟨B.gx,4,none⟩ (.int .i64 m)):=((Touch.refl _ W).setCell (.inl (by exact rfl)) _).setCell (.inl (by exact rfl)) _
 exact ⟨_,_,e1,e2,fun b hb=>Below.heap_setCell _ ⟨B.gx,3,none⟩ _ b hb,h.1.boxed ⟨rfl,rfl,rfl⟩ h2 ht,h.touch ht fun b e=>by rw [e];exact h.1.own.1⟩
theorem res_put {w W : World} {gr : GraphD} {y z : Array Value} (hb : W.heap[w.heap.size + 1]? = some (.cells z 25 (0,0))) (hz : z.size = 4) (hB : Below w.heap.size w W) (ho : GrOwn W (fun b=>w.heap.size + 2 ≤ b) gr y) :
 ∃ W3,(storeVar 25 ⟨w.heap.size + 1,0,none⟩ (.agg y)).run Tryz.prog W = .ok () W3 ∧ (loadVar 25 ⟨w.heap.size + 1,0,none⟩).run Tryz.prog W3 = .ok (.agg y) W3 ∧ GrOwn W3 (fun b=>w.heap.size ≤ b) gr y ∧ Below w.heap.size w W3:=by
 obtain ⟨vn,vr,rfl,h1,h2⟩:=ho
 have o1 : vn.oneCell' = true:=by obtain ⟨xs,h,_⟩:=h1;exact Kdn h
 have o2 : vr.oneCell' = true:=by obtain ⟨xs,h,_⟩:=h2;exact Kdn h
 have hones : ∀ u ∈ (#[vn,vr,.int .i64 gr.nextNode,.int .i64 gr.nextRel] : Array Value).toList,u.oneCell' = true:=fun u hu=>by
  simp only [List.mem_cons,List.not_mem_nil,or_false] at hu
  rcases hu with rfl | rfl | rfl | rfl <;> first | assumption | rfl
 have hk : ∀ b,b ≠ w.heap.size + 1 → (W.setRow (w.heap.size + 1) #[vn,vr,.int .i64 gr.nextNode,.int .i64 gr.nextRel]).heap[b]? = W.heap[b]?:=fun b hb=>setRow_other W _ b _ hb
 exact ⟨_,StT.put (P:=Tryz.prog) Kay rfl hones hb hz,StT.get (P:=Tryz.prog) Kay rfl (setRow_heap W _ _ _ _ _ hb),
  ⟨_,_,rfl,(h1.keep Kas fun b hb _=>hk b (by omega)).imp Kas fun b _ hb=>by omega,(h2.keep Ka5 fun b hb _=>hk b (by omega)).imp Ka5 fun b _ hb=>by omega⟩,Kbz hB (by omega) _⟩
theorem graph0_own {w : World} {P : Nat → Prop} : GrOwn w P Kd3 grZ:=⟨_,_,rfl,GOwn.nil,GOwn.nil⟩
theorem apply_any {w : World} (hE : Env w) {g : GraphD} {x : Array Value} (h : GrRd w g x) {p : Option Addr} {c : Nat} {l : List ChangeD} (hl : GRd CRd 11 w p c l) (hrl : ∀ c ∈ l,i64R c.node.id ∧ i64R c.rel.id) (ht : totG g + (l.map totC).sum ≤ 900000) :
 Calls Tryz.prog 35 #[.agg x,.slice p l.length c] w fun e w'=>∃ y,e = .returned (.tuple #[.agg y,.int .i64 (Kcq g l).2]) ∧ GrOwn w' (fun b=>w.heap.size ≤ b) (Kcq g l).1 y ∧ Below w.heap.size w w':=by
 have hxs:=h
 obtain ⟨pn,cn,pr,cr,rfl,hn,hr⟩:=h
 have hb1:=Kac (w:=w) (.cells #[.slice pn g.nodes.length cn,.slice pr g.rels.length cr,.int .i64 g.nextNode,.int .i64 g.nextRel] 25)
 have hb2:=Kac (w:=w.alloc (.cells #[.slice pn g.nodes.length cn,.slice pr g.rels.length cr,.int .i64 g.nextNode,.int .i64 g.nextRel] 25)) (.cells grZ 25)
 have hbc:=Kaa hb1 hb2
 have hx1:=Kai hb2 (by simp) (heap_alloc_new w (.cells #[.slice pn g.nodes.length cn,.slice pr g.rels.length cr,.int .i64 g.nextNode,.int .i64 g.nextRel] 25))
 have hx2:=heap_alloc_new (w.alloc (.cells #[.slice pn g.nodes.length cn,.slice pr g.rels.length cr,.int .i64 g.nextNode,.int .i64 g.nextRel] 25)) (.cells grZ 25)
 have hz1 : (w.alloc (.cells #[.slice pn g.nodes.length cn,.slice pr g.rels.length cr,.int .i64 g.nextNode,.int .i64 g.nextRel] 25)).heap.size = w.heap.size + 1:=by simp
 rw [hz1] at hx2
 have hz2 : ((w.alloc (.cells #[.slice pn g.nodes.length cn,.slice pr g.rels.length cr,.int .i64 g.nextNode,.int .i64 g.nextRel] 25)).alloc (.cells grZ 25)).heap.size = w.heap.size + 2:=by simp
 have hS0 : ((w.alloc (.cells #[.slice pn g.nodes.length cn,.slice pr g.rels.length cr,.int .i64 g.nextNode,.int .i64 g.nextRel] 25)).alloc (.cells grZ 25)).heap[w.heap.size]? = some (.cells #[.slice pn g.nodes.length cn,.slice pr g.rels.length cr,.int .i64 g.nextNode,.int .i64 g.nextRel] 25 (0,0)):=hx1
 have hmk:=make_any (hE.b hbc) (hxs.below hbc) (by omega)
 have z1 : (l.length : Int) ≤ 140737488355328:=by have:=hl.1.2.1;omega
 have HX:=yh (And.intro hbc (And.intro hx2 hz2))
 have HIN:=yh (And.intro hE (And.intro hl (And.intro hrl ht)))
 have HMK:=yh hmk
 have HS0:=yh hS0
 cases hok : okG g with
 | false =>
   clear hb1 hb2 hbc hx1 hx2 hz1 hz2 hn hr hE hxs hl hrl ht hmk hS0
   go_enter Tryz.func35,Tryz.ntmps35
   have HLG:=yh (Kay.get (P:=Tryz.prog) (W:=((w.alloc (.cells #[.slice pn g.nodes.length cn,.slice pr g.rels.length cr,.int .i64 g.nextNode,.int .i64 g.nextRel] 25)).alloc (.cells grZ 25))) rfl HS0.out)
   go_wp2_with (first
    | ((with_reducible apply Kal);exact HLG.out;exact rfl;clear HLG)
    | (go_at_call 88
       (
         refine HMK.out.mono ?_
         rintro e W2 ⟨hb2,hm1,hm2⟩
         obtain rfl:=hm1 hok
         obtain ⟨W3,d1,d2,d3,d4⟩:=res_put (gr:=Kd3) (Kai hb2 (by rw [HX.out.2.2];omega) HX.out.2.1) rfl (Kaa HX.out.1 hb2) graph0_own
         have HST:=yh d1
         have HLD:=yh d2
         have HF:=yh (And.intro d3 d4)
         clear hb2 hm1 hm2 HMK HS0 d1 d2 d3 d4))
    | ((with_reducible apply Kae);exact HST.out;exact rfl;exact rfl;clear HST))
   refine bodyPost_ret (Kcc rfl _ _ ⟨w.heap.size + 1,0,none⟩ _ rfl HLD.out) rfl ?_
   have hD : Kcq g l = (Kd3,2):=by unfold Kcq;rw [if_pos hok]
   rw [hD]
   exact ⟨_,rfl,HF.out⟩
 | true =>
   clear hb1 hb2 hbc hx1 hx2 hz1 hz2 hn hr hE hxs hl hrl ht hmk hS0
   go_enter Tryz.func35,Tryz.ntmps35
   have HLG:=yh (Kay.get (P:=Tryz.prog) (W:=((w.alloc (.cells #[.slice pn g.nodes.length cn,.slice pr g.rels.length cr,.int .i64 g.nextNode,.int .i64 g.nextRel] 25)).alloc (.cells grZ 25))) rfl HS0.out)
   go_wp2_with (first
    | ((with_reducible apply Kal);exact HLG.out;exact rfl;clear HLG)
    | (go_at_call 88
       (
         refine HMK.out.mono ?_
         rintro e W2 ⟨hb2,hm1,hm2⟩
         obtain ⟨B,ma,rfl,hgm⟩:=hm2 hok
         have HB2:=yh hb2
         have HGM:=yh hgm
         clear hb2 hm1 hm2 hgm HMK HS0)))
   have HK0:=yh (show KInv ((w.alloc (.cells #[.slice pn g.nodes.length cn,.slice pr g.rels.length cr,.int .i64 g.nextNode,.int .i64 g.nextRel] 25)).alloc (.cells grZ 25)) W2 B ma (sOf g (Kdk (fun _=>[]) g.rels)) from ⟨HGM.out,HB2.out⟩)
   have HOK:=yh hok
   generalize ((w.alloc (.cells #[.slice pn g.nodes.length cn,.slice pr g.rels.length cr,.int .i64 g.nextNode,.int .i64 g.nextRel] 25)).alloc (.cells grZ 25)) = w1 at *
   generalize Kdk (fun _=>[]) g.rels = f0 at *
   clear HGM HB2 hok
   go_loopw [22] (fun i wr=>∃ j : Nat,j ≤ l.length ∧ i = .int .i64 (j : Int) ∧ Hid (∃ x,Kck g (l.take j) = some x ∧ KInv w1 wr B ma (sOf x f0))) (fun i _=>l.length - (intOf i).toNat)
   case atStart=>exact ⟨0,Nat.zero_le _,rfl,yh ⟨g,rfl,HK0.out⟩⟩
   case round =>
    obtain ⟨j,hj,rfl,HJ⟩:=hrel
    by_cases hlt : j < l.length
    ·have hlt1:=Nat.succ_le_of_lt hlt
     obtain ⟨x,hx,hK⟩:=HJ.out
     obtain ⟨hE,hl,hrl,ht⟩:=HIN.out
     obtain ⟨hbc,hx2,hz2⟩:=HX.out
     have hbw : Below w.heap.size w wr:=Kaa hbc hK.2
     obtain ⟨b,of,cs,rfl,hs,hc,hv⟩:=hl.get hlt
     have HL1:=yh (StT.load (P:=Tryz.prog) (g:=b) (o:=of + j * 11) (W:=wr) Kb6 hs fun i u hu=>Kak hbw (ltOf (hc i u hu)) (hc i u hu))
     have HS1:=yh (StT.fresh Kb6 hs (Kex.ones hv) (W:=wr))
     have hbn:=Kac (w:=wr) (.cells cs 74)
     have hbx:=heap_alloc_new wr (.cells cs 74)
     have hgx:=Kai hbn hK.1.lts.1 hK.1.box
     have hst:=apply_step hx hlt
     have hcut:=apply_cut hx hlt
     have htc : totN l[j].node + totR l[j].rel ≤ (l.map totC).sum:=Kbb totC (List.getElem_mem hlt)
     have hrc:=hrl _ (List.getElem_mem hlt)
     obtain ⟨ca,cb,ecs,hna,hrb⟩:=hv
     have ka:=Kek.size hna
     have kb:=ef_rel.size hrb
     have kA : ∀ (i : Nat) (u : Value),ca[i]? = some u → cs[3 + i]? = some u:=fun i u hu=>by
      rw [ecs,Array.append_assoc,Array.getElem?_append_right (by simp),Array.getElem?_append_left (by have:=(Array.getElem?_eq_some_iff.1 hu).1;simp;omega)]
      simpa using hu
     have kB : ∀ (i : Nat) (u : Value),cb[i]? = some u → cs[6 + i]? = some u:=fun i u hu=>by
      rw [ecs,Array.getElem?_append_right (by rw [Array.size_append,ka];simp),Array.size_append,ka]
      simpa using hu
     have hln : ∀ W : World,W.heap[wr.heap.size]? = some (.cells cs 74 (0,0)) → (loadVar 70 ⟨wr.heap.size,3,none⟩).run Tryz.prog W = .ok (.agg ca) W:=fun W hW=>StT.load (P:=Tryz.prog) (g:=wr.heap.size) (o:=3) (W:=W) Kbo ka fun i u hu=>Kab (o:=3 + i) hW (kA i u hu)
     have hlr : ∀ W : World,W.heap[wr.heap.size]? = some (.cells cs 74 (0,0)) → (loadVar 72 ⟨wr.heap.size,6,none⟩).run Tryz.prog W = .ok (.agg cb) W:=fun W hW=>StT.load (P:=Tryz.prog) (g:=wr.heap.size) (o:=6) (W:=W) Kcf kb fun i u hu=>Kab (o:=6 + i) hW (kB i u hu)
     have k0 : cs[0]? = some (.int .i64 l[j].kind):=by rw [ecs,Array.append_assoc,Array.getElem?_append_left (by simp)];rfl
     have k1 : cs[1]? = some (.int .i64 l[j].id):=by rw [ecs,Array.append_assoc,Array.getElem?_append_left (by simp)];rfl
     have k2 : cs[2]? = some (.int .i64 l[j].other):=by rw [ecs,Array.append_assoc,Array.getElem?_append_left (by simp)];rfl
     have k3 : cs[3]? = some (.int .i64 l[j].node.id):=kA 0 _ (by obtain ⟨_,_,_,_,e,_⟩:=hna;rw [e];rfl)
     have k6 : cs[6]? = some (.int .i64 l[j].rel.id):=kB 0 _ (by obtain ⟨_,_,e,_⟩:=hrb;rw [e];rfl)
     have hok1:=node_okT (n:=l[j].node) (by omega)
     have hok2:=rel_okT (n:=l[j].rel) (by omega)
     have hcn:=copyNode_any ((hna.below hbw).below hbn.drew) hok1.1 hok1.2
     have hcr:=copyRel_any ((hrb.below hbw).below hbn.drew) hok2
     have hS0 : (wr.alloc (.cells cs 74)).drew.heap[B.gx]? = some (.cells (gBoxV B (sOf x f0)) 133 (0,0)) ∧ (wr.alloc (.cells cs 74)).drew.heap[wr.heap.size]? = some (.cells cs 74 (0,0)):=⟨hgx,hbx⟩
     have hres : (wr.alloc (.cells cs 74)).heap[w.heap.size + 1]? = some (.cells grZ 25 (0,0)):=by
      have e1:=Kai hK.2 (by rw [hz2];omega) hx2
      exact Kai hbn (Array.getElem?_eq_some_iff.1 e1).1 e1
     have hbwn:=Kaa hbw hbn
     generalize l[j] = cj at *
     have HY:=yh (And.intro hK (And.intro hst (And.intro hrc (And.intro hln (And.intro hlr (And.intro hcn (And.intro hcr (And.intro hS0 (And.intro hbn.drew (And.intro k1 (And.intro k2 (And.intro k3 k6))))))))))))
     have HZ:=yh (And.intro hcut (And.intro hres hbwn))
     have p0:=Kab (o:=0) hbx k0
     clear hE hl hrl ht hbc hx2 hz2 hbw hs hc hbn hbx hgx hst hcut htc hrc ecs hna hrb ka kb kA kB hln hlr k0 k1 k2 k3 k6 hok1 hok2 hcn hcr hS0 hres hbwn hK HJ HK0
     obtain hk | hk | hk | hk | hk | hk : cj.kind = 0 ∨ cj.kind = 1 ∨ cj.kind = 2 ∨ cj.kind = 3 ∨ cj.kind = 4 ∨ (cj.kind ≠ 0 ∧ cj.kind ≠ 1 ∧ cj.kind ≠ 2 ∧ cj.kind ≠ 3 ∧ cj.kind ≠ 4):=by omega
     ·rw [hk] at p0
      go_wp2_with (first
       | ((with_reducible apply Kal);exact HL1.out;exact rfl;clear HL1)
       | ((with_reducible apply Kae);exact HS1.out _ rfl;exact rfl;exact rfl;clear HS1))
      obtain ⟨hK,hst,hrc,hln,hlr,hcn,hcr,hS0,hbn,k1,k2,k3,k6⟩:=HY.out
      refine Kaj (fun W=>W.heap[B.gx]? = some (.cells (gBoxV B (sOf x f0)) 133 (0,0)) ∧ W.heap[wr.heap.size]? = some (.cells cs 74 (0,0))) (by kernel_rfl) hS0 (fun hS=>?_)
      refine tk 0 31 (v:=.pointer (some ⟨B.gx,0,none⟩)) rfl rfl (fun W hW=>Kah rfl rfl) ?_
      simp only [Act.put,sA,sZ,sS]
      refine tk 1 32 (v:=.pointer (some ⟨B.gx,0,none⟩)) rfl rfl (fun W hW=>rfl) ?_
      simp only [Act.put,sA,sZ,sS]
      refine tk 2 33 (v:=.pointer (some ⟨B.gx,0,none⟩)) rfl rfl (fun W hW=>Kad rfl rfl (Kcm 0 (by omega) _ W)) ?_
      simp only [Act.put,sA,sZ,sS]
      refine tk 3 34 (v:=.map (some B.bn)) rfl rfl (fun W hW=>Kaf rfl rfl (Kag (w:=W) Tryz.underlying129 rfl (Kab (o:=0) hW.1 rfl))) ?_
      simp only [Act.put,sA,sZ,sS]
      refine tk 4 35 (v:=.pointer (some ⟨wr.heap.size,3,none⟩)) rfl rfl (fun W hW=>Kad rfl rfl (fa_chg _ W).2.2.2.1) ?_
      simp only [Act.put,sA,sZ,sS]
      refine tk 5 36 (v:=.pointer (some ⟨wr.heap.size,3,none⟩)) rfl rfl (fun W hW=>Kad rfl rfl (fa_nodeO _ _ W)) ?_
      simp only [Act.put,sA,sZ,sS]
      refine tk 6 37 (v:=.int .i64 cj.node.id) rfl rfl (fun W hW=>Kaf rfl rfl (Kag (w:=W) Tryz.underlying2 rfl (Kab (o:=3) hW.2 k3))) ?_
      simp only [Act.put,sA,sZ,sS]
      refine tk 7 38 (v:=.pointer (some ⟨wr.heap.size,3,none⟩)) rfl rfl (fun W hW=>Kad rfl rfl (fa_chg _ W).2.2.2.1) ?_
      simp only [Act.put,sA,sZ,sS]
      refine tk 8 39 (v:=.agg ca) rfl rfl (fun W hW=>Kaf rfl rfl (hln W hW.2)) ?_
      simp only [Act.put,sA,sZ,sS]
      refine Kau 9 40 rfl rfl (by kernel_rfl) rfl (Kaq [.agg ca] rfl rfl Tryz.func89 (by kernel_rfl) (by kernel_rfl)) ?_
      refine hcn.mono ?_
      rintro e W7 ⟨x7,rfl,hx7,hb7⟩
      have hb8:=Kaa hbn hb7
      obtain ⟨W9,m1,m2,m3⟩:=hK.node hb8 (Kas.imp (fun b _ hb=>by have:=hbn.size;exact Nat.le_trans this hb) hx7) (i64R_of hrc.1)
      have hS7 : W7.heap[B.gx]? = some (.cells (gBoxV B (sOf x f0)) 133 (0,0)) ∧ W7.heap[wr.heap.size]? = some (.cells cs 74 (0,0)):=⟨Kai hb7 (Array.getElem?_eq_some_iff.1 hS0.1).1 hS0.1,Kai hb7 (Array.getElem?_eq_some_iff.1 hS0.2).1 hS0.2⟩
      refine ⟨_,rfl,.inr hS7,?_⟩
      simp only [Act.put,sA,sZ,sS]
      refine Kca 10 rfl rfl (by kernel_rfl) rfl (Kc2 rfl rfl rfl rfl m1) (.inl (by kernel_rfl)) ?_
      refine done (by kernel_rfl) ?_ _
      have HN:=yh (show ∃ x,Kck g (l.take (j + 1)) = some x ∧ KInv w1 W9 B ma (sOf x f0) from ⟨⟨putN cj.node x.nodes,x.rels,x.nextNode,x.nextRel⟩,by rw [hst];unfold Kc3;simp only [hk];rfl,by
       have:=m2
       simp only [sOf,putN_eq,putR_eq] at this ⊢
       exact this⟩)
      clear hK hst hrc hln hlr hcn hcr hS0 hbn k1 k2 k3 k6 hS HY HZ p0 m1 m2 m3 hS7 hb7 hb8 hx7
      go_wp2
      go_roundw
      case rel=>exact ⟨j + 1,hlt1,by go_num,HN⟩
      case measure=>simp [intOf];omega
     ·rw [hk] at p0
      go_wp2_with (first
       | ((with_reducible apply Kal);exact HL1.out;exact rfl;clear HL1)
       | ((with_reducible apply Kae);exact HS1.out _ rfl;exact rfl;exact rfl;clear HS1))
      obtain ⟨hK,hst,hrc,hln,hlr,hcn,hcr,hS0,hbn,k1,k2,k3,k6⟩:=HY.out
      refine Kaj (fun W=>W.heap[B.gx]? = some (.cells (gBoxV B (sOf x f0)) 133 (0,0)) ∧ W.heap[wr.heap.size]? = some (.cells cs 74 (0,0))) (by kernel_rfl) hS0 (fun hS=>?_)
      refine tk 0 43 (v:=.pointer (some ⟨B.gx,0,none⟩)) rfl rfl (fun W hW=>Kah rfl rfl) ?_
      simp only [Act.put,sA,sZ,sS]
      refine tk 1 44 (v:=.pointer (some ⟨B.gx,0,none⟩)) rfl rfl (fun W hW=>rfl) ?_
      simp only [Act.put,sA,sZ,sS]
      refine tk 2 45 (v:=.pointer (some ⟨B.gx,1,none⟩)) rfl rfl (fun W hW=>Kad rfl rfl (Kcm 1 (by omega) _ W)) ?_
      simp only [Act.put,sA,sZ,sS]
      refine tk 3 46 (v:=.map (some B.br)) rfl rfl (fun W hW=>Kaf rfl rfl (Kag (w:=W) Tryz.underlying130 rfl (Kab (o:=1) hW.1 rfl))) ?_
      simp only [Act.put,sA,sZ,sS]
      refine tk 4 47 (v:=.pointer (some ⟨wr.heap.size,6,none⟩)) rfl rfl (fun W hW=>Kad rfl rfl (fa_chg _ W).2.2.2.2) ?_
      simp only [Act.put,sA,sZ,sS]
      refine tk 5 48 (v:=.pointer (some ⟨wr.heap.size,6,none⟩)) rfl rfl (fun W hW=>Kad rfl rfl (fa_relO _ _ W)) ?_
      simp only [Act.put,sA,sZ,sS]
      refine tk 6 49 (v:=.int .i64 cj.rel.id) rfl rfl (fun W hW=>Kaf rfl rfl (Kag (w:=W) Tryz.underlying2 rfl (Kab (o:=6) hW.2 k6))) ?_
      simp only [Act.put,sA,sZ,sS]
      refine tk 7 50 (v:=.pointer (some ⟨wr.heap.size,6,none⟩)) rfl rfl (fun W hW=>Kad rfl rfl (fa_chg _ W).2.2.2.2) ?_
      simp only [Act.put,sA,sZ,sS]
      refine tk 8 51 (v:=.agg cb) rfl rfl (fun W hW=>Kaf rfl rfl (hlr W hW.2)) ?_
      simp only [Act.put,sA,sZ,sS]
      refine Kau 9 52 rfl rfl (by kernel_rfl) rfl (Kaq [.agg cb] rfl rfl Tryz.func90 (by kernel_rfl) (by kernel_rfl)) ?_
      refine hcr.mono ?_
      rintro e W7 ⟨x7,rfl,hx7,hb7⟩
      have hb8:=Kaa hbn hb7
      obtain ⟨W9,m1,m2,m3⟩:=hK.rel hb8 (Ka5.imp (fun b _ hb=>by have:=hbn.size;exact Nat.le_trans this hb) hx7) (i64R_of hrc.2)
      have hS7 : W7.heap[B.gx]? = some (.cells (gBoxV B (sOf x f0)) 133 (0,0)) ∧ W7.heap[wr.heap.size]? = some (.cells cs 74 (0,0)):=⟨Kai hb7 (Array.getElem?_eq_some_iff.1 hS0.1).1 hS0.1,Kai hb7 (Array.getElem?_eq_some_iff.1 hS0.2).1 hS0.2⟩
      refine ⟨_,rfl,.inr hS7,?_⟩
      simp only [Act.put,sA,sZ,sS]
      refine Kca 10 rfl rfl (by kernel_rfl) rfl (Kc2 rfl rfl rfl rfl m1) (.inl (by kernel_rfl)) ?_
      refine done (by kernel_rfl) ?_ _
      have HN:=yh (show ∃ x,Kck g (l.take (j + 1)) = some x ∧ KInv w1 W9 B ma (sOf x f0) from ⟨⟨x.nodes,putR cj.rel x.rels,x.nextNode,x.nextRel⟩,by rw [hst];unfold Kc3;simp only [hk];rfl,by
       have:=m2
       simp only [sOf,putN_eq,putR_eq] at this ⊢
       exact this⟩)
      clear hK hst hrc hln hlr hcn hcr hS0 hbn k1 k2 k3 k6 hS HY HZ p0 m1 m2 m3 hS7 hb7 hb8 hx7
      go_wp2
      go_roundw
      case rel=>exact ⟨j + 1,hlt1,by go_num,HN⟩
      case measure=>simp [intOf];omega
     ·rw [hk] at p0
      go_wp2_with (first
       | ((with_reducible apply Kal);exact HL1.out;exact rfl;clear HL1)
       | ((with_reducible apply Kae);exact HS1.out _ rfl;exact rfl;exact rfl;clear HS1))
      obtain ⟨hK,hst,hrc,hln,hlr,hcn,hcr,hS0,hbn,k1,k2,k3,k6⟩:=HY.out
      refine Kaj (fun W=>W.heap[B.gx]? = some (.cells (gBoxV B (sOf x f0)) 133 (0,0)) ∧ W.heap[wr.heap.size]? = some (.cells cs 74 (0,0))) (by kernel_rfl) hS0 (fun hS=>?_)
      refine tk 0 55 (v:=.pointer (some ⟨B.gx,0,none⟩)) rfl rfl (fun W hW=>Kah rfl rfl) ?_
      simp only [Act.put,sA,sZ,sS]
      refine tk 1 56 (v:=.pointer (some ⟨B.gx,0,none⟩)) rfl rfl (fun W hW=>rfl) ?_
      simp only [Act.put,sA,sZ,sS]
      refine tk 2 57 (v:=.pointer (some ⟨B.gx,0,none⟩)) rfl rfl (fun W hW=>Kad rfl rfl (Kcm 0 (by omega) _ W)) ?_
      simp only [Act.put,sA,sZ,sS]
      refine tk 3 58 (v:=.map (some B.bn)) rfl rfl (fun W hW=>Kaf rfl rfl (Kag (w:=W) Tryz.underlying129 rfl (Kab (o:=0) hW.1 rfl))) ?_
      simp only [Act.put,sA,sZ,sS]
      refine tk 4 59 (v:=.pointer (some ⟨wr.heap.size,1,none⟩)) rfl rfl (fun W hW=>Kad rfl rfl (fa_chg _ W).2.1) ?_
      simp only [Act.put,sA,sZ,sS]
      refine tk 5 60 (v:=.int .i64 cj.id) rfl rfl (fun W hW=>Kaf rfl rfl (Kag (w:=W) Tryz.underlying2 rfl (Kab (o:=1) hW.2 k1))) ?_
      simp only [Act.put,sA,sZ,sS]
      obtain ⟨W9,m1,m2⟩:=(hK.below hbn).nodeDel cj.id 2 _
      refine onlyVoid 6 rfl rfl (by kernel_rfl) rfl (exec_delete rfl rfl rfl m1) (.inl (by kernel_rfl)) ?_
      refine done (by kernel_rfl) ?_ _
      have HN:=yh (show ∃ x,Kck g (l.take (j + 1)) = some x ∧ KInv w1 W9 B ma (sOf x f0) from ⟨⟨x.nodes.filter fun n=>!(n.id == cj.id),x.rels,x.nextNode,x.nextRel⟩,by rw [hst];unfold Kc3;simp only [hk];rfl,by
       have:=m2
       simp only [sOf,putN_eq,putR_eq] at this ⊢
       exact this⟩)
      clear hK hst hrc hln hlr hcn hcr hS0 hbn k1 k2 k3 k6 hS HY HZ p0 m1 m2
      go_wp2
      go_roundw
      case rel=>exact ⟨j + 1,hlt1,by go_num,HN⟩
      case measure=>simp [intOf];omega
     ·rw [hk] at p0
      go_wp2_with (first
       | ((with_reducible apply Kal);exact HL1.out;exact rfl;clear HL1)
       | ((with_reducible apply Kae);exact HS1.out _ rfl;exact rfl;exact rfl;clear HS1))
      obtain ⟨hK,hst,hrc,hln,hlr,hcn,hcr,hS0,hbn,k1,k2,k3,k6⟩:=HY.out
      refine Kaj (fun W=>W.heap[B.gx]? = some (.cells (gBoxV B (sOf x f0)) 133 (0,0)) ∧ W.heap[wr.heap.size]? = some (.cells cs 74 (0,0))) (by kernel_rfl) hS0 (fun hS=>?_)
      refine tk 0 63 (v:=.pointer (some ⟨B.gx,0,none⟩)) rfl rfl (fun W hW=>Kah rfl rfl) ?_
      simp only [Act.put,sA,sZ,sS]
      refine tk 1 64 (v:=.pointer (some ⟨B.gx,0,none⟩)) rfl rfl (fun W hW=>rfl) ?_
      simp only [Act.put,sA,sZ,sS]
      refine tk 2 65 (v:=.pointer (some ⟨B.gx,1,none⟩)) rfl rfl (fun W hW=>Kad rfl rfl (Kcm 1 (by omega) _ W)) ?_
      simp only [Act.put,sA,sZ,sS]
      refine tk 3 66 (v:=.map (some B.br)) rfl rfl (fun W hW=>Kaf rfl rfl (Kag (w:=W) Tryz.underlying130 rfl (Kab (o:=1) hW.1 rfl))) ?_
      simp only [Act.put,sA,sZ,sS]
      refine tk 4 67 (v:=.pointer (some ⟨wr.heap.size,1,none⟩)) rfl rfl (fun W hW=>Kad rfl rfl (fa_chg _ W).2.1) ?_
      simp only [Act.put,sA,sZ,sS]
      refine tk 5 68 (v:=.int .i64 cj.id) rfl rfl (fun W hW=>Kaf rfl rfl (Kag (w:=W) Tryz.underlying2 rfl (Kab (o:=1) hW.2 k1))) ?_
      simp only [Act.put,sA,sZ,sS]
      obtain ⟨W9,m1,m2⟩:=(hK.below hbn).relDel cj.id 2 _
      refine onlyVoid 6 rfl rfl (by kernel_rfl) rfl (exec_delete rfl rfl rfl m1) (.inl (by kernel_rfl)) ?_
      refine done (by kernel_rfl) ?_ _
      have HN:=yh (show ∃ x,Kck g (l.take (j + 1)) = some x ∧ KInv w1 W9 B ma (sOf x f0) from ⟨⟨x.nodes,x.rels.filter fun n=>!(n.id == cj.id),x.nextNode,x.nextRel⟩,by rw [hst];unfold Kc3;simp only [hk];rfl,by
       have:=m2
       simp only [sOf,putN_eq,putR_eq] at this ⊢
       exact this⟩)
      clear hK hst hrc hln hlr hcn hcr hS0 hbn k1 k2 k3 k6 hS HY HZ p0 m1 m2
      go_wp2
      go_roundw
      case rel=>exact ⟨j + 1,hlt1,by go_num,HN⟩
      case measure=>simp [intOf];omega
     ·rw [hk] at p0
      go_wp2_with (first
       | ((with_reducible apply Kal);exact HL1.out;exact rfl;clear HL1)
       | ((with_reducible apply Kae);exact HS1.out _ rfl;exact rfl;exact rfl;clear HS1))
      obtain ⟨hK,hst,hrc,hln,hlr,hcn,hcr,hS0,hbn,k1,k2,k3,k6⟩:=HY.out
      have hS0:=hS0.2
      obtain ⟨W1,W9,m0,m1,mk,m2⟩:=(hK.below hbn).nums cj.id cj.other
      have hS1 : W1.heap[wr.heap.size]? = some (.cells cs 74 (0,0)):=(mk _ (by have:=hK.1.lts.1;omega)).trans hS0
      refine Kaj (fun W=>W.heap[wr.heap.size]? = some (.cells cs 74 (0,0))) (by kernel_rfl) hS0 (fun hS=>?_)
      refine tk 0 71 (v:=.pointer (some ⟨B.gx,0,none⟩)) rfl rfl (fun W hW=>Kah rfl rfl) ?_
      simp only [Act.put,sA,sZ,sS]
      refine tk 1 72 (v:=.pointer (some ⟨B.gx,0,none⟩)) rfl rfl (fun W hW=>Kah rfl rfl) ?_
      simp only [Act.put,sA,sZ,sS]
      refine tk 2 73 (v:=.pointer (some ⟨wr.heap.size,1,none⟩)) rfl rfl (fun W hW=>Kad rfl rfl (fa_chg _ W).2.1) ?_
      simp only [Act.put,sA,sZ,sS]
      refine tk 3 74 (v:=.int .i64 cj.id) rfl rfl (fun W hW=>Kaf rfl rfl (Kag (w:=W) Tryz.underlying2 rfl (Kab (o:=1) hW k1))) ?_
      simp only [Act.put,sA,sZ,sS]
      refine tk 4 75 (v:=.pointer (some ⟨wr.heap.size,2,none⟩)) rfl rfl (fun W hW=>Kad rfl rfl (fa_chg _ W).2.2.1) ?_
      simp only [Act.put,sA,sZ,sS]
      refine tk 5 76 (v:=.int .i64 cj.other) rfl rfl (fun W hW=>Kaf rfl rfl (Kag (w:=W) Tryz.underlying2 rfl (Kab (o:=2) hW k2))) ?_
      simp only [Act.put,sA,sZ,sS]
      refine tk 6 77 (v:=.pointer (some ⟨B.gx,0,none⟩)) rfl rfl (fun W hW=>rfl) ?_
      simp only [Act.put,sA,sZ,sS]
      refine tk 7 78 (v:=.pointer (some ⟨B.gx,3,none⟩)) rfl rfl (fun W hW=>Kad rfl rfl (Kcm 3 (by omega) _ W)) ?_
      simp only [Act.put,sA,sZ,sS]
      refine Kca 8 rfl rfl (by kernel_rfl) rfl (Kb4 rfl rfl rfl m0) (.inr hS1) ?_
      refine tk 9 79 (v:=.pointer (some ⟨B.gx,0,none⟩)) rfl rfl (fun W hW=>rfl) ?_
      simp only [Act.put,sA,sZ,sS]
      refine tk 10 80 (v:=.pointer (some ⟨B.gx,4,none⟩)) rfl rfl (fun W hW=>Kad rfl rfl (Kcm 4 (by omega) _ W)) ?_
      simp only [Act.put,sA,sZ,sS]
      refine Kca 11 rfl rfl (by kernel_rfl) rfl (Kb4 rfl rfl rfl m1) (.inl (by kernel_rfl)) ?_
      refine done (by kernel_rfl) ?_ _
      have HN:=yh (show ∃ x,Kck g (l.take (j + 1)) = some x ∧ KInv w1 W9 B ma (sOf x f0) from ⟨⟨x.nodes,x.rels,cj.id,cj.other⟩,by rw [hst];unfold Kc3;simp only [hk];rfl,by
       have:=m2
       simp only [sOf,putN_eq,putR_eq] at this ⊢
       exact this⟩)
      clear hK hst hrc hln hlr hcn hcr hS0 hbn k1 k2 k3 k6 hS HY HZ p0 m1 m2 m0 mk hS1
      go_wp2
      go_roundw
      case rel=>exact ⟨j + 1,hlt1,by go_num,HN⟩
      case measure=>simp [intOf];omega
     ·obtain ⟨n0,n1,n2,n3,n4⟩:=hk
      have HNO:=yh (show Kc3 x cj = none by unfold Kc3;rw [if_neg n0,if_neg n1,if_neg n2,if_neg n3,if_neg n4])
      obtain ⟨W3,d1,d2,d3,d4⟩:=res_put (gr:=Kd3) HZ.out.2.1 rfl HZ.out.2.2 graph0_own
      have HST:=yh d1
      have HLD:=yh d2
      have HF:=yh (And.intro d3 d4)
      clear d1 d2 d3 d4
      go_wp2_with (first
       | ((with_reducible apply Kal);exact HL1.out;exact rfl;clear HL1)
       | ((with_reducible apply Kae);exact HS1.out _ rfl;exact rfl;exact rfl;clear HS1)
       | ((with_reducible apply Kae);exact HST.out;exact rfl;exact rfl;clear HST))
      refine bodyPost_ret (Kcc rfl _ _ ⟨w.heap.size + 1,0,none⟩ _ rfl HLD.out) rfl ?_
      have hD : Kcq g l = (Kd3,2):=by unfold Kcq;rw [if_neg (by rw [HOK.out];simp),HZ.out.1 HNO.out]
      rw [hD]
      exact ⟨_,rfl,HF.out⟩
    ·obtain rfl : j = l.length:=by omega
     obtain ⟨x,hx,hK⟩:=HJ.out
     rw [List.take_length] at hx
     obtain ⟨hE,hl,hrl,ht⟩:=HIN.out
     obtain ⟨hbc,hx2,hz2⟩:=HX.out
     have hbw : Below w.heap.size w wr:=Kaa hbc hK.2
     have htx : totG x ≤ 900000:=by have:=applyL_tot l hx;omega
     have hxl:=graph_lens htx
     have hres:=Kai hK.2 (by rw [hz2];omega) hx2
     have hwr : w.heap.size + 2 ≤ wr.heap.size:=by have:=hK.2.size;omega
     have HTL:=yh (tellG_any hK.1 hxl.2.2.1 hxl.2.2.2 hxl.1 hxl.2.1)
     have HQ:=yh (And.intro hbw (And.intro htx (And.intro hres (And.intro hwr (hE.b hbw)))))
     have HXL:=yh hx
     clear hE hl hrl ht hbc hx2 hz2 hbw htx hres hwr hK hx HJ HK0
     by_cases hbig : 65536 < x.nodes.length + x.rels.length
     ·have hb1 : (65536 : Int) < (x.nodes.length : Int) + (x.rels.length : Int):=by omega
      go_wp2_with (first
       | (go_at_call 91
          (
            refine HTL.out.mono ?_
            rintro e W5 ⟨y,rfl,hy,hb5⟩
            have hyo : GrOwn (W5.alloc (.cells y 25)) (fun b=>w.heap.size + 2 ≤ b) x y:=by
             obtain ⟨vn,vr,e,h1,h2⟩:=hy
             have:=HQ.out.2.2.2.1
             exact ⟨vn,vr,e,(h1.below Kas (Kac _)).imp Kas fun b _ hb=>Nat.le_trans this hb,(h2.below Ka5 (Kac _)).imp Ka5 fun b _ hb=>Nat.le_trans this hb⟩
            have hb6 : Below wr.heap.size wr (W5.alloc (.cells y 25)):=Kaa hb5 (Kac _)
            have hres6:=Kai hb6 (Array.getElem?_eq_some_iff.1 HQ.out.2.2.1).1 HQ.out.2.2.1
            have hyx:=heap_alloc_new W5 (.cells y 25)
            have HSF:=yh (StT.fresh (P:=Tryz.prog) Kay (Kd2 hyo) (gr_ones hyo) (W:=W5))
            have HLY:=yh (Kay.get (P:=Tryz.prog) (Kd2 hyo) hyx)
            have htx2:=HQ.out.2.1
            obtain ⟨W3,d1,d2,d3,d4⟩:=res_put (gr:=Kd3) hres6 rfl (Kaa HQ.out.1 hb6) graph0_own
            have HST:=yh d1
            have HLD:=yh d2
            have HF:=yh (And.intro d3 d4)
            obtain ⟨vn,vr,ey,h1,h2⟩:=hyo
            obtain ⟨qn,dn,rfl⟩:=h1.slice
            obtain ⟨qr,dr,rfl⟩:=h2.slice
            have hyo : GrOwn (W5.alloc (.cells y 25)) (fun b=>w.heap.size + 2 ≤ b) x y:=⟨_,_,ey,h1,h2⟩
            have p0 : (W5.alloc (.cells y 25)).cell? ⟨W5.heap.size,0,none⟩ = some (.slice qn x.nodes.length dn):=Kab (o:=0) hyx (by rw [ey];rfl)
            have p1 : (W5.alloc (.cells y 25)).cell? ⟨W5.heap.size,1,none⟩ = some (.slice qr x.rels.length dr):=Kab (o:=1) hyx (by rw [ey];rfl)
            have HW:=yh (And.intro hyo (And.intro hb6 (And.intro hres6 hyx)))
            clear hy hb5 hyo hb6 hres6 hyx htx2 h1 h2 HTL d1 d2 d3 d4 ey))
       | ((with_reducible apply Kae);exact HSF.out _ rfl;exact rfl;exact rfl;clear HSF)
       | ((with_reducible apply Kal);exact HLY.out;exact rfl)
       | ((with_reducible apply Kae);exact HST.out;exact rfl;exact rfl;clear HST))
      refine bodyPost_ret (Kcc rfl _ _ ⟨w.heap.size + 1,0,none⟩ _ rfl HLD.out) rfl ?_
      have hD : Kcq g l = (Kd3,151):=by
       unfold Kcq
       rw [if_neg (by rw [HOK.out];simp),HXL.out]
       simp only
       rw [if_pos hbig]
      rw [hD]
      exact ⟨_,rfl,HF.out⟩
     ·have hb1 : ¬ (65536 : Int) < (x.nodes.length : Int) + (x.rels.length : Int):=by omega
      cases hox : okG x with
      | false =>
        go_wp2_with (first
         | (go_at_call 91
            (
              refine HTL.out.mono ?_
              rintro e W5 ⟨y,rfl,hy,hb5⟩
              have hyo : GrOwn (W5.alloc (.cells y 25)) (fun b=>w.heap.size + 2 ≤ b) x y:=by
               obtain ⟨vn,vr,e,h1,h2⟩:=hy
               have:=HQ.out.2.2.2.1
               exact ⟨vn,vr,e,(h1.below Kas (Kac _)).imp Kas fun b _ hb=>Nat.le_trans this hb,(h2.below Ka5 (Kac _)).imp Ka5 fun b _ hb=>Nat.le_trans this hb⟩
              have hb6 : Below wr.heap.size wr (W5.alloc (.cells y 25)):=Kaa hb5 (Kac _)
              have hres6:=Kai hb6 (Array.getElem?_eq_some_iff.1 HQ.out.2.2.1).1 HQ.out.2.2.1
              have hyx:=heap_alloc_new W5 (.cells y 25)
              have HSF:=yh (StT.fresh (P:=Tryz.prog) Kay (Kd2 hyo) (gr_ones hyo) (W:=W5))
              have HLY:=yh (Kay.get (P:=Tryz.prog) (Kd2 hyo) hyx)
              have htx2:=HQ.out.2.1
              have HCK:=yh (Kc5 (HQ.out.2.2.2.2.b hb6) (gr_rd hyo htx2) (by omega))
              rw [hox] at HCK
              obtain ⟨vn,vr,ey,h1,h2⟩:=hyo
              obtain ⟨qn,dn,rfl⟩:=h1.slice
              obtain ⟨qr,dr,rfl⟩:=h2.slice
              have hyo : GrOwn (W5.alloc (.cells y 25)) (fun b=>w.heap.size + 2 ≤ b) x y:=⟨_,_,ey,h1,h2⟩
              have p0 : (W5.alloc (.cells y 25)).cell? ⟨W5.heap.size,0,none⟩ = some (.slice qn x.nodes.length dn):=Kab (o:=0) hyx (by rw [ey];rfl)
              have p1 : (W5.alloc (.cells y 25)).cell? ⟨W5.heap.size,1,none⟩ = some (.slice qr x.rels.length dr):=Kab (o:=1) hyx (by rw [ey];rfl)
              have HW:=yh (And.intro hyo (And.intro hb6 (And.intro hres6 hyx)))
              clear hy hb5 hyo hb6 hres6 hyx htx2 h1 h2 HTL ey))
         | ((with_reducible apply Kae);exact HSF.out _ rfl;exact rfl;exact rfl;clear HSF)
         | ((with_reducible apply Kal);exact HLY.out;exact rfl)
         | (go_at_call 13
            (
              refine HCK.out.mono ?_
              rintro e W7 ⟨rfl,hb7⟩
              obtain ⟨hyo,hb6,hres6,hyx⟩:=HW.out
              have hyo7 : GrOwn W7 (fun b=>w.heap.size + 2 ≤ b) x y:=by
               obtain ⟨vn,vr,e,h1,h2⟩:=hyo
               exact ⟨vn,vr,e,h1.below Kas hb7,h2.below Ka5 hb7⟩
              have hres7:=Kai hb7 (Array.getElem?_eq_some_iff.1 hres6).1 hres6
              have HLZ:=yh (Kay.get (P:=Tryz.prog) (Kd2 hyo) (Kai hb7 (Array.getElem?_eq_some_iff.1 hyx).1 hyx))
              obtain ⟨W3,d1,d2,d3,d4⟩:=res_put (gr:=Kd3) hres7 rfl (Kaa (Kaa HQ.out.1 hb6) hb7) graph0_own
              have HST:=yh d1
              have HLD:=yh d2
              have HF:=yh (And.intro d3 d4)
              clear hyo hb6 hres6 hyx hyo7 hres7 d1 d2 d3 d4 hb7 HLY HCK HW
              simp only [errG,if_true,if_false,Bool.false_eq_true]))
         | ((with_reducible apply Kal);exact HLZ.out;exact rfl)
         | ((with_reducible apply Kae);exact HST.out;exact rfl;exact rfl;clear HST))
        refine bodyPost_ret (Kcc rfl _ _ ⟨w.heap.size + 1,0,none⟩ _ rfl HLD.out) rfl ?_
        have hD : Kcq g l = (Kd3,2):=by
         unfold Kcq
         rw [if_neg (by rw [HOK.out];simp),HXL.out]
         simp only
         rw [if_neg hbig,if_pos hox]
        rw [hD]
        exact ⟨_,rfl,HF.out⟩
      | true =>
        go_wp2_with (first
         | (go_at_call 91
            (
              refine HTL.out.mono ?_
              rintro e W5 ⟨y,rfl,hy,hb5⟩
              have hyo : GrOwn (W5.alloc (.cells y 25)) (fun b=>w.heap.size + 2 ≤ b) x y:=by
               obtain ⟨vn,vr,e,h1,h2⟩:=hy
               have:=HQ.out.2.2.2.1
               exact ⟨vn,vr,e,(h1.below Kas (Kac _)).imp Kas fun b _ hb=>Nat.le_trans this hb,(h2.below Ka5 (Kac _)).imp Ka5 fun b _ hb=>Nat.le_trans this hb⟩
              have hb6 : Below wr.heap.size wr (W5.alloc (.cells y 25)):=Kaa hb5 (Kac _)
              have hres6:=Kai hb6 (Array.getElem?_eq_some_iff.1 HQ.out.2.2.1).1 HQ.out.2.2.1
              have hyx:=heap_alloc_new W5 (.cells y 25)
              have HSF:=yh (StT.fresh (P:=Tryz.prog) Kay (Kd2 hyo) (gr_ones hyo) (W:=W5))
              have HLY:=yh (Kay.get (P:=Tryz.prog) (Kd2 hyo) hyx)
              have htx2:=HQ.out.2.1
              have HCK:=yh (Kc5 (HQ.out.2.2.2.2.b hb6) (gr_rd hyo htx2) (by omega))
              rw [hox] at HCK
              obtain ⟨vn,vr,ey,h1,h2⟩:=hyo
              obtain ⟨qn,dn,rfl⟩:=h1.slice
              obtain ⟨qr,dr,rfl⟩:=h2.slice
              have hyo : GrOwn (W5.alloc (.cells y 25)) (fun b=>w.heap.size + 2 ≤ b) x y:=⟨_,_,ey,h1,h2⟩
              have p0 : (W5.alloc (.cells y 25)).cell? ⟨W5.heap.size,0,none⟩ = some (.slice qn x.nodes.length dn):=Kab (o:=0) hyx (by rw [ey];rfl)
              have p1 : (W5.alloc (.cells y 25)).cell? ⟨W5.heap.size,1,none⟩ = some (.slice qr x.rels.length dr):=Kab (o:=1) hyx (by rw [ey];rfl)
              have HW:=yh (And.intro hyo (And.intro hb6 (And.intro hres6 hyx)))
              clear hy hb5 hyo hb6 hres6 hyx htx2 h1 h2 HTL ey))
         | ((with_reducible apply Kae);exact HSF.out _ rfl;exact rfl;exact rfl;clear HSF)
         | ((with_reducible apply Kal);exact HLY.out;exact rfl)
         | (go_at_call 13
            (
              refine HCK.out.mono ?_
              rintro e W7 ⟨rfl,hb7⟩
              obtain ⟨hyo,hb6,hres6,hyx⟩:=HW.out
              have hyo7 : GrOwn W7 (fun b=>w.heap.size + 2 ≤ b) x y:=by
               obtain ⟨vn,vr,e,h1,h2⟩:=hyo
               exact ⟨vn,vr,e,h1.below Kas hb7,h2.below Ka5 hb7⟩
              have hres7:=Kai hb7 (Array.getElem?_eq_some_iff.1 hres6).1 hres6
              have HLZ:=yh (Kay.get (P:=Tryz.prog) (Kd2 hyo) (Kai hb7 (Array.getElem?_eq_some_iff.1 hyx).1 hyx))
              obtain ⟨W3,d1,d2,d3,d4⟩:=res_put (gr:=x) hres7 rfl (Kaa (Kaa HQ.out.1 hb6) hb7) hyo7
              have HST:=yh d1
              have HLD:=yh d2
              have HF:=yh (And.intro d3 d4)
              clear hyo hb6 hres6 hyx hyo7 hres7 d1 d2 d3 d4 hb7 HLY HCK HW
              simp only [errG,if_true,if_false,Bool.false_eq_true]))
         | ((with_reducible apply Kal);exact HLZ.out;exact rfl)
         | ((with_reducible apply Kae);exact HST.out;exact rfl;exact rfl;clear HST))
        refine bodyPost_ret (Kcc rfl _ _ ⟨w.heap.size + 1,0,none⟩ _ rfl HLD.out) rfl ?_
        have hD : Kcq g l = (x,0):=by
         unfold Kcq
         rw [if_neg (by rw [HOK.out];simp),HXL.out]
         simp only
         rw [if_neg hbig,if_neg (by rw [hox];simp)]
        rw [hD]
        exact ⟨_,rfl,HF.out⟩
theorem applyD_tot (g : GraphD) (l : List ChangeD) : totG (Kcq g l).1 ≤ totG g + (l.map totC).sum:=by
 have h0 : totG Kd3 = 0:=rfl
 unfold Kcq
 split
 ·simp [h0]
 ·split
  ·simp [h0]
  ·rename_i x hx
   have:=applyL_tot l hx
   split
   ·simp [h0]
   ·split
    ·simp [h0]
    ·exact this
theorem cdone_any {w : World} (hE : Env w) {v : GraphD} {x : Array Value} (hx : GrRd w v x) (hr0 : rngG v) {p : Option Addr} {c : Nat} {l : List ChangeD} (hl : GRd CRd 11 w p c l) (hr1 : ∀ c ∈ l,rngC c) :
 Calls Tryz.prog 8 #[.agg x,.slice p l.length c] w fun e w'=>e = .returned (.bool true) ∧ Below w.heap.size w w':=by
 have z1 : (l.length : Int) ≤ 140737488355328:=by have:=hl.1.2.1;omega
 have hxs:=ef_graph.size hx
 have hb1:=Kac (w:=w) (.cells x 25)
 have HBX1:=yh (show Lies w.heap.size 25 x (w.alloc (.cells x 25)) from heap_alloc_new w (.cells x 25))
 have HCUR:=yh hb1
 have HE:=yh hE
 have HZ1:=yh (fun W (g : Below w.heap.size w W)=>smallG_any (hx.below g))
 have HZ2:=yh (fun W (g : Below w.heap.size w W)=>few_any (hl.below (fun h=>h.below g) g))
 by_cases ht1 : totG v ≤ 3000
 rotate_left
 ·clear hx hE hr1 hl hb1
  go_enter Tryz.func8,Tryz.ntmps8
  go_wp2_with (first
   | ((with_reducible apply Kal);exact HBX1.out.get hxs;exact rfl)
   | ((with_reducible apply Kdh);exact HBX1.out.get hxs;exact rfl;exact rfl)
   | (go_at_call 9
      go_loud (
       refine (HZ1.out _ HCUR.out).mono ?_
       rintro e W1 ⟨s,rfl,hs,hb1⟩
       obtain rfl : s = false:=by cases s;rfl;exact absurd (hs rfl) ht1
       replace HCUR:=yh (Kaa HCUR.out hb1)
       try replace HBX1:=yh (HBX1.out.below hb1)
       try replace HBX2:=yh (HBX2.out.below hb1)
       try replace HBX3:=yh (HBX3.out.below hb1)
       try replace HD1:=yh (HD1.out.below hb1)
       try replace HD5:=yh (HD5.out.below hb1)
       try replace HY1:=yh (HY1.out.below hb1)
       try replace HY2:=yh (HY2.out.below hb1)
       try replace HL:=yh (HL.out.below (fun h=>h.below hb1) hb1)
       try replace HM:=yh (HM.out.below (fun h=>h.below hb1) hb1)
       clear HZ1 hs hb1))
   | (go_at_call 26
      go_loud (
       refine (HZ2.out _ HCUR.out).mono ?_
       rintro e W2 ⟨s2,rfl,hs2,hb2⟩
       skip
       replace HCUR:=yh (Kaa HCUR.out hb2)
       try replace HBX1:=yh (HBX1.out.below hb2)
       try replace HBX2:=yh (HBX2.out.below hb2)
       try replace HBX3:=yh (HBX3.out.below hb2)
       try replace HD1:=yh (HD1.out.below hb2)
       try replace HD5:=yh (HD5.out.below hb2)
       try replace HY1:=yh (HY1.out.below hb2)
       try replace HY2:=yh (HY2.out.below hb2)
       try replace HL:=yh (HL.out.below (fun h=>h.below hb2) hb2)
       try replace HM:=yh (HM.out.below (fun h=>h.below hb2) hb2)
       clear HZ2 hs2 hb2
       cases s2))
   | (go_at_call 10
      go_loud (
       refine (worksG_any (HE.out.b HCUR.out)).mono ?_
       rintro e W13 ⟨rfl,hb13⟩
       replace HCUR:=yh (Kaa HCUR.out hb13)
       clear hb13)))
  all_goals
   go_ret
   exact ⟨rfl,HCUR.out⟩
 by_cases ht2 : (l.map totC).sum ≤ 3000
 rotate_left
 ·clear hx hE hr1 hl hb1
  go_enter Tryz.func8,Tryz.ntmps8
  go_wp2_with (first
   | ((with_reducible apply Kal);exact HBX1.out.get hxs;exact rfl)
   | ((with_reducible apply Kdh);exact HBX1.out.get hxs;exact rfl;exact rfl)
   | (go_at_call 9
      go_loud (
       refine (HZ1.out _ HCUR.out).mono ?_
       rintro e W1 ⟨s,rfl,hs,hb1⟩
       skip
       replace HCUR:=yh (Kaa HCUR.out hb1)
       try replace HBX1:=yh (HBX1.out.below hb1)
       try replace HBX2:=yh (HBX2.out.below hb1)
       try replace HBX3:=yh (HBX3.out.below hb1)
       try replace HD1:=yh (HD1.out.below hb1)
       try replace HD5:=yh (HD5.out.below hb1)
       try replace HY1:=yh (HY1.out.below hb1)
       try replace HY2:=yh (HY2.out.below hb1)
       try replace HL:=yh (HL.out.below (fun h=>h.below hb1) hb1)
       try replace HM:=yh (HM.out.below (fun h=>h.below hb1) hb1)
       clear HZ1 hs hb1
       cases s))
   | (go_at_call 26
      go_loud (
       refine (HZ2.out _ HCUR.out).mono ?_
       rintro e W2 ⟨s2,rfl,hs2,hb2⟩
       obtain rfl : s2 = false:=by cases s2;rfl;exact absurd (hs2 rfl) ht2
       replace HCUR:=yh (Kaa HCUR.out hb2)
       try replace HBX1:=yh (HBX1.out.below hb2)
       try replace HBX2:=yh (HBX2.out.below hb2)
       try replace HBX3:=yh (HBX3.out.below hb2)
       try replace HD1:=yh (HD1.out.below hb2)
       try replace HD5:=yh (HD5.out.below hb2)
       try replace HY1:=yh (HY1.out.below hb2)
       try replace HY2:=yh (HY2.out.below hb2)
       try replace HL:=yh (HL.out.below (fun h=>h.below hb2) hb2)
       try replace HM:=yh (HM.out.below (fun h=>h.below hb2) hb2)
       clear HZ2 hs2 hb2))
   | (go_at_call 10
      go_loud (
       refine (worksG_any (HE.out.b HCUR.out)).mono ?_
       rintro e W13 ⟨rfl,hb13⟩
       replace HCUR:=yh (Kaa HCUR.out hb13)
       clear hb13)))
  all_goals
   go_ret
   exact ⟨rfl,HCUR.out⟩
 have hll:=len_changes l
 have hids : ∀ c ∈ l,i64T c.node.id ∧ i64T c.rel.id:=fun c hc=>⟨(hr1 c hc).2.2.2.1.1,(hr1 c hc).2.2.2.2.1⟩
 have HC1:=yh (fun W (g : Below w.heap.size w W)=>Kdz (hE.b g) (hl.below (fun h=>h.below g) g) hr1 (by omega))
 cases ok1 : l.all okC
 ·have hout : outC l = []:=by unfold outC;rw [ok1];rfl
  have herr : errC l = 2:=by unfold errC;rw [ok1];rfl
  rw [hout,herr] at HC1
  clear hx hE hr1 hl hb1 hout herr ok1 hids
  go_enter Tryz.func8,Tryz.ntmps8
  go_wp2_with (first
   | ((with_reducible apply Kal);exact HBX1.out.get hxs;exact rfl)
   | ((with_reducible apply Kdh);exact HBX1.out.get hxs;exact rfl;exact rfl)
   | (go_at_call 9
      go_loud (
       refine (HZ1.out _ HCUR.out).mono ?_
       rintro e W1 ⟨s,rfl,hs,hb1⟩
       skip
       replace HCUR:=yh (Kaa HCUR.out hb1)
       try replace HBX1:=yh (HBX1.out.below hb1)
       try replace HBX2:=yh (HBX2.out.below hb1)
       try replace HBX3:=yh (HBX3.out.below hb1)
       try replace HD1:=yh (HD1.out.below hb1)
       try replace HD5:=yh (HD5.out.below hb1)
       try replace HY1:=yh (HY1.out.below hb1)
       try replace HY2:=yh (HY2.out.below hb1)
       try replace HL:=yh (HL.out.below (fun h=>h.below hb1) hb1)
       try replace HM:=yh (HM.out.below (fun h=>h.below hb1) hb1)
       clear HZ1 hs hb1
       cases s))
   | (go_at_call 26
      go_loud (
       refine (HZ2.out _ HCUR.out).mono ?_
       rintro e W2 ⟨s2,rfl,hs2,hb2⟩
       skip
       replace HCUR:=yh (Kaa HCUR.out hb2)
       try replace HBX1:=yh (HBX1.out.below hb2)
       try replace HBX2:=yh (HBX2.out.below hb2)
       try replace HBX3:=yh (HBX3.out.below hb2)
       try replace HD1:=yh (HD1.out.below hb2)
       try replace HD5:=yh (HD5.out.below hb2)
       try replace HY1:=yh (HY1.out.below hb2)
       try replace HY2:=yh (HY2.out.below hb2)
       try replace HL:=yh (HL.out.below (fun h=>h.below hb2) hb2)
       try replace HM:=yh (HM.out.below (fun h=>h.below hb2) hb2)
       clear HZ2 hs2 hb2
       cases s2))
   | (go_at_call 10
      go_loud (
       refine (worksG_any (HE.out.b HCUR.out)).mono ?_
       rintro e W13 ⟨rfl,hb13⟩
       replace HCUR:=yh (Kaa HCUR.out hb13)
       clear hb13))
   | (go_at_call 27
      go_loud (
       refine (HC1.out _ HCUR.out).mono ?_
       rintro e W3 ho
       obtain ⟨p1,c1,rfl,hd1,hb1⟩:=ho.rd
       replace HCUR:=yh (Kaa HCUR.out hb1)
       try replace HBX1:=yh (HBX1.out.below hb1)
       try replace HBX2:=yh (HBX2.out.below hb1)
       try replace HBX3:=yh (HBX3.out.below hb1)
       try replace HD1:=yh (HD1.out.below hb1)
       try replace HD5:=yh (HD5.out.below hb1)
       try replace HY1:=yh (HY1.out.below hb1)
       try replace HY2:=yh (HY2.out.below hb1)
       try replace HL:=yh (HL.out.below (fun h=>h.below hb1) hb1)
       try replace HM:=yh (HM.out.below (fun h=>h.below hb1) hb1)
       have HD1:=yh hd1
       clear HC1 ho hd1 hb1))
   | (go_at_call 12;refine (num_err _ _).mono ?_;rintro e w' ⟨rfl,rfl⟩))
  all_goals
   go_ret
   exact ⟨rfl,HCUR.out⟩
 have hout : outC l = Kbk l:=by unfold outC;rw [ok1,decide_eq_true (show l.length ≤ 65536 by omega)];rfl
 have herr : errC l = 0:=by unfold errC;rw [ok1,if_pos rfl,if_pos (show l.length ≤ 65536 by omega)]
 have hwl:=changesC_small hr1 ht2
 have hrd : readW Kee okCs (Kbk l) = some (l.map toldC):=read_told ok1 hr1 (by omega) (by omega)
 obtain ⟨hmt,hmr⟩:=readC_tot hrd
 obtain ⟨htc,hta⟩:=told_all l
 have hml : (l.map toldC).length = l.length:=List.length_map _
 have houtm : outC (l.map toldC) = Kbk l:=by unfold outC;rw [hta,ok1,hml,decide_eq_true (show l.length ≤ 65536 by omega),htc];rfl
 have herrm : errC (l.map toldC) = 0:=by unfold errC;rw [hta,ok1,if_pos rfl,hml,if_pos (show l.length ≤ 65536 by omega)]
 have hap:=applyD_told v l
 have htd:=applyD_tot v l
 have hss:=applyD_same v l
 generalize l.map toldC = m at *
 have hidm : ∀ c ∈ m,i64T c.node.id ∧ i64T c.rel.id:=fun c hc=>⟨(hmr c hc).2.2.2.1.1,(hmr c hc).2.2.2.2.1⟩
 have HR2:=yh (fun W (g : Below w.heap.size w W) (p : Option Addr) (c : Nat) (hd : RdB W (.slice p (Kbk l).length c) (Kbk l))=>readPub_C (hE.b g) hd (by omega))
 have HC2:=yh (fun W (g : Below w.heap.size w W) (z : Option Addr) (y : Nat) (hz : GRd CRd 11 W z y m)=>Kdz (hE.b g) hz hmr (by omega))
 have HA1:=yh (fun W (g : Below w.heap.size w W)=>apply_any (hE.b g) (hx.below g) (hl.below (fun h=>h.below g) g) hids (by omega))
 have HA2:=yh (fun W (g : Below w.heap.size w W) (z : Option Addr) (y : Nat) (hz : GRd CRd 11 W z y m)=>apply_any (hE.b g) (hx.below g) hz hidm (by omega))
 rw [hap] at HA2
 rw [hrd] at HR2
 rw [hout,herr] at HC1
 rw [houtm,herrm] at HC2
 have HT0 : Hid ((((some m : Option (List ChangeD)).getD []).map totC).sum ≤ 900000):=yh (by simp only [Option.getD_some];omega)
 have HTG : Hid (totG (Kcq v l).1 ≤ 900000):=yh (by omega)
 have HSM:=yh (fun W (g : Below w.heap.size w W) (a b : Array Value) (ha : GrRd W (Kcq v l).1 a) (hb : GrRd W (Kcq v l).1 b)=>sameG_any (hE.b g) ha hb (by omega) (by omega))
 rw [hss] at HSM
 have hmi : (l.length : Int) = (m.length : Int):=by omega
 generalize Kbk l = bs1 at *
 generalize (Kcq v l).2 = nd at *
 generalize (Kcq v l).1 = gd at *
 clear hx hE hr1 hl hb1 hout herr ok1 hids hwl hrd hmt hmr htc hta hml houtm herrm hap htd hss hidm hr0
 go_enter Tryz.func8,Tryz.ntmps8
 go_wp2_with (first
  | ((with_reducible apply Kal);exact HBX1.out.get hxs;exact rfl)
  | ((with_reducible apply Kdh);exact HBX1.out.get hxs;exact rfl;exact rfl)
  | ((with_reducible apply Kal);exact HBX2.out.get hz1;exact rfl)
  | ((with_reducible apply Kdh);exact HBX2.out.get hz1;exact rfl;exact rfl)
  | ((with_reducible apply Kal);exact HBX3.out.get hz2;exact rfl)
  | ((with_reducible apply Kdh);exact HBX3.out.get hz2;exact rfl;exact rfl)
  | (go_at_call 9
     go_loud (
      refine (HZ1.out _ HCUR.out).mono ?_
      rintro e W1 ⟨s,rfl,hs,hb1⟩
      skip
      replace HCUR:=yh (Kaa HCUR.out hb1)
      try replace HBX1:=yh (HBX1.out.below hb1)
      try replace HBX2:=yh (HBX2.out.below hb1)
      try replace HBX3:=yh (HBX3.out.below hb1)
      try replace HD1:=yh (HD1.out.below hb1)
      try replace HD5:=yh (HD5.out.below hb1)
      try replace HY1:=yh (HY1.out.below hb1)
      try replace HY2:=yh (HY2.out.below hb1)
      try replace HL:=yh (HL.out.below (fun h=>h.below hb1) hb1)
      try replace HM:=yh (HM.out.below (fun h=>h.below hb1) hb1)
      clear HZ1 hs hb1
      cases s))
  | (go_at_call 26
     go_loud (
      refine (HZ2.out _ HCUR.out).mono ?_
      rintro e W2 ⟨s2,rfl,hs2,hb2⟩
      skip
      replace HCUR:=yh (Kaa HCUR.out hb2)
      try replace HBX1:=yh (HBX1.out.below hb2)
      try replace HBX2:=yh (HBX2.out.below hb2)
      try replace HBX3:=yh (HBX3.out.below hb2)
      try replace HD1:=yh (HD1.out.below hb2)
      try replace HD5:=yh (HD5.out.below hb2)
      try replace HY1:=yh (HY1.out.below hb2)
      try replace HY2:=yh (HY2.out.below hb2)
      try replace HL:=yh (HL.out.below (fun h=>h.below hb2) hb2)
      try replace HM:=yh (HM.out.below (fun h=>h.below hb2) hb2)
      clear HZ2 hs2 hb2
      cases s2))
  | (go_at_call 10
     go_loud (
      refine (worksG_any (HE.out.b HCUR.out)).mono ?_
      rintro e W13 ⟨rfl,hb13⟩
      replace HCUR:=yh (Kaa HCUR.out hb13)
      clear hb13))
  | (go_at_call 27
     go_loud (
      refine (HC1.out _ HCUR.out).mono ?_
      rintro e W3 ho
      obtain ⟨p1,c1,rfl,hd1,hb1⟩:=ho.rd
      replace HCUR:=yh (Kaa HCUR.out hb1)
      try replace HBX1:=yh (HBX1.out.below hb1)
      try replace HBX2:=yh (HBX2.out.below hb1)
      try replace HBX3:=yh (HBX3.out.below hb1)
      try replace HD1:=yh (HD1.out.below hb1)
      try replace HD5:=yh (HD5.out.below hb1)
      try replace HY1:=yh (HY1.out.below hb1)
      try replace HY2:=yh (HY2.out.below hb1)
      try replace HL:=yh (HL.out.below (fun h=>h.below hb1) hb1)
      try replace HM:=yh (HM.out.below (fun h=>h.below hb1) hb1)
      have HD1:=yh hd1
      clear HC1 ho hd1 hb1))
  | (go_at_call 12;refine (num_err _ _).mono ?_;rintro e w' ⟨rfl,rfl⟩)
  | (go_at_call 30
     go_loud (
      refine (HR2.out _ HCUR.out _ _ HD1.out).mono ?_
      rintro e W4 hg
      obtain ⟨pg,cg,rfl,hxg,hb4⟩:=hg.rd HT0.out
      replace HCUR:=yh (Kaa HCUR.out hb4)
      try replace HBX1:=yh (HBX1.out.below hb4)
      try replace HBX2:=yh (HBX2.out.below hb4)
      try replace HBX3:=yh (HBX3.out.below hb4)
      try replace HD1:=yh (HD1.out.below hb4)
      try replace HD5:=yh (HD5.out.below hb4)
      try replace HY1:=yh (HY1.out.below hb4)
      try replace HY2:=yh (HY2.out.below hb4)
      try replace HL:=yh (HL.out.below (fun h=>h.below hb4) hb4)
      try replace HM:=yh (HM.out.below (fun h=>h.below hb4) hb4)
      have HM:=yh hxg
      clear HR2 hg hxg hb4))
  | (go_at_call 27
     go_loud (
      refine (HC2.out _ HCUR.out _ _ HM.out).mono ?_
      rintro e W5 ho
      obtain ⟨p5,c5,rfl,hd5,hb5⟩:=ho.rd
      replace HCUR:=yh (Kaa HCUR.out hb5)
      try replace HBX1:=yh (HBX1.out.below hb5)
      try replace HBX2:=yh (HBX2.out.below hb5)
      try replace HBX3:=yh (HBX3.out.below hb5)
      try replace HD1:=yh (HD1.out.below hb5)
      try replace HD5:=yh (HD5.out.below hb5)
      try replace HY1:=yh (HY1.out.below hb5)
      try replace HY2:=yh (HY2.out.below hb5)
      try replace HL:=yh (HL.out.below (fun h=>h.below hb5) hb5)
      try replace HM:=yh (HM.out.below (fun h=>h.below hb5) hb5)
      have HD5:=yh hd5
      clear HC2 ho hd5 hb5))
  | (go_at_call 35
     go_loud (
      refine (HA1.out _ HCUR.out).mono ?_
      rintro e W6 ⟨y1,rfl,hy,hb⟩
      replace HCUR:=yh (Kaa HCUR.out hb)
      try replace HBX1:=yh (HBX1.out.below hb)
      try replace HBX2:=yh (HBX2.out.below hb)
      try replace HBX3:=yh (HBX3.out.below hb)
      try replace HD1:=yh (HD1.out.below hb)
      try replace HD5:=yh (HD5.out.below hb)
      try replace HY1:=yh (HY1.out.below hb)
      try replace HY2:=yh (HY2.out.below hb)
      try replace HL:=yh (HL.out.below (fun h=>h.below hb) hb)
      try replace HM:=yh (HM.out.below (fun h=>h.below hb) hb)
      have HS1:=yh (Kay.fresh (P:=Tryz.prog) (W:=W6) (Kd2 hy) (gr_ones hy))
      have hz1:=Kd2 hy
      have HY1:=yh (gr_rd hy HTG.out)
      clear HA1 hy hb))
  | (go_at_call 35
     go_loud (
      refine (HA2.out _ HCUR.out _ _ HM.out).mono ?_
      rintro e W7 ⟨y2,rfl,hy,hb⟩
      replace HCUR:=yh (Kaa HCUR.out hb)
      try replace HBX1:=yh (HBX1.out.below hb)
      try replace HBX2:=yh (HBX2.out.below hb)
      try replace HBX3:=yh (HBX3.out.below hb)
      try replace HD1:=yh (HD1.out.below hb)
      try replace HD5:=yh (HD5.out.below hb)
      try replace HY1:=yh (HY1.out.below hb)
      try replace HY2:=yh (HY2.out.below hb)
      try replace HL:=yh (HL.out.below (fun h=>h.below hb) hb)
      try replace HM:=yh (HM.out.below (fun h=>h.below hb) hb)
      have HS2:=yh (Kay.fresh (P:=Tryz.prog) (W:=W7) (Kd2 hy) (gr_ones hy))
      have hz2:=Kd2 hy
      have HY2:=yh (gr_rd hy HTG.out)
      clear HA2 hy hb))
  | ((with_reducible apply Kae);exact HS1.out _ rfl;exact rfl;exact rfl
     go_loud (
      have hbn:=Kac (w:=W6) (.cells y1 25)
      have HBX2:=yh (show Lies W6.heap.size 25 y1 (W6.alloc (.cells y1 25)) from heap_alloc_new W6 _)
      replace HCUR:=yh (Kaa HCUR.out hbn)
      try replace HBX1:=yh (HBX1.out.below hbn)
      try replace HBX3:=yh (HBX3.out.below hbn)
      try replace HD1:=yh (HD1.out.below hbn)
      try replace HD5:=yh (HD5.out.below hbn)
      try replace HY1:=yh (HY1.out.below hbn)
      try replace HY2:=yh (HY2.out.below hbn)
      try replace HL:=yh (HL.out.below (fun h=>h.below hbn) hbn)
      try replace HM:=yh (HM.out.below (fun h=>h.below hbn) hbn)
      clear hbn HS1
      generalize W6.alloc (.cells y1 25) = W6n at *
      generalize W6.heap.size = B6 at *))
  | ((with_reducible apply Kae);exact HS2.out _ rfl;exact rfl;exact rfl
     go_loud (
      have hbn:=Kac (w:=W7) (.cells y2 25)
      have HBX3:=yh (show Lies W7.heap.size 25 y2 (W7.alloc (.cells y2 25)) from heap_alloc_new W7 _)
      replace HCUR:=yh (Kaa HCUR.out hbn)
      try replace HBX1:=yh (HBX1.out.below hbn)
      try replace HBX2:=yh (HBX2.out.below hbn)
      try replace HD1:=yh (HD1.out.below hbn)
      try replace HD5:=yh (HD5.out.below hbn)
      try replace HY1:=yh (HY1.out.below hbn)
      try replace HY2:=yh (HY2.out.below hbn)
      try replace HL:=yh (HL.out.below (fun h=>h.below hbn) hbn)
      try replace HM:=yh (HM.out.below (fun h=>h.below hbn) hbn)
      clear hbn HS2
      generalize W7.alloc (.cells y2 25) = W7n at *
      generalize W7.heap.size = B7 at *))
  | (go_at_call 14
     go_loud (
      refine (bytes_any HD1.out HD5.out).mono ?_
      rintro e w' ⟨rfl,rfl⟩
      have heq1 : decide (bs1 = bs1) = true:=decide_eq_true rfl
      clear HD5))
  | (go_at_call 33
     go_loud (
      refine (HSM.out _ HCUR.out _ _ HY1.out HY2.out).mono ?_
      rintro e W9 ⟨rfl,hb9⟩
      replace HCUR:=yh (Kaa HCUR.out hb9)
      clear HSM hb9)))
 all_goals
  go_ret
  exact ⟨rfl,HCUR.out⟩
end Go.Proofs.YthdfedfholmbmaaGreatDoor
namespace Go.Proofs.YthdfedfholmbmaaGreatDoor
open Go.ChangeShapes Go.WideShapes Go.ChangeAt Go.RowKit Go.Joins
theorem codecDone_lifted (os : Os) (started : os.Started) (H : Type) (enc : TypeId × Value → H) :
 ReturnsInHanded {} Tryz.checked os 8 .any (fun w args=>(Rows.codecDoneSpec.pre enc Tryz.prog Tryz.f8 [] false w args ∧ laidMetH Tryz.prog LD w) ∧ sizedMet enc Tryz.prog Tryz.f8 (OpenSpec.ofChange Rows.codecDoneSpec) false w args)
  (Rows.codecDoneSpec.post enc Tryz.prog Tryz.f8 false true false false):=by
 refine returns_tied started (by kernel_rfl) Tryz.func8 #[.agg #[.slice none 0 0,.slice none 0 0,.int .i64 0,.int .i64 0],.slice none 0 0] (by kernel_rfl) (by kernel_rfl) (by kernel_rfl) (wit_shape _ _) (wit_laid _ _) ?_
 intro W base args ds gs before hval0 hW hz hE
 have hval : ∀ (j : Nat) t v,Tryz.f8.params[j]? = some t → args[j]? = some v → Value.okWide Tryz.prog W .any base t v:=hval0
 have hW':=hW
 obtain ⟨p,q,hA0,hV,rfl,hfz,hnd⟩:=hW
 have hA : DataW.TrodAll enc Tryz.prog W 0 (fun _=>true) true Tryz.f8.params.toList args.toList ds p:=hA0
 rw [Tryz.params8] at hA hval
 obtain ⟨v0,vs0,d0,ds0,p0,q0,hargs,rfl,rfl,h0,r0⟩:=trodAll_cons hA
 obtain ⟨v1,vs1,d1,ds1,p1,q1,rfl,rfl,rfl,h1,r1⟩:=trodAll_cons r0
 obtain ⟨rfl,rfl,rfl⟩:=trodAll_nil r1
 obtain ⟨rfl,rfl⟩:=trodVars_none hV
 obtain rfl : args = #[v0,v1]:=by cases args;simp_all
 rw [Tryz.params8] at hz
 obtain ⟨z0,z1⟩:=fits_two hz
 obtain ⟨a0,x0,rfl,hx0,hr0⟩:=graph_in (hval 0 25 v0 rfl rfl) h0 z0
 obtain ⟨b1,c1,l1,rfl,hx1,hr1⟩:=changes_in (hval 1 58 v1 rfl rfl) h1 z1
 clear hA0 hval0
 refine (cdone_any hE hx0 hr0 hx1 hr1).mono fun e W' ⟨he,hg⟩=>?_
 subst he
 exact ⟨_,rfl,law_post laidT (by decide +kernel) Tryz.underlying4 (by kernel_rfl) rfl hW' rfl hg⟩
theorem codecDone_row : Rows.CodecDoneSaid :=
 OpenClaim.holds_of_wide 8 Tryz.f8 rfl rfl rfl rfl rfl rfl rfl ⟨rfl,rfl,rfl,rfl,rfl⟩ rfl rfl rfl rfl rfl (by kernel_rfl) Tryz.func8 (by kernel_rfl)
  (of_decide_eq_true (by kernel_rfl)) (by unfold Func.isWrapper;first | (rw [if_pos (by decide +kernel)];kernel_rfl) | (rw [if_neg (by decide +kernel)];exact ⟨rfl,rfl⟩))
  (fun os started H enc _=>codecDone_lifted os started H enc)
theorem cdone_law_holds : Rows.CodecDoneCardSaid :=
 Claim7.holds_tied_plain_at .later [] [.data, .pinned] true (true, "51d6d183f3b9b26ed98afca7791da6a3b37e43a2ee8010f5d16b56af07fe616a") true
  codecDone_row (fun _ h=>by cases h) (by kernel_rfl) (fun _ h=>by cases h) codecDone_row_tie rfl ⟨rfl,rfl⟩ (by kernel_rfl) rfl
  (fun f fn hf hfn=>by
    obtain rfl : f = 8 := Option.some.inj ((show Tryz.prog.funcNamed "lattice/latticelaw19.CodecDone" = some 8 by kernel_rfl).symm.trans hf) |>.symm
    obtain rfl : fn = Tryz.f8:=(Option.some.inj (Tryz.func8.symm.trans hfn)).symm
    exact ⟨by kernel_rfl,fun j t ht=>by
     rw [Tryz.params8] at ht
     have hm : t ∈ [25,58]:=by simpa using Array.mem_of_getElem? ht
     have hall : ([25,58].all fun u=>!Tryz.prog.wantsStandIn u) = true:=by kernel_rfl
     exact (show Tryz.prog.wantsStandIn t = false by simpa using List.all_eq_true.1 hall t hm)⟩)
  (by kernel_rfl)
#print axioms cdone_law_holds
end Go.Proofs.YthdfedfholmbmaaGreatDoor
