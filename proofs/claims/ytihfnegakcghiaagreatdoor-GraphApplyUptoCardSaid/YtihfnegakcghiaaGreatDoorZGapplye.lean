/- Texts that the proof shares (each declaration is a lemma of this layer). -/
import Derived.Test.YtihfnegakcghiaaGreatDoorZGapplyb
import Derived.Test.YtihfnegakcghiaaGreatDoorZGapplyc
import Derived.Test.YtihfnegakcghiaaGreatDoorZGapplyd
set_option linter.unusedSimpArgs false
set_option linter.unusedVariables false
set_option linter.unnecessarySimpa false
set_option maxRecDepth 100000
set_option maxHeartbeats 64000000
namespace Go.Proofs.YtihfnegakcghiaaGreatDoor
open Go.RowKit
theorem fa_gr (i : Nat) (h : i < 4) (b : Nat) (W : World) : (Instr.fieldAt 25 (.pointer (some ⟨b,0,none⟩)) i).run Tryz.prog W = .ok (.pointer (some ⟨b,i,none⟩)) W:=by
 match i,h with
 | 0,_=>simp [go_sem]
 | 1,_=>simp [go_sem]
 | 2,_=>simp [go_sem]
 | 3,_=>simp [go_sem]
theorem fa_nd (i : Nat) (h : i < 3) (b : Nat) (W : World) : (Instr.fieldAt 45 (.pointer (some ⟨b,0,none⟩)) i).run Tryz.prog W = .ok (.pointer (some ⟨b,i,none⟩)) W:=by
 match i,h with
 | 0,_=>simp [go_sem]
 | 1,_=>simp [go_sem]
 | 2,_=>simp [go_sem]
theorem fa_rl (i : Nat) (h : i < 5) (b : Nat) (W : World) : (Instr.fieldAt 49 (.pointer (some ⟨b,0,none⟩)) i).run Tryz.prog W = .ok (.pointer (some ⟨b,i,none⟩)) W:=by
 match i,h with
 | 0,_=>simp [go_sem]
 | 1,_=>simp [go_sem]
 | 2,_=>simp [go_sem]
 | 3,_=>simp [go_sem]
 | 4,_=>simp [go_sem]
theorem fa_ndO (b o : Nat) (W : World) : (Instr.fieldAt 45 (.pointer (some ⟨b,o,none⟩)) 0).run Tryz.prog W = .ok (.pointer (some ⟨b,o,none⟩)) W:=by simp [go_sem]
theorem fa_rlO (b o : Nat) (W : World) : (Instr.fieldAt 49 (.pointer (some ⟨b,o,none⟩)) 0).run Tryz.prog W = .ok (.pointer (some ⟨b,o,none⟩)) W:=by simp [go_sem]
theorem lss_i (n m : Int) (W : World) : (binOp .lss 2 (.int .i64 n) (.int .i64 m)).run Tryz.prog W = .ok (.bool (decide (n < m))) W:=by simp [go_sem]
theorem geq_i (n m : Int) (W : World) : (binOp .geq 2 (.int .i64 n) (.int .i64 m)).run Tryz.prog W = .ok (.bool (decide (m ≤ n))) W:=by simp [go_sem]
theorem lss_0 (n : Int) (W : World) : (binOp .lss 3 (.int .i64 n) (.int .i64 0)).run Tryz.prog W = .ok (.bool (decide (n < 0))) W:=by simp [go_sem]
def okNsP (g : GraphD) (j : Nat) : Bool:=((g.nodes.take j).all fun n=>okN n && decide (n.id < g.nextNode)) && Kbc ((g.nodes.take j).map NodeD.id)
def okRsP (g : GraphD) (j : Nat) : Bool:=((g.rels.take j).all fun r=>okR r && decide (r.id < g.nextRel) && hasN g r.src && hasN g r.dst) && Kbc ((g.rels.take j).map RelD.id)
theorem risesI_cut : ∀ (l m : List Int),Kbc (l ++ m) = true → Kbc l = true
 | [],m,_=>rfl
 | [a],m,_=>rfl
 | a :: b :: l,m,h=>by
   simp only [List.cons_append,Kbc,Bool.and_eq_true] at h ⊢
   exact ⟨h.1,risesI_cut (b :: l) m h.2⟩
theorem risesI_snoc : ∀ {l : List Int} {x : Int},Kbc (l ++ [x]) = (Kbc l && !(match l.getLast? with | some y=>decide (x ≤ y) | none=>false))
 | [],x=>rfl
 | [a],x=>by
   simp only [List.cons_append,List.nil_append,Kbc,List.getLast?_singleton,Bool.true_and,Bool.and_true]
   rw [Bool.eq_iff_iff];simp
 | a :: b :: l,x=>by
   have ih:=risesI_snoc (l:=b :: l) (x:=x)
   simp only [List.cons_append] at ih
   simp only [List.cons_append,Kbc,ih,List.getLast?_cons_cons,Bool.and_assoc]
theorem getLast_take {l : List Int} {j : Nat} (h0 : 0 < j) (hj : j ≤ l.length) : (l.take j).getLast? = some (l[j - 1]'(by omega)):=by
 rw [List.getLast?_eq_getElem?,List.length_take,List.getElem?_take]
 have e : min j l.length - 1 = j - 1:=by omega
 rw [e,if_pos (by omega),List.getElem?_eq_getElem (by omega)]
theorem okNsP_step {g : GraphD} {j : Nat} (hj : j < g.nodes.length) (b4 : Bool) (h4 : 0 < j → b4 = decide (g.nodes[j].id ≤ (g.nodes[j - 1]'(by omega)).id)) :
 okNsP g (j + 1) = (okNsP g j && (!(decide (g.nodes[j].id < 0)) && !(decide (g.nextNode ≤ g.nodes[j].id)) && !(decide (0 < j) && b4) && Kda g.nodes[j].labels && okPs g.nodes[j].props)):=by
 unfold okNsP
 rw [List.take_succ_eq_append_getElem hj,List.all_append,List.map_append,List.map_cons,List.map_nil,risesI_snoc]
 have hl : (match ((g.nodes.take j).map NodeD.id).getLast? with | some y=>decide (g.nodes[j].id ≤ y) | none=>false) = (decide (0 < j) && b4):=by
  by_cases h0 : 0 < j
  ·rw [List.map_take,getLast_take h0 (by simp;omega),h4 h0]
   simp [h0]
  ·have : j = 0:=by omega
   subst this
   rfl
 rw [hl]
 have hn : ∀ n : NodeD,okN n = (!(decide (n.id < 0)) && Kda n.labels && okPs n.props):=fun n=>by
  unfold okN Kda
  have : decide (0 ≤ n.id) = !(decide (n.id < 0)):=by rw [Bool.eq_iff_iff];simp
  rw [this]
  cases decide (n.id < 0) <;> cases Kav n.labels <;> cases n.labels.all okNm <;> cases okPs n.props <;> rfl
 simp only [List.all_cons,List.all_nil,Bool.and_true,hn]
 have hlt : decide (g.nodes[j].id < g.nextNode) = !(decide (g.nextNode ≤ g.nodes[j].id)):=by rw [Bool.eq_iff_iff];simp
 rw [hlt]
 generalize (g.nodes.take j).all _ = a1
 generalize Kbc _ = a2
 generalize (decide (0 < j) && b4) = a3
 generalize decide (g.nodes[j].id < 0) = a4
 generalize decide (g.nextNode ≤ g.nodes[j].id) = a5
 generalize Kda g.nodes[j].labels = a6
 generalize okPs g.nodes[j].props = a7
 cases a1 <;> cases a2 <;> cases a3 <;> cases a4 <;> cases a5 <;> cases a6 <;> cases a7 <;> rfl
theorem okRsP_step {g : GraphD} {j : Nat} (hj : j < g.rels.length) (b4 : Bool) (h4 : 0 < j → b4 = decide (g.rels[j].id ≤ (g.rels[j - 1]'(by omega)).id)) :
 okRsP g (j + 1) = (okRsP g j && (!(decide (g.rels[j].id < 0)) && !(decide (g.nextRel ≤ g.rels[j].id)) && !(decide (0 < j) && b4) && okNm g.rels[j].type && okPs g.rels[j].props && hasN g g.rels[j].src && hasN g g.rels[j].dst)):=by
 unfold okRsP
 rw [List.take_succ_eq_append_getElem hj,List.all_append,List.map_append,List.map_cons,List.map_nil,risesI_snoc]
 have hl : (match ((g.rels.take j).map RelD.id).getLast? with | some y=>decide (g.rels[j].id ≤ y) | none=>false) = (decide (0 < j) && b4):=by
  by_cases h0 : 0 < j
  ·rw [List.map_take,getLast_take h0 (by simp;omega),h4 h0]
   simp [h0]
  ·have : j = 0:=by omega
   subst this
   rfl
 rw [hl]
 have hn : ∀ n : RelD,okR n = (!(decide (n.id < 0)) && okNm n.type && okPs n.props):=fun n=>by
  unfold okR
  have : decide (0 ≤ n.id) = !(decide (n.id < 0)):=by rw [Bool.eq_iff_iff];simp
  rw [this]
 simp only [List.all_cons,List.all_nil,Bool.and_true,hn]
 have hlt : decide (g.rels[j].id < g.nextRel) = !(decide (g.nextRel ≤ g.rels[j].id)):=by rw [Bool.eq_iff_iff];simp
 rw [hlt]
 generalize (g.rels.take j).all _ = a1
 generalize Kbc _ = a2
 generalize (decide (0 < j) && b4) = a3
 generalize decide (g.rels[j].id < 0) = a4
 generalize decide (g.nextRel ≤ g.rels[j].id) = a5
 generalize okNm g.rels[j].type = a6
 generalize okPs g.rels[j].props = a7
 generalize hasN g g.rels[j].src = a8
 generalize hasN g g.rels[j].dst = a9
 cases a1 <;> cases a2 <;> cases a3 <;> cases a4 <;> cases a5 <;> cases a6 <;> cases a7 <;> cases a8 <;> cases a9 <;> rfl
theorem okNsP_no {g : GraphD} {j : Nat} (h : okNsP g j = false) : okG g = false:=by
 cases hg : okG g with
 | false=>rfl
 | true =>
   obtain ⟨_,k6,k7,_,_⟩:=(okG_iff g).1 hg
   have : okNsP g j = true:=by
    unfold okNsP
    rw [Bool.and_eq_true,List.all_eq_true]
    refine ⟨fun n hn=>by have:=k6 n (List.mem_of_mem_take hn);simp [this.1,this.2],?_⟩
    have e : g.nodes.map NodeD.id = (g.nodes.take j).map NodeD.id ++ (g.nodes.drop j).map NodeD.id:=by rw [← List.map_append,List.take_append_drop]
    rw [e] at k7
    exact risesI_cut _ _ k7
   rw [this] at h;cases h
theorem okRsP_no {g : GraphD} {j : Nat} (h : okRsP g j = false) : okG g = false:=by
 cases hg : okG g with
 | false=>rfl
 | true =>
   obtain ⟨_,_,_,k8,k9⟩:=(okG_iff g).1 hg
   have : okRsP g j = true:=by
    unfold okRsP
    rw [Bool.and_eq_true,List.all_eq_true]
    refine ⟨fun n hn=>by obtain ⟨a,b,c,d⟩:=k8 n (List.mem_of_mem_take hn);simp [a,b,c,d],?_⟩
    have e : g.rels.map RelD.id = (g.rels.take j).map RelD.id ++ (g.rels.drop j).map RelD.id:=by rw [← List.map_append,List.take_append_drop]
    rw [e] at k9
    exact risesI_cut _ _ k9
   rw [this] at h;cases h
theorem okG_all {g : GraphD} (h1 : okSz g = true) (h2 : okNsP g g.nodes.length = true) (h3 : okRsP g g.rels.length = true) : okG g = true:=by
 unfold okNsP at h2
 unfold okRsP at h3
 rw [List.take_length] at h2 h3
 unfold okG okNs okRs
 rw [h1,h2,h3]
 rfl
theorem okSz_no {g : GraphD} (h : okSz g = false) : okG g = false:=by unfold okG;rw [h];rfl
def GTot (g : GraphD) : Prop:=(∀ n ∈ g.nodes,∀ x ∈ n.props,totV x.val ≤ 1099511627776) ∧ ∀ r ∈ g.rels,∀ x ∈ r.props,totV x.val ≤ 1099511627776
theorem hasN_find (g : GraphD) (i : Int) : decide (findAt (g.nodes.map NodeD.id) i < 0) = !(hasN g i):=by
 rw [findAt_neg,hasN_ids]
theorem refcheck_any {w : World} {g : GraphD} {x : Array Value} (h : GrRd w g x) (ht : GTot g) : Calls Tryz.prog 11 #[.agg x] w fun e w'=>e = .returned (.bool (okG g)) ∧ Below w.heap.size w w':=by
 have hxs:=h
 obtain ⟨pn,cn,pr,cr,rfl,hn,hr⟩:=h
 have hb1:=Kai (w:=w) (.cells #[.slice pn g.nodes.length cn,.slice pr g.rels.length cr,.int .i64 g.nextNode,.int .i64 g.nextRel] 25)
 have hx1:=heap_alloc_new w (.cells #[.slice pn g.nodes.length cn,.slice pr g.rels.length cr,.int .i64 g.nextNode,.int .i64 g.nextRel] 25)
 have p0 : (w.alloc (.cells #[.slice pn g.nodes.length cn,.slice pr g.rels.length cr,.int .i64 g.nextNode,.int .i64 g.nextRel] 25)).cell? ⟨w.heap.size,0,none⟩ = some (.slice pn g.nodes.length cn):=Kah (o:=0) hx1 rfl
 have p1 : (w.alloc (.cells #[.slice pn g.nodes.length cn,.slice pr g.rels.length cr,.int .i64 g.nextNode,.int .i64 g.nextRel] 25)).cell? ⟨w.heap.size,1,none⟩ = some (.slice pr g.rels.length cr):=Kah (o:=1) hx1 rfl
 have p2 : (w.alloc (.cells #[.slice pn g.nodes.length cn,.slice pr g.rels.length cr,.int .i64 g.nextNode,.int .i64 g.nextRel] 25)).cell? ⟨w.heap.size,2,none⟩ = some (.int .i64 g.nextNode):=Kah (o:=2) hx1 rfl
 have p3 : (w.alloc (.cells #[.slice pn g.nodes.length cn,.slice pr g.rels.length cr,.int .i64 g.nextNode,.int .i64 g.nextRel] 25)).cell? ⟨w.heap.size,3,none⟩ = some (.int .i64 g.nextRel):=Kah (o:=3) hx1 rfl
 have hn1:=hn.below (fun h=>h.below hb1) hb1
 have hr1:=hr.below (fun h=>h.below hb1) hb1
 have z1 : (g.nodes.length : Int) ≤ 140737488355328:=by have:=hn.1.2.1;omega
 have z2 : (g.rels.length : Int) ≤ 140737488355328:=by have:=hr.1.2.1;omega
 have z3 : g.nodes.length ≤ 140737488355328 ∧ g.rels.length ≤ 140737488355328:=by omega
 have HX:=yh (And.intro hn1 (And.intro ht (And.intro hb1 (And.intro hr1 (And.intro p0 (And.intro p1 (And.intro p2 (And.intro p3 z3))))))))
 have HG:=yh (And.intro hx1 (And.intro (hxs.below hb1) (show (#[.slice pn g.nodes.length cn,.slice pr g.rels.length cr,.int .i64 g.nextNode,.int .i64 g.nextRel] : Array Value).size = 4 from rfl)))
 have hsz : okSz g = (decide (g.nodes.length + g.rels.length ≤ 65536) && decide (0 ≤ g.nextNode) && decide (g.nextNode ≤ 4611686018427387904) && decide (0 ≤ g.nextRel) && decide (g.nextRel ≤ 4611686018427387904)):=rfl
 have hw1 : IntKind.i64.wrap ((g.nodes.length : Int) + (g.rels.length : Int)) = (g.nodes.length : Int) + (g.rels.length : Int):=by rw [IntKind.wrap_i64];omega
 have HNO:=yh (okSz_no (g:=g))
 clear hn hr hb1 hx1 hn1 hr1 z3 hxs ht
 cases hok : okSz g with
 | false =>
   have HF:=yh (HNO.out hok)
   have q1 : (g.nodes.length : Int) + (g.rels.length : Int) ≤ 65536 → 0 ≤ g.nextNode → g.nextNode ≤ 4611686018427387904 → 0 ≤ g.nextRel → ¬ g.nextRel ≤ 4611686018427387904:=fun a b c d e=>by
    rw [hok] at hsz
    have a2 : g.nodes.length + g.rels.length ≤ 65536:=by omega
    simp [a2,b,c,d,e] at hsz
   have HQ:=yh q1
   clear q1 hok hsz HNO
   by_cases a1 : (g.nodes.length : Int) + (g.rels.length : Int) ≤ 65536
   ·by_cases a2 : 0 ≤ g.nextNode
    ·by_cases a3 : g.nextNode ≤ 4611686018427387904
     ·by_cases a4 : 0 ≤ g.nextRel
      ·have a5:=HQ.out a1 a2 a3 a4
       go_enter Tryz.func11,Tryz.ntmps11
       go_wp2
       go_ret
       exact ⟨Kam HF.out.symm,HX.out.2.2.1⟩
      ·go_enter Tryz.func11,Tryz.ntmps11
       go_wp2
       go_ret
       exact ⟨Kam HF.out.symm,HX.out.2.2.1⟩
     ·go_enter Tryz.func11,Tryz.ntmps11
      go_wp2
      go_ret
      exact ⟨Kam HF.out.symm,HX.out.2.2.1⟩
    ·go_enter Tryz.func11,Tryz.ntmps11
     go_wp2
     go_ret
     exact ⟨Kam HF.out.symm,HX.out.2.2.1⟩
   ·go_enter Tryz.func11,Tryz.ntmps11
    go_wp2
    go_ret
    exact ⟨Kam HF.out.symm,HX.out.2.2.1⟩
 | true =>
   have hpt:=hok
   rw [hsz] at hpt
   simp only [Bool.and_eq_true,decide_eq_true_eq] at hpt
   obtain ⟨⟨⟨⟨a1,a2⟩,a3⟩,a4⟩,a5⟩:=hpt
   have a1' : (g.nodes.length : Int) + (g.rels.length : Int) ≤ 65536:=by omega
   have HSZ:=yh hok
   clear hsz hok a1 HNO
   go_enter Tryz.func11,Tryz.ntmps11
   go_wp2
   generalize hwA : w.alloc (.cells #[.slice pn g.nodes.length cn,.slice pr g.rels.length cr,.int .i64 g.nextNode,.int .i64 g.nextRel] 25) = w1 at *
   clear hwA p0 p1 p2 p3 a1' a2 a3 a4 a5 hw1
   have hxg : ∃ xg : Array Value,xg = #[.slice pn g.nodes.length cn,.slice pr g.rels.length cr,.int .i64 g.nextNode,.int .i64 g.nextRel]:=⟨_,rfl⟩
   obtain ⟨xg,hxg⟩:=hxg
   rw [← hxg] at HG
   clear hxg
   have q0:=HX.out.2.2.2.2.1
   go_loopw [3] (fun i wr=>∃ j : Nat,j ≤ g.nodes.length ∧ i = .int .i64 (j : Int) ∧ Hid (okNsP g j = true ∧ Below w1.heap.size w1 wr)) (fun i _=>g.nodes.length - (intOf i).toNat)
   case atStart=>exact ⟨0,Nat.zero_le _,rfl,yh ⟨rfl,Below.refl _ _⟩⟩
   case round =>
    clear q0
    obtain ⟨j,hj,rfl,HJ⟩:=hrel
    by_cases hlt : j < g.nodes.length
    ·have hlt1:=Nat.succ_le_of_lt hlt
     have hbw : Below w1.heap.size w1 wr:=HJ.out.2
     obtain ⟨bk,ok,cs,rfl,hs,hc,hv⟩:=HX.out.1.get hlt
     have hvl:=hv
     have gw : wr.cell? ⟨w.heap.size,0,none⟩ = some (.slice (some ⟨bk,ok,none⟩) g.nodes.length cn):=Kag hbw (ltOf HX.out.2.2.2.2.1) HX.out.2.2.2.2.1 -- gw
     have hb9 : 0 < j → ∃ id0,w1.cell? ⟨bk,ok + (j - 1) * 3,none⟩ = some (.int .i64 id0) ∧ ∀ hh : j - 1 < g.nodes.length,g.nodes[j - 1].id = id0:=fun h0=>by
      obtain ⟨bk2,ok2,cs0,e2,hs0,hc0,hv0⟩:=HX.out.1.get (show j - 1 < g.nodes.length by omega)
      cases e2
      have hq0 : w1.cell? ⟨bk,ok + (j - 1) * 3,none⟩ = some (.int .i64 (g.nodes[j - 1]'(by omega)).id):=by
       obtain ⟨_,_,_,_,rfl,_⟩:=hv0
       exact hc0 0 _ rfl
      exact ⟨_,hq0,fun _=>rfl⟩
     obtain ⟨id0,hid0⟩ : ∃ id0,0 < j → w1.cell? ⟨bk,ok + (j - 1) * 3,none⟩ = some (.int .i64 id0) ∧ ∀ hh : j - 1 < g.nodes.length,g.nodes[j - 1].id = id0:=by
      by_cases h0 : 0 < j
      ·obtain ⟨a,b⟩:=hb9 h0;exact ⟨a,fun _=>b⟩
      ·exact ⟨0,fun h=>absurd h h0⟩
     have hst:=okNsP_step hlt (decide (g.nodes[j].id ≤ id0)) (fun h0=>by rw [(hid0 h0).2 (by omega)])
     have hno:=okNsP_no (g:=g) (j:=j + 1)
     have hok1:=HJ.out.1
     rw [hok1,Bool.true_and] at hst
     have htv:=HX.out.2.1.1 _ (List.getElem_mem hlt)
     obtain ⟨pl,cl,pp,cp,ecs,hls,hps⟩:=hv
     have hn1:=Kai (w:=wr) (.cells cs 45)
     have hx1:=heap_alloc_new wr (.cells cs 45)
     have HL1:=yh (StT.load (P:=Tryz.prog) (g:=bk) (o:=ok + j * 3) (W:=wr) Ka7 hs fun i u hu=>Kag hbw (ltOf (hc i u hu)) (hc i u hu))
     have HS1:=yh (StT.fresh Ka7 hs (Kbo.ones hvl) (W:=wr))
     have hbw1:=Kaa hbw hn1
     have c0 : (wr.alloc (.cells cs 45)).cell? ⟨wr.heap.size,0,none⟩ = some (.int .i64 g.nodes[j].id):=Kah (o:=0) hx1 (by rw [ecs];rfl)
     have c1 : (wr.alloc (.cells cs 45)).cell? ⟨wr.heap.size,1,none⟩ = some (.slice pl g.nodes[j].labels.length cl):=Kah (o:=1) hx1 (by rw [ecs];rfl)
     have c2 : (wr.alloc (.cells cs 45)).cell? ⟨wr.heap.size,2,none⟩ = some (.slice pp g.nodes[j].props.length cp):=Kah (o:=2) hx1 (by rw [ecs];rfl)
     have g0 : (wr.alloc (.cells cs 45)).cell? ⟨w.heap.size,0,none⟩ = some (.slice (some ⟨bk,ok,none⟩) g.nodes.length cn):=Kag hbw1 (ltOf HX.out.2.2.2.2.1) HX.out.2.2.2.2.1
     have g2 : (wr.alloc (.cells cs 45)).cell? ⟨w.heap.size,2,none⟩ = some (.int .i64 g.nextNode):=Kag hbw1 (ltOf HX.out.2.2.2.2.2.2.1) HX.out.2.2.2.2.2.2.1
     have c9 : 0 < j → (wr.alloc (.cells cs 45)).cell? ⟨bk,ok + (j - 1) * 3,none⟩ = some (.int .i64 id0):=fun h0=>Kag hbw1 (ltOf (hid0 h0).1) (hid0 h0).1
     have hri:=fun W (g : Below (wr.alloc (.cells cs 45)).heap.size (wr.alloc (.cells cs 45)) W)=>refrises_any (w:=W) ((hls.below hbw1).below g)
     have hpr:=fun W (g : Below (wr.alloc (.cells cs 45)).heap.size (wr.alloc (.cells cs 45)) W)=>refprops_any (w:=W) ((hps.below (fun h=>h.below hbw1) hbw1).below (fun h=>h.below g) g) htv
     have hi0 : 0 < j → ∀ W' : World,(Instr.indexAt 22 (.slice (some ⟨bk,ok,none⟩) g.nodes.length cn) (.int .i64 ((j - 1 : Nat) : Int))).run Tryz.prog W' = .ok (.pointer (some ⟨bk,ok + (j - 1) * 3,none⟩)) W':=fun h0 W'=>ia_node (by omega) W'
     have hsub : 0 < j → ∀ W : World,(binOp .sub 3 (.int .i64 (j : Int)) (.int .i64 1)).run Tryz.prog W = .ok (.int .i64 ((j - 1 : Nat) : Int)) W:=fun h0=>sub_nat h0 (by have:=HX.out.2.2.2.2.2.2.2.2;omega)
     have h1:=fun W=>lss_i g.nodes[j].id 0 W
     have h2:=fun W=>geq_i g.nodes[j].id g.nextNode W
     have h3:=gtr_nat (j:=j)
     have h4:=fun W=>geq_i id0 g.nodes[j].id W
     obtain ⟨b1,hb1⟩ : ∃ b,b = decide (g.nodes[j].id < 0):=⟨_,rfl⟩
     obtain ⟨b2,hb2⟩ : ∃ b,b = decide (g.nextNode ≤ g.nodes[j].id):=⟨_,rfl⟩
     obtain ⟨b3,hb3⟩ : ∃ b,b = decide (0 < j):=⟨_,rfl⟩
     obtain ⟨b4,hb4⟩ : ∃ b,b = decide (g.nodes[j].id ≤ id0):=⟨_,rfl⟩
     obtain ⟨b5,hb5⟩ : ∃ b,b = Kda g.nodes[j].labels:=⟨_,rfl⟩
     obtain ⟨b6,hb6⟩ : ∃ b,b = okPs g.nodes[j].props:=⟨_,rfl⟩
     simp only [← hb1,← hb2,← hb3,← hb4,← hb5,← hb6] at h1 h2 h3 h4 hri hpr hst
     have hst1 : (!b1 && !b2 && !(b3 && b4) && b5 && b6) = true → okNsP g (j + 1) = true:=fun h=>by rw [hst];exact h
     have hst2 : (!b1 && !b2 && !(b3 && b4) && b5 && b6) = false → okG g = false:=fun h=>hno (by rw [hst];exact h)
     have HALL:=yh (And.intro hst1 hst2)
     have hj0 : b3 = true → 0 < j:=fun e=>by rw [hb3] at e;simpa using e
     have hc9:=fun e=>c9 (hj0 e)
     have hhi0:=fun e=>hi0 (hj0 e)
     have hhsub:=fun e=>hsub (hj0 e)
     have HB1:=yh hbw1
     have hB0 : Below (wr.alloc (.cells cs 45)).heap.size (wr.alloc (.cells cs 45)) (wr.alloc (.cells cs 45)).drew:=(Below.refl _ _).drew
     generalize g.nodes[j].id = id at *
     generalize g.nodes[j].labels.length = nl at *
     generalize g.nodes[j].props.length = np at *
     have HY:=yh (And.intro c0 (And.intro c1 (And.intro c2 (And.intro g0 (And.intro g2 (And.intro hc9 (And.intro hri (And.intro hpr (And.intro hhi0 (And.intro hhsub (And.intro h1 (And.intro h2 (And.intro h3 (And.intro h4 hB0))))))))))))))
     clear c0 c1 c2 g0 g2 c9 hc9 hri hpr hi0 hsub hhi0 hhsub h1 h2 h3 h4 hB0 hst hst1 hst2 hno hok1 hb1 hb2 hb3 hb4 hb5 hb6 hj0 hb9 hid0 hbw hbw1 hn1 hx1 hs hc hvl hls hps ecs htv HJ
     go_wp2_with (first
      | ((with_reducible apply Kap);exact HL1.out;exact rfl;clear HL1)
      | ((with_reducible apply Kaq);exact HS1.out _ rfl;exact rfl;exact rfl;clear HS1))
     clear gw
     obtain ⟨c0,c1,c2,g0,g2,c9,hri,hpr,hi0,hsub,h1,h2,h3,h4,hB0⟩:=HY.out
     refine Kaf (fun W=>Below (wr.alloc (.cells cs 45)).heap.size (wr.alloc (.cells cs 45)) W) (by kernel_rfl) hB0 (fun hS=>?_)
     refine tk 0 47 (v:=.pointer (some ⟨wr.heap.size,0,none⟩)) rfl rfl (fun W hW=>Kac rfl rfl (fa_nd 0 (by omega) _ W)) ?_
     simp only [Act.put,sA,sZ,sS]
     refine tk 1 48 (v:=.int .i64 id) rfl rfl (fun W hW=>Kad rfl rfl (Kae (w:=W) Tryz.underlying2 rfl (Kag hW (ltOf c0) c0))) ?_
     simp only [Act.put,sA,sZ,sS]
     cases b1 with
     | true =>
       refine tk 2 49 (v:=.bool true) rfl rfl (fun W hW=>Kal rfl rfl rfl (h1 W)) ?_
       simp only [Act.put,sA,sZ,sS]
       refine tk 3 50 (v:=.bool true) rfl rfl (fun W hW=>Kab rfl rfl) ?_
       simp only [Act.put,sA,sZ,sS]
       refine tn 4 51 rfl rfl ?_
       simp only [Act.put,sA,sZ,sS]
       refine tn 5 52 rfl rfl ?_
       simp only [Act.put,sA,sZ,sS]
       refine tn 6 53 rfl rfl ?_
       simp only [Act.put,sA,sZ,sS]
       refine tn 7 54 rfl rfl ?_
       simp only [Act.put,sA,sZ,sS]
       refine tn 8 55 rfl rfl ?_
       simp only [Act.put,sA,sZ,sS]
       refine tk 9 56 (v:=.bool true) rfl rfl (fun W hW=>rfl) ?_
       simp only [Act.put,sA,sZ,sS]
       refine tk 10 57 (v:=.bool true) rfl rfl (fun W hW=>Kab rfl rfl) ?_
       simp only [Act.put,sA,sZ,sS]
       refine tn 11 58 rfl rfl ?_
       simp only [Act.put,sA,sZ,sS]
       refine tn 12 59 rfl rfl ?_
       simp only [Act.put,sA,sZ,sS]
       refine tn 13 60 rfl rfl ?_
       simp only [Act.put,sA,sZ,sS]
       refine tn 14 61 rfl rfl ?_
       simp only [Act.put,sA,sZ,sS]
       refine tn 15 62 rfl rfl ?_
       simp only [Act.put,sA,sZ,sS]
       refine tn 16 63 rfl rfl ?_
       simp only [Act.put,sA,sZ,sS]
       refine tn 17 64 rfl rfl ?_
       simp only [Act.put,sA,sZ,sS]
       refine tn 18 65 rfl rfl ?_
       simp only [Act.put,sA,sZ,sS]
       refine tn 19 66 rfl rfl ?_
       simp only [Act.put,sA,sZ,sS]
       refine tn 20 67 rfl rfl ?_
       simp only [Act.put,sA,sZ,sS]
       refine tn 21 68 rfl rfl ?_
       simp only [Act.put,sA,sZ,sS]
       refine tn 22 69 rfl rfl ?_
       simp only [Act.put,sA,sZ,sS]
       refine tn 23 70 rfl rfl ?_
       simp only [Act.put,sA,sZ,sS]
       refine tn 24 71 rfl rfl ?_
       simp only [Act.put,sA,sZ,sS]
       refine tk 25 72 (v:=.bool true) rfl rfl (fun W hW=>rfl) ?_
       simp only [Act.put,sA,sZ,sS]
       refine tk 26 73 (v:=.bool true) rfl rfl (fun W hW=>Kab rfl rfl) ?_
       simp only [Act.put,sA,sZ,sS]
       refine tn 27 74 rfl rfl ?_
       simp only [Act.put,sA,sZ,sS]
       refine tn 28 75 rfl rfl ?_
       simp only [Act.put,sA,sZ,sS]
       refine Kau 29 76 rfl rfl (by kernel_rfl) rfl ?_ (.inr (by assumption))
       simp only [Act.put,sA,sZ,sS]
       refine tn 30 77 rfl rfl ?_
       simp only [Act.put,sA,sZ,sS]
       refine tk 31 78 (v:=.bool true) rfl rfl (fun W hW=>rfl) ?_
       simp only [Act.put,sA,sZ,sS]
       refine tk 32 79 (v:=.bool true) rfl rfl (fun W hW=>Kab rfl rfl) ?_
       simp only [Act.put,sA,sZ,sS]
       refine tn 33 80 rfl rfl ?_
       simp only [Act.put,sA,sZ,sS]
       refine tn 34 81 rfl rfl ?_
       simp only [Act.put,sA,sZ,sS]
       refine Kau 35 82 rfl rfl (by kernel_rfl) rfl ?_ (.inr (by assumption))
       simp only [Act.put,sA,sZ,sS]
       refine tn 36 83 rfl rfl ?_
       simp only [Act.put,sA,sZ,sS]
       refine tk 37 84 (v:=.bool true) rfl rfl (fun W hW=>rfl) ?_
       simp only [Act.put,sA,sZ,sS]
       refine done (by kernel_rfl) ?_ _
       have HB:=yh (Kaa HB1.out hS)
       clear hS c0 c1 c2 g0 g2 c9 hri hpr hi0 hsub h1 h2 h3 h4 hB0 HY 
       go_wp2
       go_ret
       exact ⟨Kam (HALL.out.2 (by simp)).symm,Kaa HX.out.2.2.1 HB.out⟩
     | false =>
       refine tk 2 49 (v:=.bool false) rfl rfl (fun W hW=>Kal rfl rfl rfl (h1 W)) ?_
       simp only [Act.put,sA,sZ,sS]
       refine tk 3 50 (v:=.bool false) rfl rfl (fun W hW=>Kab rfl rfl) ?_
       simp only [Act.put,sA,sZ,sS]
       refine tk 4 51 (v:=.pointer (some ⟨wr.heap.size,0,none⟩)) rfl rfl (fun W hW=>Kac rfl rfl (fa_nd 0 (by omega) _ W)) ?_
       simp only [Act.put,sA,sZ,sS]
       refine tk 5 52 (v:=.int .i64 id) rfl rfl (fun W hW=>Kad rfl rfl (Kae (w:=W) Tryz.underlying2 rfl (Kag hW (ltOf c0) c0))) ?_
       simp only [Act.put,sA,sZ,sS]
       refine tk 6 53 (v:=.pointer (some ⟨w.heap.size,2,none⟩)) rfl rfl (fun W hW=>Kac rfl rfl (fa_gr 2 (by omega) _ W)) ?_
       simp only [Act.put,sA,sZ,sS]
       refine tk 7 54 (v:=.int .i64 g.nextNode) rfl rfl (fun W hW=>Kad rfl rfl (Kae (w:=W) Tryz.underlying2 rfl (Kag hW (ltOf g2) g2))) ?_
       simp only [Act.put,sA,sZ,sS]
       cases b2 with
       | true =>
         refine tk 8 55 (v:=.bool true) rfl rfl (fun W hW=>Kal rfl rfl rfl (h2 W)) ?_
         simp only [Act.put,sA,sZ,sS]
         refine tk 9 56 (v:=.bool true) rfl rfl (fun W hW=>rfl) ?_
         simp only [Act.put,sA,sZ,sS]
         refine tk 10 57 (v:=.bool true) rfl rfl (fun W hW=>Kab rfl rfl) ?_
         simp only [Act.put,sA,sZ,sS]
         refine tn 11 58 rfl rfl ?_
         simp only [Act.put,sA,sZ,sS]
         refine tn 12 59 rfl rfl ?_
         simp only [Act.put,sA,sZ,sS]
         refine tn 13 60 rfl rfl ?_
         simp only [Act.put,sA,sZ,sS]
         refine tn 14 61 rfl rfl ?_
         simp only [Act.put,sA,sZ,sS]
         refine tn 15 62 rfl rfl ?_
         simp only [Act.put,sA,sZ,sS]
         refine tn 16 63 rfl rfl ?_
         simp only [Act.put,sA,sZ,sS]
         refine tn 17 64 rfl rfl ?_
         simp only [Act.put,sA,sZ,sS]
         refine tn 18 65 rfl rfl ?_
         simp only [Act.put,sA,sZ,sS]
         refine tn 19 66 rfl rfl ?_
         simp only [Act.put,sA,sZ,sS]
         refine tn 20 67 rfl rfl ?_
         simp only [Act.put,sA,sZ,sS]
         refine tn 21 68 rfl rfl ?_
         simp only [Act.put,sA,sZ,sS]
         refine tn 22 69 rfl rfl ?_
         simp only [Act.put,sA,sZ,sS]
         refine tn 23 70 rfl rfl ?_
         simp only [Act.put,sA,sZ,sS]
         refine tn 24 71 rfl rfl ?_
         simp only [Act.put,sA,sZ,sS]
         refine tk 25 72 (v:=.bool true) rfl rfl (fun W hW=>rfl) ?_
         simp only [Act.put,sA,sZ,sS]
         refine tk 26 73 (v:=.bool true) rfl rfl (fun W hW=>Kab rfl rfl) ?_
         simp only [Act.put,sA,sZ,sS]
         refine tn 27 74 rfl rfl ?_
         simp only [Act.put,sA,sZ,sS]
         refine tn 28 75 rfl rfl ?_
         simp only [Act.put,sA,sZ,sS]
         refine Kau 29 76 rfl rfl (by kernel_rfl) rfl ?_ (.inr (by assumption))
         simp only [Act.put,sA,sZ,sS]
         refine tn 30 77 rfl rfl ?_
         simp only [Act.put,sA,sZ,sS]
         refine tk 31 78 (v:=.bool true) rfl rfl (fun W hW=>rfl) ?_
         simp only [Act.put,sA,sZ,sS]
         refine tk 32 79 (v:=.bool true) rfl rfl (fun W hW=>Kab rfl rfl) ?_
         simp only [Act.put,sA,sZ,sS]
         refine tn 33 80 rfl rfl ?_
         simp only [Act.put,sA,sZ,sS]
         refine tn 34 81 rfl rfl ?_
         simp only [Act.put,sA,sZ,sS]
         refine Kau 35 82 rfl rfl (by kernel_rfl) rfl ?_ (.inr (by assumption))
         simp only [Act.put,sA,sZ,sS]
         refine tn 36 83 rfl rfl ?_
         simp only [Act.put,sA,sZ,sS]
         refine tk 37 84 (v:=.bool true) rfl rfl (fun W hW=>rfl) ?_
         simp only [Act.put,sA,sZ,sS]
         refine done (by kernel_rfl) ?_ _
         have HB:=yh (Kaa HB1.out hS)
         clear hS c0 c1 c2 g0 g2 c9 hri hpr hi0 hsub h1 h2 h3 h4 hB0 HY 
         go_wp2
         go_ret
         exact ⟨Kam (HALL.out.2 (by simp)).symm,Kaa HX.out.2.2.1 HB.out⟩
       | false =>
         refine tk 8 55 (v:=.bool false) rfl rfl (fun W hW=>Kal rfl rfl rfl (h2 W)) ?_
         simp only [Act.put,sA,sZ,sS]
         refine tk 9 56 (v:=.bool false) rfl rfl (fun W hW=>rfl) ?_
         simp only [Act.put,sA,sZ,sS]
         refine tk 10 57 (v:=.bool false) rfl rfl (fun W hW=>Kab rfl rfl) ?_
         simp only [Act.put,sA,sZ,sS]
         refine tk 11 58 (v:=.int .i64 (j : Int)) rfl rfl (fun W hW=>Kab rfl rfl) ?_
         simp only [Act.put,sA,sZ,sS]
         cases b3 with
         | true =>
           have c9:=c9 rfl
           have hi0:=hi0 rfl
           have hsub:=hsub rfl
           refine tk 12 59 (v:=.bool true) rfl rfl (fun W hW=>Kal rfl rfl rfl (h3 W)) ?_
           simp only [Act.put,sA,sZ,sS]
           refine tk 13 60 (v:=.bool true) rfl rfl (fun W hW=>Kab rfl rfl) ?_
           simp only [Act.put,sA,sZ,sS]
           refine tk 14 61 (v:=.pointer (some ⟨w.heap.size,0,none⟩)) rfl rfl (fun W hW=>Kac rfl rfl (fa_gr 0 (by omega) _ W)) ?_
           simp only [Act.put,sA,sZ,sS]
           refine tk 15 62 (v:=.slice (some ⟨bk,ok,none⟩) g.nodes.length cn) rfl rfl (fun W hW=>Kad rfl rfl (Kae (w:=W) Tryz.underlying22 rfl (Kag hW (ltOf g0) g0))) ?_
           simp only [Act.put,sA,sZ,sS]
           refine tk 16 63 (v:=.int .i64 (j : Int)) rfl rfl (fun W hW=>Kab rfl rfl) ?_
           simp only [Act.put,sA,sZ,sS]
           refine tk 17 64 (v:=.int .i64 ((j - 1 : Nat) : Int)) rfl rfl (fun W hW=>Kal rfl rfl rfl (hsub W)) ?_
           simp only [Act.put,sA,sZ,sS]
           refine tk 18 65 (v:=.pointer (some ⟨bk,ok + (j - 1) * 3,none⟩)) rfl rfl (fun W hW=>Kaj rfl rfl rfl (hi0 W)) ?_
           simp only [Act.put,sA,sZ,sS]
           refine tk 19 66 (v:=.pointer (some ⟨bk,ok + (j - 1) * 3,none⟩)) rfl rfl (fun W hW=>Kac rfl rfl (fa_ndO _ _ W)) ?_
           simp only [Act.put,sA,sZ,sS]
           refine tk 20 67 (v:=.int .i64 id0) rfl rfl (fun W hW=>Kad rfl rfl (Kae (w:=W) Tryz.underlying2 rfl (Kag hW (ltOf c9) c9))) ?_
           simp only [Act.put,sA,sZ,sS]
           refine tk 21 68 (v:=.pointer (some ⟨wr.heap.size,0,none⟩)) rfl rfl (fun W hW=>Kac rfl rfl (fa_nd 0 (by omega) _ W)) ?_
           simp only [Act.put,sA,sZ,sS]
           refine tk 22 69 (v:=.int .i64 id) rfl rfl (fun W hW=>Kad rfl rfl (Kae (w:=W) Tryz.underlying2 rfl (Kag hW (ltOf c0) c0))) ?_
           simp only [Act.put,sA,sZ,sS]
           cases b4 with
           | true =>
             refine tk 23 70 (v:=.bool true) rfl rfl (fun W hW=>Kal rfl rfl rfl (h4 W)) ?_
             simp only [Act.put,sA,sZ,sS]
             refine tk 24 71 (v:=.bool true) rfl rfl (fun W hW=>rfl) ?_
             simp only [Act.put,sA,sZ,sS]
             refine tk 25 72 (v:=.bool true) rfl rfl (fun W hW=>rfl) ?_
             simp only [Act.put,sA,sZ,sS]
             refine tk 26 73 (v:=.bool true) rfl rfl (fun W hW=>Kab rfl rfl) ?_
             simp only [Act.put,sA,sZ,sS]
             refine tn 27 74 rfl rfl ?_
             simp only [Act.put,sA,sZ,sS]
             refine tn 28 75 rfl rfl ?_
             simp only [Act.put,sA,sZ,sS]
             refine Kau 29 76 rfl rfl (by kernel_rfl) rfl ?_ (.inr (by assumption))
             simp only [Act.put,sA,sZ,sS]
             refine tn 30 77 rfl rfl ?_
             simp only [Act.put,sA,sZ,sS]
             refine tk 31 78 (v:=.bool true) rfl rfl (fun W hW=>rfl) ?_
             simp only [Act.put,sA,sZ,sS]
             refine tk 32 79 (v:=.bool true) rfl rfl (fun W hW=>Kab rfl rfl) ?_
             simp only [Act.put,sA,sZ,sS]
             refine tn 33 80 rfl rfl ?_
             simp only [Act.put,sA,sZ,sS]
             refine tn 34 81 rfl rfl ?_
             simp only [Act.put,sA,sZ,sS]
             refine Kau 35 82 rfl rfl (by kernel_rfl) rfl ?_ (.inr (by assumption))
             simp only [Act.put,sA,sZ,sS]
             refine tn 36 83 rfl rfl ?_
             simp only [Act.put,sA,sZ,sS]
             refine tk 37 84 (v:=.bool true) rfl rfl (fun W hW=>rfl) ?_
             simp only [Act.put,sA,sZ,sS]
             refine done (by kernel_rfl) ?_ _
             have HB:=yh (Kaa HB1.out hS)
             clear hS c0 c1 c2 g0 g2 c9 hri hpr hi0 hsub h1 h2 h3 h4 hB0 HY 
             go_wp2
             go_ret
             exact ⟨Kam (HALL.out.2 (by simp)).symm,Kaa HX.out.2.2.1 HB.out⟩
           | false =>
             refine tk 23 70 (v:=.bool false) rfl rfl (fun W hW=>Kal rfl rfl rfl (h4 W)) ?_
             simp only [Act.put,sA,sZ,sS]
             refine tk 24 71 (v:=.bool false) rfl rfl (fun W hW=>rfl) ?_
             simp only [Act.put,sA,sZ,sS]
             refine tk 25 72 (v:=.bool false) rfl rfl (fun W hW=>rfl) ?_
             simp only [Act.put,sA,sZ,sS]
             refine tk 26 73 (v:=.bool false) rfl rfl (fun W hW=>Kab rfl rfl) ?_
             simp only [Act.put,sA,sZ,sS]
             refine tk 27 74 (v:=.pointer (some ⟨wr.heap.size,1,none⟩)) rfl rfl (fun W hW=>Kac rfl rfl (fa_nd 1 (by omega) _ W)) ?_
             simp only [Act.put,sA,sZ,sS]
             refine tk 28 75 (v:=.slice pl nl cl) rfl rfl (fun W hW=>Kad rfl rfl (Kae (w:=W) Tryz.underlying26 rfl (Kag hW (ltOf c1) c1))) ?_
             simp only [Act.put,sA,sZ,sS]
             cases b5 with
             | true =>
               refine Kao 29 76 rfl rfl (by kernel_rfl) rfl (Kan [.slice pl nl cl] rfl rfl Tryz.func33 (by kernel_rfl) (by kernel_rfl)) ?_
               refine (hri _ hS).mono ?_
               rintro e W29 ⟨rfl,hb29⟩
               have hS29:=Kaa hS hb29
               refine ⟨_,rfl,.inr hS29,?_⟩
               simp only [Act.put,sA,sZ,sS]
               refine tk 30 77 (v:=.bool false) rfl rfl (fun W hW=>Kar (b:=true) rfl rfl) ?_
               simp only [Act.put,sA,sZ,sS]
               refine tk 31 78 (v:=.bool false) rfl rfl (fun W hW=>rfl) ?_
               simp only [Act.put,sA,sZ,sS]
               refine tk 32 79 (v:=.bool false) rfl rfl (fun W hW=>Kab rfl rfl) ?_
               simp only [Act.put,sA,sZ,sS]
               refine tk 33 80 (v:=.pointer (some ⟨wr.heap.size,2,none⟩)) rfl rfl (fun W hW=>Kac rfl rfl (fa_nd 2 (by omega) _ W)) ?_
               simp only [Act.put,sA,sZ,sS]
               refine tk 34 81 (v:=.slice pp np cp) rfl rfl (fun W hW=>Kad rfl rfl (Kae (w:=W) Tryz.underlying27 rfl (Kag hW (ltOf c2) c2))) ?_
               simp only [Act.put,sA,sZ,sS]
               cases b6 with
               | true =>
                 refine Kao 35 82 rfl rfl (by kernel_rfl) rfl (Kan [.slice pp np cp] rfl rfl Tryz.func34 (by kernel_rfl) (by kernel_rfl)) ?_
                 refine (hpr _ hS29).mono ?_
                 rintro e W35 ⟨rfl,hb35⟩
                 have hS35:=Kaa hS29 hb35
                 refine ⟨_,rfl,.inr hS35,?_⟩
                 simp only [Act.put,sA,sZ,sS]
                 refine tk 36 83 (v:=.bool false) rfl rfl (fun W hW=>Kar (b:=true) rfl rfl) ?_
                 simp only [Act.put,sA,sZ,sS]
                 refine tk 37 84 (v:=.bool false) rfl rfl (fun W hW=>rfl) ?_
                 simp only [Act.put,sA,sZ,sS]
                 refine done (by kernel_rfl) ?_ _
                 have HB:=yh (Kaa HB1.out hS35)
                 clear hS hS29 hb29 hS35 hb35 c0 c1 c2 g0 g2 c9 hri hpr hi0 hsub h1 h2 h3 h4 hB0 HY 
                 go_wp2
                 go_roundw
                 case rel=>exact ⟨j + 1,hlt1,by go_num,yh ⟨HALL.out.1 rfl,HB.out⟩⟩
                 case measure=>simp [intOf];omega
               | false =>
                 refine Kao 35 82 rfl rfl (by kernel_rfl) rfl (Kan [.slice pp np cp] rfl rfl Tryz.func34 (by kernel_rfl) (by kernel_rfl)) ?_
                 refine (hpr _ hS29).mono ?_
                 rintro e W35 ⟨rfl,hb35⟩
                 have hS35:=Kaa hS29 hb35
                 refine ⟨_,rfl,.inr hS35,?_⟩
                 simp only [Act.put,sA,sZ,sS]
                 refine tk 36 83 (v:=.bool true) rfl rfl (fun W hW=>Kar (b:=false) rfl rfl) ?_
                 simp only [Act.put,sA,sZ,sS]
                 refine tk 37 84 (v:=.bool true) rfl rfl (fun W hW=>rfl) ?_
                 simp only [Act.put,sA,sZ,sS]
                 refine done (by kernel_rfl) ?_ _
                 have HB:=yh (Kaa HB1.out hS35)
                 clear hS hS29 hb29 hS35 hb35 c0 c1 c2 g0 g2 c9 hri hpr hi0 hsub h1 h2 h3 h4 hB0 HY 
                 go_wp2
                 go_ret
                 exact ⟨Kam (HALL.out.2 (by simp)).symm,Kaa HX.out.2.2.1 HB.out⟩
             | false =>
               refine Kao 29 76 rfl rfl (by kernel_rfl) rfl (Kan [.slice pl nl cl] rfl rfl Tryz.func33 (by kernel_rfl) (by kernel_rfl)) ?_
               refine (hri _ hS).mono ?_
               rintro e W29 ⟨rfl,hb29⟩
               have hS29:=Kaa hS hb29
               refine ⟨_,rfl,.inr hS29,?_⟩
               simp only [Act.put,sA,sZ,sS]
               refine tk 30 77 (v:=.bool true) rfl rfl (fun W hW=>Kar (b:=false) rfl rfl) ?_
               simp only [Act.put,sA,sZ,sS]
               refine tk 31 78 (v:=.bool true) rfl rfl (fun W hW=>rfl) ?_
               simp only [Act.put,sA,sZ,sS]
               refine tk 32 79 (v:=.bool true) rfl rfl (fun W hW=>Kab rfl rfl) ?_
               simp only [Act.put,sA,sZ,sS]
               refine tn 33 80 rfl rfl ?_
               simp only [Act.put,sA,sZ,sS]
               refine tn 34 81 rfl rfl ?_
               simp only [Act.put,sA,sZ,sS]
               refine Kau 35 82 rfl rfl (by kernel_rfl) rfl ?_ (.inr (by assumption))
               simp only [Act.put,sA,sZ,sS]
               refine tn 36 83 rfl rfl ?_
               simp only [Act.put,sA,sZ,sS]
               refine tk 37 84 (v:=.bool true) rfl rfl (fun W hW=>rfl) ?_
               simp only [Act.put,sA,sZ,sS]
               refine done (by kernel_rfl) ?_ _
               have HB:=yh (Kaa HB1.out hS29)
               clear hS hS29 hb29 c0 c1 c2 g0 g2 c9 hri hpr hi0 hsub h1 h2 h3 h4 hB0 HY 
               go_wp2
               go_ret
               exact ⟨Kam (HALL.out.2 (by simp)).symm,Kaa HX.out.2.2.1 HB.out⟩
         | false =>
           refine tk 12 59 (v:=.bool false) rfl rfl (fun W hW=>Kal rfl rfl rfl (h3 W)) ?_
           simp only [Act.put,sA,sZ,sS]
           refine tk 13 60 (v:=.bool false) rfl rfl (fun W hW=>Kab rfl rfl) ?_
           simp only [Act.put,sA,sZ,sS]
           refine tn 14 61 rfl rfl ?_
           simp only [Act.put,sA,sZ,sS]
           refine tn 15 62 rfl rfl ?_
           simp only [Act.put,sA,sZ,sS]
           refine tn 16 63 rfl rfl ?_
           simp only [Act.put,sA,sZ,sS]
           refine tn 17 64 rfl rfl ?_
           simp only [Act.put,sA,sZ,sS]
           refine tn 18 65 rfl rfl ?_
           simp only [Act.put,sA,sZ,sS]
           refine tn 19 66 rfl rfl ?_
           simp only [Act.put,sA,sZ,sS]
           refine tn 20 67 rfl rfl ?_
           simp only [Act.put,sA,sZ,sS]
           refine tn 21 68 rfl rfl ?_
           simp only [Act.put,sA,sZ,sS]
           refine tn 22 69 rfl rfl ?_
           simp only [Act.put,sA,sZ,sS]
           refine tn 23 70 rfl rfl ?_
           simp only [Act.put,sA,sZ,sS]
           refine tk 24 71 (v:=.bool false) rfl rfl (fun W hW=>rfl) ?_
           simp only [Act.put,sA,sZ,sS]
           refine tk 25 72 (v:=.bool false) rfl rfl (fun W hW=>rfl) ?_
           simp only [Act.put,sA,sZ,sS]
           refine tk 26 73 (v:=.bool false) rfl rfl (fun W hW=>Kab rfl rfl) ?_
           simp only [Act.put,sA,sZ,sS]
           refine tk 27 74 (v:=.pointer (some ⟨wr.heap.size,1,none⟩)) rfl rfl (fun W hW=>Kac rfl rfl (fa_nd 1 (by omega) _ W)) ?_
           simp only [Act.put,sA,sZ,sS]
           refine tk 28 75 (v:=.slice pl nl cl) rfl rfl (fun W hW=>Kad rfl rfl (Kae (w:=W) Tryz.underlying26 rfl (Kag hW (ltOf c1) c1))) ?_
           simp only [Act.put,sA,sZ,sS]
           cases b5 with
           | true =>
             refine Kao 29 76 rfl rfl (by kernel_rfl) rfl (Kan [.slice pl nl cl] rfl rfl Tryz.func33 (by kernel_rfl) (by kernel_rfl)) ?_
             refine (hri _ hS).mono ?_
             rintro e W29 ⟨rfl,hb29⟩
             have hS29:=Kaa hS hb29
             refine ⟨_,rfl,.inr hS29,?_⟩
             simp only [Act.put,sA,sZ,sS]
             refine tk 30 77 (v:=.bool false) rfl rfl (fun W hW=>Kar (b:=true) rfl rfl) ?_
             simp only [Act.put,sA,sZ,sS]
             refine tk 31 78 (v:=.bool false) rfl rfl (fun W hW=>rfl) ?_
             simp only [Act.put,sA,sZ,sS]
             refine tk 32 79 (v:=.bool false) rfl rfl (fun W hW=>Kab rfl rfl) ?_
             simp only [Act.put,sA,sZ,sS]
             refine tk 33 80 (v:=.pointer (some ⟨wr.heap.size,2,none⟩)) rfl rfl (fun W hW=>Kac rfl rfl (fa_nd 2 (by omega) _ W)) ?_
             simp only [Act.put,sA,sZ,sS]
             refine tk 34 81 (v:=.slice pp np cp) rfl rfl (fun W hW=>Kad rfl rfl (Kae (w:=W) Tryz.underlying27 rfl (Kag hW (ltOf c2) c2))) ?_
             simp only [Act.put,sA,sZ,sS]
             cases b6 with
             | true =>
               refine Kao 35 82 rfl rfl (by kernel_rfl) rfl (Kan [.slice pp np cp] rfl rfl Tryz.func34 (by kernel_rfl) (by kernel_rfl)) ?_
               refine (hpr _ hS29).mono ?_
               rintro e W35 ⟨rfl,hb35⟩
               have hS35:=Kaa hS29 hb35
               refine ⟨_,rfl,.inr hS35,?_⟩
               simp only [Act.put,sA,sZ,sS]
               refine tk 36 83 (v:=.bool false) rfl rfl (fun W hW=>Kar (b:=true) rfl rfl) ?_
               simp only [Act.put,sA,sZ,sS]
               refine tk 37 84 (v:=.bool false) rfl rfl (fun W hW=>rfl) ?_
               simp only [Act.put,sA,sZ,sS]
               refine done (by kernel_rfl) ?_ _
               have HB:=yh (Kaa HB1.out hS35)
               clear hS hS29 hb29 hS35 hb35 c0 c1 c2 g0 g2 c9 hri hpr hi0 hsub h1 h2 h3 h4 hB0 HY 
               go_wp2
               go_roundw
               case rel=>exact ⟨j + 1,hlt1,by go_num,yh ⟨HALL.out.1 rfl,HB.out⟩⟩
               case measure=>simp [intOf];omega
             | false =>
               refine Kao 35 82 rfl rfl (by kernel_rfl) rfl (Kan [.slice pp np cp] rfl rfl Tryz.func34 (by kernel_rfl) (by kernel_rfl)) ?_
               refine (hpr _ hS29).mono ?_
               rintro e W35 ⟨rfl,hb35⟩
               have hS35:=Kaa hS29 hb35
               refine ⟨_,rfl,.inr hS35,?_⟩
               simp only [Act.put,sA,sZ,sS]
               refine tk 36 83 (v:=.bool true) rfl rfl (fun W hW=>Kar (b:=false) rfl rfl) ?_
               simp only [Act.put,sA,sZ,sS]
               refine tk 37 84 (v:=.bool true) rfl rfl (fun W hW=>rfl) ?_
               simp only [Act.put,sA,sZ,sS]
               refine done (by kernel_rfl) ?_ _
               have HB:=yh (Kaa HB1.out hS35)
               clear hS hS29 hb29 hS35 hb35 c0 c1 c2 g0 g2 c9 hri hpr hi0 hsub h1 h2 h3 h4 hB0 HY 
               go_wp2
               go_ret
               exact ⟨Kam (HALL.out.2 (by simp)).symm,Kaa HX.out.2.2.1 HB.out⟩
           | false =>
             refine Kao 29 76 rfl rfl (by kernel_rfl) rfl (Kan [.slice pl nl cl] rfl rfl Tryz.func33 (by kernel_rfl) (by kernel_rfl)) ?_
             refine (hri _ hS).mono ?_
             rintro e W29 ⟨rfl,hb29⟩
             have hS29:=Kaa hS hb29
             refine ⟨_,rfl,.inr hS29,?_⟩
             simp only [Act.put,sA,sZ,sS]
             refine tk 30 77 (v:=.bool true) rfl rfl (fun W hW=>Kar (b:=false) rfl rfl) ?_
             simp only [Act.put,sA,sZ,sS]
             refine tk 31 78 (v:=.bool true) rfl rfl (fun W hW=>rfl) ?_
             simp only [Act.put,sA,sZ,sS]
             refine tk 32 79 (v:=.bool true) rfl rfl (fun W hW=>Kab rfl rfl) ?_
             simp only [Act.put,sA,sZ,sS]
             refine tn 33 80 rfl rfl ?_
             simp only [Act.put,sA,sZ,sS]
             refine tn 34 81 rfl rfl ?_
             simp only [Act.put,sA,sZ,sS]
             refine Kau 35 82 rfl rfl (by kernel_rfl) rfl ?_ (.inr (by assumption))
             simp only [Act.put,sA,sZ,sS]
             refine tn 36 83 rfl rfl ?_
             simp only [Act.put,sA,sZ,sS]
             refine tk 37 84 (v:=.bool true) rfl rfl (fun W hW=>rfl) ?_
             simp only [Act.put,sA,sZ,sS]
             refine done (by kernel_rfl) ?_ _
             have HB:=yh (Kaa HB1.out hS29)
             clear hS hS29 hb29 c0 c1 c2 g0 g2 c9 hri hpr hi0 hsub h1 h2 h3 h4 hB0 HY 
             go_wp2
             go_ret
             exact ⟨Kam (HALL.out.2 (by simp)).symm,Kaa HX.out.2.2.1 HB.out⟩
    ·obtain rfl : j = g.nodes.length:=by omega
     have HN:=yh HJ.out.1
     have HBW:=yh HJ.out.2
     have p0:=Kag HJ.out.2 (ltOf HX.out.2.2.2.2.1) HX.out.2.2.2.2.1
     have q1:=Kag HJ.out.2 (ltOf HX.out.2.2.2.2.2.1) HX.out.2.2.2.2.2.1
     clear HJ
     go_wp2
     clear p0 q1
     go_loopw [5] (fun i wr=>∃ j : Nat,j ≤ g.rels.length ∧ i = .int .i64 (j : Int) ∧ Hid (okRsP g j = true ∧ Below w1.heap.size w1 wr)) (fun i _=>g.rels.length - (intOf i).toNat)
     case atStart=>exact ⟨0,Nat.zero_le _,rfl,yh ⟨rfl,HBW.out⟩⟩
     case round =>
      rename_i wr0 wr
      clear HBW
      obtain ⟨j,hj,rfl,HJ⟩:=hrel
      by_cases hlt : j < g.rels.length
      ·have hlt1:=Nat.succ_le_of_lt hlt
       have hbw : Below w1.heap.size w1 wr:=HJ.out.2
       obtain ⟨bk,ok,cs,rfl,hs,hc,hv⟩:=HX.out.2.2.2.1.get hlt
       have hvl:=hv
       have gw : wr.cell? ⟨w.heap.size,1,none⟩ = some (.slice (some ⟨bk,ok,none⟩) g.rels.length cr):=Kag hbw (ltOf HX.out.2.2.2.2.2.1) HX.out.2.2.2.2.2.1 -- gw
       have hb9 : 0 < j → ∃ id0,w1.cell? ⟨bk,ok + (j - 1) * 5,none⟩ = some (.int .i64 id0) ∧ ∀ hh : j - 1 < g.rels.length,g.rels[j - 1].id = id0:=fun h0=>by
        obtain ⟨bk2,ok2,cs0,e2,hs0,hc0,hv0⟩:=HX.out.2.2.2.1.get (show j - 1 < g.rels.length by omega)
        cases e2
        have hq0 : w1.cell? ⟨bk,ok + (j - 1) * 5,none⟩ = some (.int .i64 (g.rels[j - 1]'(by omega)).id):=by
         obtain ⟨_,_,rfl,_⟩:=hv0
         exact hc0 0 _ rfl
        exact ⟨_,hq0,fun _=>rfl⟩
       obtain ⟨id0,hid0⟩ : ∃ id0,0 < j → w1.cell? ⟨bk,ok + (j - 1) * 5,none⟩ = some (.int .i64 id0) ∧ ∀ hh : j - 1 < g.rels.length,g.rels[j - 1].id = id0:=by
        by_cases h0 : 0 < j
        ·obtain ⟨a,b⟩:=hb9 h0;exact ⟨a,fun _=>b⟩
        ·exact ⟨0,fun h=>absurd h h0⟩
       have hst:=okRsP_step hlt (decide (g.rels[j].id ≤ id0)) (fun h0=>by rw [(hid0 h0).2 (by omega)])
       have hno:=okRsP_no (g:=g) (j:=j + 1)
       have hok1:=HJ.out.1
       rw [hok1,Bool.true_and] at hst
       have htv:=HX.out.2.1.2 _ (List.getElem_mem hlt)
       obtain ⟨pp,cp,ecs,hty,hps⟩:=hv
       have hn1:=Kai (w:=wr) (.cells cs 49)
       have hx1:=heap_alloc_new wr (.cells cs 49)
       have HL1:=yh (StT.load (P:=Tryz.prog) (g:=bk) (o:=ok + j * 5) (W:=wr) Kbv hs fun i u hu=>Kag hbw (ltOf (hc i u hu)) (hc i u hu))
       have HS1:=yh (StT.fresh Kbv hs (Kcc.ones hvl) (W:=wr))
       have hbw1:=Kaa hbw hn1
       have c0 : (wr.alloc (.cells cs 49)).cell? ⟨wr.heap.size,0,none⟩ = some (.int .i64 g.rels[j].id):=Kah (o:=0) hx1 (by rw [ecs];rfl)
       have c1 : (wr.alloc (.cells cs 49)).cell? ⟨wr.heap.size,1,none⟩ = some (.int .i64 g.rels[j].src):=Kah (o:=1) hx1 (by rw [ecs];rfl)
       have c2 : (wr.alloc (.cells cs 49)).cell? ⟨wr.heap.size,2,none⟩ = some (.int .i64 g.rels[j].dst):=Kah (o:=2) hx1 (by rw [ecs];rfl)
       have c3 : (wr.alloc (.cells cs 49)).cell? ⟨wr.heap.size,3,none⟩ = some (.string (strB g.rels[j].type)):=Kah (o:=3) hx1 (by rw [ecs];rfl)
       have c4 : (wr.alloc (.cells cs 49)).cell? ⟨wr.heap.size,4,none⟩ = some (.slice pp g.rels[j].props.length cp):=Kah (o:=4) hx1 (by rw [ecs];rfl)
       have g1 : (wr.alloc (.cells cs 49)).cell? ⟨w.heap.size,1,none⟩ = some (.slice (some ⟨bk,ok,none⟩) g.rels.length cr):=Kag hbw1 (ltOf HX.out.2.2.2.2.2.1) HX.out.2.2.2.2.2.1
       have g3 : (wr.alloc (.cells cs 49)).cell? ⟨w.heap.size,3,none⟩ = some (.int .i64 g.nextRel):=Kag hbw1 (ltOf HX.out.2.2.2.2.2.2.2.1) HX.out.2.2.2.2.2.2.2.1
       have hgx : (wr.alloc (.cells cs 49)).heap[w.heap.size]? = some (.cells xg 25 (0,0)):=Kak hbw1 (Array.getElem?_eq_some_iff.1 HG.out.1).1 HG.out.1
       have hgl:=(Array.getElem?_eq_some_iff.1 hgx).1
       have hlg : ∀ W : World,W.heap[w.heap.size]? = some (.cells xg 25 (0,0)) → (loadVar 25 ⟨w.heap.size,0,none⟩).run Tryz.prog W = .ok (.agg xg) W:=fun W hW=>Kay.get (P:=Tryz.prog) HG.out.2.2 hW
       have hfs:=fun W (gg : Below (wr.alloc (.cells cs 49)).heap.size (wr.alloc (.cells cs 49)) W)=>reffind_any (w:=W) ((HG.out.2.1.below hbw1).below gg) g.rels[j].src
       have hfd:=fun W (gg : Below (wr.alloc (.cells cs 49)).heap.size (wr.alloc (.cells cs 49)) W)=>reffind_any (w:=W) ((HG.out.2.1.below hbw1).below gg) g.rels[j].dst
       have hf7:=fun W=>lss_0 (findAt (g.nodes.map NodeD.id) g.rels[j].src) W
       have hf8:=fun W=>lss_0 (findAt (g.nodes.map NodeD.id) g.rels[j].dst) W
       simp only [hasN_find] at hf7 hf8
       have c9 : 0 < j → (wr.alloc (.cells cs 49)).cell? ⟨bk,ok + (j - 1) * 5,none⟩ = some (.int .i64 id0):=fun h0=>Kag hbw1 (ltOf (hid0 h0).1) (hid0 h0).1
       have hri:=fun W=>refname_any (w:=W) g.rels[j].type hty
       have hpr:=fun W (g : Below (wr.alloc (.cells cs 49)).heap.size (wr.alloc (.cells cs 49)) W)=>refprops_any (w:=W) ((hps.below (fun h=>h.below hbw1) hbw1).below (fun h=>h.below g) g) htv
       have hi0 : 0 < j → ∀ W' : World,(Instr.indexAt 23 (.slice (some ⟨bk,ok,none⟩) g.rels.length cn) (.int .i64 ((j - 1 : Nat) : Int))).run Tryz.prog W' = .ok (.pointer (some ⟨bk,ok + (j - 1) * 5,none⟩)) W':=fun h0 W'=>ia_rel (by omega) W'
       have hsub : 0 < j → ∀ W : World,(binOp .sub 3 (.int .i64 (j : Int)) (.int .i64 1)).run Tryz.prog W = .ok (.int .i64 ((j - 1 : Nat) : Int)) W:=fun h0=>sub_nat h0 (by have:=HX.out.2.2.2.2.2.2.2.2;omega)
       have h1:=fun W=>lss_i g.rels[j].id 0 W
       have h2:=fun W=>geq_i g.rels[j].id g.nextRel W
       have h3:=gtr_nat (j:=j)
       have h4:=fun W=>geq_i id0 g.rels[j].id W
       obtain ⟨b1,hb1⟩ : ∃ b,b = decide (g.rels[j].id < 0):=⟨_,rfl⟩
       obtain ⟨b2,hb2⟩ : ∃ b,b = decide (g.nextRel ≤ g.rels[j].id):=⟨_,rfl⟩
       obtain ⟨b3,hb3⟩ : ∃ b,b = decide (0 < j):=⟨_,rfl⟩
       obtain ⟨b4,hb4⟩ : ∃ b,b = decide (g.rels[j].id ≤ id0):=⟨_,rfl⟩
       obtain ⟨b5,hb5⟩ : ∃ b,b = okNm g.rels[j].type:=⟨_,rfl⟩
       obtain ⟨b6,hb6⟩ : ∃ b,b = okPs g.rels[j].props:=⟨_,rfl⟩
       obtain ⟨b7,hb7⟩ : ∃ b,b = hasN g g.rels[j].src:=⟨_,rfl⟩
       obtain ⟨b8,hb8⟩ : ∃ b,b = hasN g g.rels[j].dst:=⟨_,rfl⟩
       simp only [← hb1,← hb2,← hb3,← hb4,← hb5,← hb6,← hb7,← hb8] at h1 h2 h3 h4 hri hpr hst hf7 hf8
       have hst1 : (!b1 && !b2 && !(b3 && b4) && b5 && b6 && b7 && b8) = true → okRsP g (j + 1) = true:=fun h=>by rw [hst];exact h
       have hst2 : (!b1 && !b2 && !(b3 && b4) && b5 && b6 && b7 && b8) = false → okG g = false:=fun h=>hno (by rw [hst];exact h)
       have HALL:=yh (And.intro hst1 hst2)
       have hj0 : b3 = true → 0 < j:=fun e=>by rw [hb3] at e;simpa using e
       have hc9:=fun e=>c9 (hj0 e)
       have hhi0:=fun e=>hi0 (hj0 e)
       have hhsub:=fun e=>hsub (hj0 e)
       have HB1:=yh hbw1
       have hB0 : Below (wr.alloc (.cells cs 49)).heap.size (wr.alloc (.cells cs 49)) (wr.alloc (.cells cs 49)).drew:=(Below.refl _ _).drew
       generalize g.rels[j].id = id at *
       generalize findAt (g.nodes.map NodeD.id) g.rels[j].src = fs at *
       generalize findAt (g.nodes.map NodeD.id) g.rels[j].dst = fd at *
       generalize g.rels[j].src = src at *
       generalize g.rels[j].dst = dst at *
       generalize g.rels[j].type = ty at *
       generalize g.rels[j].props.length = np at *
       have HY:=yh (And.intro c0 (And.intro c1 (And.intro c2 (And.intro c3 (And.intro c4 (And.intro g1 (And.intro g3 (And.intro hgx (And.intro hgl (And.intro hlg (And.intro hfs (And.intro hfd (And.intro hf7 (And.intro hf8 (And.intro hc9 (And.intro hri (And.intro hpr (And.intro hhi0 (And.intro hhsub (And.intro h1 (And.intro h2 (And.intro h3 (And.intro h4 hB0)))))))))))))))))))))))
       clear c0 c1 c2 c3 c4 g1 g3 hgx hgl hlg hfs hfd hf7 hf8 hb7 hb8 hty c9 hc9 hri hpr hi0 hsub hhi0 hhsub h1 h2 h3 h4 hB0 hst hst1 hst2 hno hok1 hb1 hb2 hb3 hb4 hb5 hb6 hj0 hb9 hid0 hbw hbw1 hn1 hx1 hs hc hvl hps ecs htv HJ
       go_wp2_with (first
        | ((with_reducible apply Kap);exact HL1.out;exact rfl;clear HL1)
        | ((with_reducible apply Kaq);exact HS1.out _ rfl;exact rfl;exact rfl;clear HS1))
       clear gw
       obtain ⟨c0,c1,c2,c3,c4,g1,g3,hgx,hgl,hlg,hfs,hfd,hf7,hf8,c9,hri,hpr,hi0,hsub,h1,h2,h3,h4,hB0⟩:=HY.out
       refine Kaf (fun W=>Below (wr.alloc (.cells cs 49)).heap.size (wr.alloc (.cells cs 49)) W) (by kernel_rfl) hB0 (fun hS=>?_)
       refine tk 0 97 (v:=.pointer (some ⟨wr.heap.size,0,none⟩)) rfl rfl (fun W hW=>Kac rfl rfl (fa_rl 0 (by omega) _ W)) ?_
       simp only [Act.put,sA,sZ,sS]
       refine tk 1 98 (v:=.int .i64 id) rfl rfl (fun W hW=>Kad rfl rfl (Kae (w:=W) Tryz.underlying2 rfl (Kag hW (ltOf c0) c0))) ?_
       simp only [Act.put,sA,sZ,sS]
       cases b1 with
       | true =>
         refine tk 2 99 (v:=.bool true) rfl rfl (fun W hW=>Kal rfl rfl rfl (h1 W)) ?_
         simp only [Act.put,sA,sZ,sS]
         refine tk 3 100 (v:=.bool true) rfl rfl (fun W hW=>Kab rfl rfl) ?_
         simp only [Act.put,sA,sZ,sS]
         refine tn 4 101 rfl rfl ?_
         simp only [Act.put,sA,sZ,sS]
         refine tn 5 102 rfl rfl ?_
         simp only [Act.put,sA,sZ,sS]
         refine tn 6 103 rfl rfl ?_
         simp only [Act.put,sA,sZ,sS]
         refine tn 7 104 rfl rfl ?_
         simp only [Act.put,sA,sZ,sS]
         refine tn 8 105 rfl rfl ?_
         simp only [Act.put,sA,sZ,sS]
         refine tk 9 106 (v:=.bool true) rfl rfl (fun W hW=>rfl) ?_
         simp only [Act.put,sA,sZ,sS]
         refine tk 10 107 (v:=.bool true) rfl rfl (fun W hW=>Kab rfl rfl) ?_
         simp only [Act.put,sA,sZ,sS]
         refine tn 11 108 rfl rfl ?_
         simp only [Act.put,sA,sZ,sS]
         refine tn 12 109 rfl rfl ?_
         simp only [Act.put,sA,sZ,sS]
         refine tn 13 110 rfl rfl ?_
         simp only [Act.put,sA,sZ,sS]
         refine tn 14 111 rfl rfl ?_
         simp only [Act.put,sA,sZ,sS]
         refine tn 15 112 rfl rfl ?_
         simp only [Act.put,sA,sZ,sS]
         refine tn 16 113 rfl rfl ?_
         simp only [Act.put,sA,sZ,sS]
         refine tn 17 114 rfl rfl ?_
         simp only [Act.put,sA,sZ,sS]
         refine tn 18 115 rfl rfl ?_
         simp only [Act.put,sA,sZ,sS]
         refine tn 19 116 rfl rfl ?_
         simp only [Act.put,sA,sZ,sS]
         refine tn 20 117 rfl rfl ?_
         simp only [Act.put,sA,sZ,sS]
         refine tn 21 118 rfl rfl ?_
         simp only [Act.put,sA,sZ,sS]
         refine tn 22 119 rfl rfl ?_
         simp only [Act.put,sA,sZ,sS]
         refine tn 23 120 rfl rfl ?_
         simp only [Act.put,sA,sZ,sS]
         refine tn 24 121 rfl rfl ?_
         simp only [Act.put,sA,sZ,sS]
         refine tk 25 122 (v:=.bool true) rfl rfl (fun W hW=>rfl) ?_
         simp only [Act.put,sA,sZ,sS]
         refine tk 26 123 (v:=.bool true) rfl rfl (fun W hW=>Kab rfl rfl) ?_
         simp only [Act.put,sA,sZ,sS]
         refine tn 27 124 rfl rfl ?_
         simp only [Act.put,sA,sZ,sS]
         refine tn 28 125 rfl rfl ?_
         simp only [Act.put,sA,sZ,sS]
         refine Kau 29 126 rfl rfl (by kernel_rfl) rfl ?_ (.inr (by assumption))
         simp only [Act.put,sA,sZ,sS]
         refine tn 30 127 rfl rfl ?_
         simp only [Act.put,sA,sZ,sS]
         refine tk 31 128 (v:=.bool true) rfl rfl (fun W hW=>rfl) ?_
         simp only [Act.put,sA,sZ,sS]
         refine tk 32 129 (v:=.bool true) rfl rfl (fun W hW=>Kab rfl rfl) ?_
         simp only [Act.put,sA,sZ,sS]
         refine tn 33 130 rfl rfl ?_
         simp only [Act.put,sA,sZ,sS]
         refine tn 34 131 rfl rfl ?_
         simp only [Act.put,sA,sZ,sS]
         refine Kau 35 132 rfl rfl (by kernel_rfl) rfl ?_ (.inr (by assumption))
         simp only [Act.put,sA,sZ,sS]
         refine tn 36 133 rfl rfl ?_
         simp only [Act.put,sA,sZ,sS]
         refine tk 37 134 (v:=.bool true) rfl rfl (fun W hW=>rfl) ?_
         simp only [Act.put,sA,sZ,sS]
         refine tk 38 135 (v:=.bool true) rfl rfl (fun W hW=>Kab rfl rfl) ?_
         simp only [Act.put,sA,sZ,sS]
         refine tn 39 136 rfl rfl ?_
         simp only [Act.put,sA,sZ,sS]
         refine tn 40 137 rfl rfl ?_
         simp only [Act.put,sA,sZ,sS]
         refine tn 41 138 rfl rfl ?_
         simp only [Act.put,sA,sZ,sS]
         refine Kau 42 139 rfl rfl (by kernel_rfl) rfl ?_ (.inr (by assumption))
         simp only [Act.put,sA,sZ,sS]
         refine tn 43 140 rfl rfl ?_
         simp only [Act.put,sA,sZ,sS]
         refine tk 44 141 (v:=.bool true) rfl rfl (fun W hW=>rfl) ?_
         simp only [Act.put,sA,sZ,sS]
         refine tk 45 142 (v:=.bool true) rfl rfl (fun W hW=>Kab rfl rfl) ?_
         simp only [Act.put,sA,sZ,sS]
         refine tn 46 143 rfl rfl ?_
         simp only [Act.put,sA,sZ,sS]
         refine tn 47 144 rfl rfl ?_
         simp only [Act.put,sA,sZ,sS]
         refine tn 48 145 rfl rfl ?_
         simp only [Act.put,sA,sZ,sS]
         refine Kau 49 146 rfl rfl (by kernel_rfl) rfl ?_ (.inr (by assumption))
         simp only [Act.put,sA,sZ,sS]
         refine tn 50 147 rfl rfl ?_
         simp only [Act.put,sA,sZ,sS]
         refine tk 51 148 (v:=.bool true) rfl rfl (fun W hW=>rfl) ?_
         simp only [Act.put,sA,sZ,sS]
         refine done (by kernel_rfl) ?_ _
         have HB:=yh (Kaa HB1.out hS)
         clear hS c0 c1 c2 c3 c4 g1 g3 hgx hgl hlg hfs hfd hf7 hf8 c9 hri hpr hi0 hsub h1 h2 h3 h4 hB0 HY 
         go_wp2
         go_ret
         exact ⟨Kam (HALL.out.2 (by simp)).symm,Kaa HX.out.2.2.1 HB.out⟩
       | false =>
         refine tk 2 99 (v:=.bool false) rfl rfl (fun W hW=>Kal rfl rfl rfl (h1 W)) ?_
         simp only [Act.put,sA,sZ,sS]
         refine tk 3 100 (v:=.bool false) rfl rfl (fun W hW=>Kab rfl rfl) ?_
         simp only [Act.put,sA,sZ,sS]
         refine tk 4 101 (v:=.pointer (some ⟨wr.heap.size,0,none⟩)) rfl rfl (fun W hW=>Kac rfl rfl (fa_rl 0 (by omega) _ W)) ?_
         simp only [Act.put,sA,sZ,sS]
         refine tk 5 102 (v:=.int .i64 id) rfl rfl (fun W hW=>Kad rfl rfl (Kae (w:=W) Tryz.underlying2 rfl (Kag hW (ltOf c0) c0))) ?_
         simp only [Act.put,sA,sZ,sS]
         refine tk 6 103 (v:=.pointer (some ⟨w.heap.size,3,none⟩)) rfl rfl (fun W hW=>Kac rfl rfl (fa_gr 3 (by omega) _ W)) ?_
         simp only [Act.put,sA,sZ,sS]
         refine tk 7 104 (v:=.int .i64 g.nextRel) rfl rfl (fun W hW=>Kad rfl rfl (Kae (w:=W) Tryz.underlying2 rfl (Kag hW (ltOf g3) g3))) ?_
         simp only [Act.put,sA,sZ,sS]
         cases b2 with
         | true =>
           refine tk 8 105 (v:=.bool true) rfl rfl (fun W hW=>Kal rfl rfl rfl (h2 W)) ?_
           simp only [Act.put,sA,sZ,sS]
           refine tk 9 106 (v:=.bool true) rfl rfl (fun W hW=>rfl) ?_
           simp only [Act.put,sA,sZ,sS]
           refine tk 10 107 (v:=.bool true) rfl rfl (fun W hW=>Kab rfl rfl) ?_
           simp only [Act.put,sA,sZ,sS]
           refine tn 11 108 rfl rfl ?_
           simp only [Act.put,sA,sZ,sS]
           refine tn 12 109 rfl rfl ?_
           simp only [Act.put,sA,sZ,sS]
           refine tn 13 110 rfl rfl ?_
           simp only [Act.put,sA,sZ,sS]
           refine tn 14 111 rfl rfl ?_
           simp only [Act.put,sA,sZ,sS]
           refine tn 15 112 rfl rfl ?_
           simp only [Act.put,sA,sZ,sS]
           refine tn 16 113 rfl rfl ?_
           simp only [Act.put,sA,sZ,sS]
           refine tn 17 114 rfl rfl ?_
           simp only [Act.put,sA,sZ,sS]
           refine tn 18 115 rfl rfl ?_
           simp only [Act.put,sA,sZ,sS]
           refine tn 19 116 rfl rfl ?_
           simp only [Act.put,sA,sZ,sS]
           refine tn 20 117 rfl rfl ?_
           simp only [Act.put,sA,sZ,sS]
           refine tn 21 118 rfl rfl ?_
           simp only [Act.put,sA,sZ,sS]
           refine tn 22 119 rfl rfl ?_
           simp only [Act.put,sA,sZ,sS]
           refine tn 23 120 rfl rfl ?_
           simp only [Act.put,sA,sZ,sS]
           refine tn 24 121 rfl rfl ?_
           simp only [Act.put,sA,sZ,sS]
           refine tk 25 122 (v:=.bool true) rfl rfl (fun W hW=>rfl) ?_
           simp only [Act.put,sA,sZ,sS]
           refine tk 26 123 (v:=.bool true) rfl rfl (fun W hW=>Kab rfl rfl) ?_
           simp only [Act.put,sA,sZ,sS]
           refine tn 27 124 rfl rfl ?_
           simp only [Act.put,sA,sZ,sS]
           refine tn 28 125 rfl rfl ?_
           simp only [Act.put,sA,sZ,sS]
           refine Kau 29 126 rfl rfl (by kernel_rfl) rfl ?_ (.inr (by assumption))
           simp only [Act.put,sA,sZ,sS]
           refine tn 30 127 rfl rfl ?_
           simp only [Act.put,sA,sZ,sS]
           refine tk 31 128 (v:=.bool true) rfl rfl (fun W hW=>rfl) ?_
           simp only [Act.put,sA,sZ,sS]
           refine tk 32 129 (v:=.bool true) rfl rfl (fun W hW=>Kab rfl rfl) ?_
           simp only [Act.put,sA,sZ,sS]
           refine tn 33 130 rfl rfl ?_
           simp only [Act.put,sA,sZ,sS]
           refine tn 34 131 rfl rfl ?_
           simp only [Act.put,sA,sZ,sS]
           refine Kau 35 132 rfl rfl (by kernel_rfl) rfl ?_ (.inr (by assumption))
           simp only [Act.put,sA,sZ,sS]
           refine tn 36 133 rfl rfl ?_
           simp only [Act.put,sA,sZ,sS]
           refine tk 37 134 (v:=.bool true) rfl rfl (fun W hW=>rfl) ?_
           simp only [Act.put,sA,sZ,sS]
           refine tk 38 135 (v:=.bool true) rfl rfl (fun W hW=>Kab rfl rfl) ?_
           simp only [Act.put,sA,sZ,sS]
           refine tn 39 136 rfl rfl ?_
           simp only [Act.put,sA,sZ,sS]
           refine tn 40 137 rfl rfl ?_
           simp only [Act.put,sA,sZ,sS]
           refine tn 41 138 rfl rfl ?_
           simp only [Act.put,sA,sZ,sS]
           refine Kau 42 139 rfl rfl (by kernel_rfl) rfl ?_ (.inr (by assumption))
           simp only [Act.put,sA,sZ,sS]
           refine tn 43 140 rfl rfl ?_
           simp only [Act.put,sA,sZ,sS]
           refine tk 44 141 (v:=.bool true) rfl rfl (fun W hW=>rfl) ?_
           simp only [Act.put,sA,sZ,sS]
           refine tk 45 142 (v:=.bool true) rfl rfl (fun W hW=>Kab rfl rfl) ?_
           simp only [Act.put,sA,sZ,sS]
           refine tn 46 143 rfl rfl ?_
           simp only [Act.put,sA,sZ,sS]
           refine tn 47 144 rfl rfl ?_
           simp only [Act.put,sA,sZ,sS]
           refine tn 48 145 rfl rfl ?_
           simp only [Act.put,sA,sZ,sS]
           refine Kau 49 146 rfl rfl (by kernel_rfl) rfl ?_ (.inr (by assumption))
           simp only [Act.put,sA,sZ,sS]
           refine tn 50 147 rfl rfl ?_
           simp only [Act.put,sA,sZ,sS]
           refine tk 51 148 (v:=.bool true) rfl rfl (fun W hW=>rfl) ?_
           simp only [Act.put,sA,sZ,sS]
           refine done (by kernel_rfl) ?_ _
           have HB:=yh (Kaa HB1.out hS)
           clear hS c0 c1 c2 c3 c4 g1 g3 hgx hgl hlg hfs hfd hf7 hf8 c9 hri hpr hi0 hsub h1 h2 h3 h4 hB0 HY 
           go_wp2
           go_ret
           exact ⟨Kam (HALL.out.2 (by simp)).symm,Kaa HX.out.2.2.1 HB.out⟩
         | false =>
           refine tk 8 105 (v:=.bool false) rfl rfl (fun W hW=>Kal rfl rfl rfl (h2 W)) ?_
           simp only [Act.put,sA,sZ,sS]
           refine tk 9 106 (v:=.bool false) rfl rfl (fun W hW=>rfl) ?_
           simp only [Act.put,sA,sZ,sS]
           refine tk 10 107 (v:=.bool false) rfl rfl (fun W hW=>Kab rfl rfl) ?_
           simp only [Act.put,sA,sZ,sS]
           refine tk 11 108 (v:=.int .i64 (j : Int)) rfl rfl (fun W hW=>Kab rfl rfl) ?_
           simp only [Act.put,sA,sZ,sS]
           cases b3 with
           | true =>
             have c9:=c9 rfl
             have hi0:=hi0 rfl
             have hsub:=hsub rfl
             refine tk 12 109 (v:=.bool true) rfl rfl (fun W hW=>Kal rfl rfl rfl (h3 W)) ?_
             simp only [Act.put,sA,sZ,sS]
             refine tk 13 110 (v:=.bool true) rfl rfl (fun W hW=>Kab rfl rfl) ?_
             simp only [Act.put,sA,sZ,sS]
             refine tk 14 111 (v:=.pointer (some ⟨w.heap.size,1,none⟩)) rfl rfl (fun W hW=>Kac rfl rfl (fa_gr 1 (by omega) _ W)) ?_
             simp only [Act.put,sA,sZ,sS]
             refine tk 15 112 (v:=.slice (some ⟨bk,ok,none⟩) g.rels.length cr) rfl rfl (fun W hW=>Kad rfl rfl (Kae (w:=W) Tryz.underlying23 rfl (Kag hW (ltOf g1) g1))) ?_
             simp only [Act.put,sA,sZ,sS]
             refine tk 16 113 (v:=.int .i64 (j : Int)) rfl rfl (fun W hW=>Kab rfl rfl) ?_
             simp only [Act.put,sA,sZ,sS]
             refine tk 17 114 (v:=.int .i64 ((j - 1 : Nat) : Int)) rfl rfl (fun W hW=>Kal rfl rfl rfl (hsub W)) ?_
             simp only [Act.put,sA,sZ,sS]
             refine tk 18 115 (v:=.pointer (some ⟨bk,ok + (j - 1) * 5,none⟩)) rfl rfl (fun W hW=>Kaj rfl rfl rfl (hi0 W)) ?_
             simp only [Act.put,sA,sZ,sS]
             refine tk 19 116 (v:=.pointer (some ⟨bk,ok + (j - 1) * 5,none⟩)) rfl rfl (fun W hW=>Kac rfl rfl (fa_rlO _ _ W)) ?_
             simp only [Act.put,sA,sZ,sS]
             refine tk 20 117 (v:=.int .i64 id0) rfl rfl (fun W hW=>Kad rfl rfl (Kae (w:=W) Tryz.underlying2 rfl (Kag hW (ltOf c9) c9))) ?_
             simp only [Act.put,sA,sZ,sS]
             refine tk 21 118 (v:=.pointer (some ⟨wr.heap.size,0,none⟩)) rfl rfl (fun W hW=>Kac rfl rfl (fa_rl 0 (by omega) _ W)) ?_
             simp only [Act.put,sA,sZ,sS]
             refine tk 22 119 (v:=.int .i64 id) rfl rfl (fun W hW=>Kad rfl rfl (Kae (w:=W) Tryz.underlying2 rfl (Kag hW (ltOf c0) c0))) ?_
             simp only [Act.put,sA,sZ,sS]
             cases b4 with
             | true =>
               refine tk 23 120 (v:=.bool true) rfl rfl (fun W hW=>Kal rfl rfl rfl (h4 W)) ?_
               simp only [Act.put,sA,sZ,sS]
               refine tk 24 121 (v:=.bool true) rfl rfl (fun W hW=>rfl) ?_
               simp only [Act.put,sA,sZ,sS]
               refine tk 25 122 (v:=.bool true) rfl rfl (fun W hW=>rfl) ?_
               simp only [Act.put,sA,sZ,sS]
               refine tk 26 123 (v:=.bool true) rfl rfl (fun W hW=>Kab rfl rfl) ?_
               simp only [Act.put,sA,sZ,sS]
               refine tn 27 124 rfl rfl ?_
               simp only [Act.put,sA,sZ,sS]
               refine tn 28 125 rfl rfl ?_
               simp only [Act.put,sA,sZ,sS]
               refine Kau 29 126 rfl rfl (by kernel_rfl) rfl ?_ (.inr (by assumption))
               simp only [Act.put,sA,sZ,sS]
               refine tn 30 127 rfl rfl ?_
               simp only [Act.put,sA,sZ,sS]
               refine tk 31 128 (v:=.bool true) rfl rfl (fun W hW=>rfl) ?_
               simp only [Act.put,sA,sZ,sS]
               refine tk 32 129 (v:=.bool true) rfl rfl (fun W hW=>Kab rfl rfl) ?_
               simp only [Act.put,sA,sZ,sS]
               refine tn 33 130 rfl rfl ?_
               simp only [Act.put,sA,sZ,sS]
               refine tn 34 131 rfl rfl ?_
               simp only [Act.put,sA,sZ,sS]
               refine Kau 35 132 rfl rfl (by kernel_rfl) rfl ?_ (.inr (by assumption))
               simp only [Act.put,sA,sZ,sS]
               refine tn 36 133 rfl rfl ?_
               simp only [Act.put,sA,sZ,sS]
               refine tk 37 134 (v:=.bool true) rfl rfl (fun W hW=>rfl) ?_
               simp only [Act.put,sA,sZ,sS]
               refine tk 38 135 (v:=.bool true) rfl rfl (fun W hW=>Kab rfl rfl) ?_
               simp only [Act.put,sA,sZ,sS]
               refine tn 39 136 rfl rfl ?_
               simp only [Act.put,sA,sZ,sS]
               refine tn 40 137 rfl rfl ?_
               simp only [Act.put,sA,sZ,sS]
               refine tn 41 138 rfl rfl ?_
               simp only [Act.put,sA,sZ,sS]
               refine Kau 42 139 rfl rfl (by kernel_rfl) rfl ?_ (.inr (by assumption))
               simp only [Act.put,sA,sZ,sS]
               refine tn 43 140 rfl rfl ?_
               simp only [Act.put,sA,sZ,sS]
               refine tk 44 141 (v:=.bool true) rfl rfl (fun W hW=>rfl) ?_
               simp only [Act.put,sA,sZ,sS]
               refine tk 45 142 (v:=.bool true) rfl rfl (fun W hW=>Kab rfl rfl) ?_
               simp only [Act.put,sA,sZ,sS]
               refine tn 46 143 rfl rfl ?_
               simp only [Act.put,sA,sZ,sS]
               refine tn 47 144 rfl rfl ?_
               simp only [Act.put,sA,sZ,sS]
               refine tn 48 145 rfl rfl ?_
               simp only [Act.put,sA,sZ,sS]
               refine Kau 49 146 rfl rfl (by kernel_rfl) rfl ?_ (.inr (by assumption))
               simp only [Act.put,sA,sZ,sS]
               refine tn 50 147 rfl rfl ?_
               simp only [Act.put,sA,sZ,sS]
               refine tk 51 148 (v:=.bool true) rfl rfl (fun W hW=>rfl) ?_
               simp only [Act.put,sA,sZ,sS]
               refine done (by kernel_rfl) ?_ _
               have HB:=yh (Kaa HB1.out hS)
               clear hS c0 c1 c2 c3 c4 g1 g3 hgx hgl hlg hfs hfd hf7 hf8 c9 hri hpr hi0 hsub h1 h2 h3 h4 hB0 HY 
               go_wp2
               go_ret
               exact ⟨Kam (HALL.out.2 (by simp)).symm,Kaa HX.out.2.2.1 HB.out⟩
             | false =>
               refine tk 23 120 (v:=.bool false) rfl rfl (fun W hW=>Kal rfl rfl rfl (h4 W)) ?_
               simp only [Act.put,sA,sZ,sS]
               refine tk 24 121 (v:=.bool false) rfl rfl (fun W hW=>rfl) ?_
               simp only [Act.put,sA,sZ,sS]
               refine tk 25 122 (v:=.bool false) rfl rfl (fun W hW=>rfl) ?_
               simp only [Act.put,sA,sZ,sS]
               refine tk 26 123 (v:=.bool false) rfl rfl (fun W hW=>Kab rfl rfl) ?_
               simp only [Act.put,sA,sZ,sS]
               refine tk 27 124 (v:=.pointer (some ⟨wr.heap.size,3,none⟩)) rfl rfl (fun W hW=>Kac rfl rfl (fa_rl 3 (by omega) _ W)) ?_
               simp only [Act.put,sA,sZ,sS]
               refine tk 28 125 (v:=.string (strB ty)) rfl rfl (fun W hW=>Kad rfl rfl (Kae (w:=W) Tryz.underlying9 rfl (Kag hW (ltOf c3) c3))) ?_
               simp only [Act.put,sA,sZ,sS]
               cases b5 with
               | true =>
                 refine Kao 29 126 rfl rfl (by kernel_rfl) rfl (Kan [.string (strB ty)] rfl rfl Tryz.func35 (by kernel_rfl) (by kernel_rfl)) ?_
                 refine (hri _).mono ?_
                 rintro e W29 ⟨rfl,rfl⟩
                 have hS29:=hS
                 refine ⟨_,rfl,.inr hS29,?_⟩
                 simp only [Act.put,sA,sZ,sS]
                 refine tk 30 127 (v:=.bool false) rfl rfl (fun W hW=>Kar (b:=true) rfl rfl) ?_
                 simp only [Act.put,sA,sZ,sS]
                 refine tk 31 128 (v:=.bool false) rfl rfl (fun W hW=>rfl) ?_
                 simp only [Act.put,sA,sZ,sS]
                 refine tk 32 129 (v:=.bool false) rfl rfl (fun W hW=>Kab rfl rfl) ?_
                 simp only [Act.put,sA,sZ,sS]
                 refine tk 33 130 (v:=.pointer (some ⟨wr.heap.size,4,none⟩)) rfl rfl (fun W hW=>Kac rfl rfl (fa_rl 4 (by omega) _ W)) ?_
                 simp only [Act.put,sA,sZ,sS]
                 refine tk 34 131 (v:=.slice pp np cp) rfl rfl (fun W hW=>Kad rfl rfl (Kae (w:=W) Tryz.underlying27 rfl (Kag hW (ltOf c4) c4))) ?_
                 simp only [Act.put,sA,sZ,sS]
                 cases b6 with
                 | true =>
                   refine Kao 35 132 rfl rfl (by kernel_rfl) rfl (Kan [.slice pp np cp] rfl rfl Tryz.func34 (by kernel_rfl) (by kernel_rfl)) ?_
                   refine (hpr _ hS29).mono ?_
                   rintro e W35 ⟨rfl,hb35⟩
                   have hS35:=Kaa hS29 hb35
                   refine ⟨_,rfl,.inr hS35,?_⟩
                   simp only [Act.put,sA,sZ,sS]
                   refine tk 36 133 (v:=.bool false) rfl rfl (fun W hW=>Kar (b:=true) rfl rfl) ?_
                   simp only [Act.put,sA,sZ,sS]
                   refine tk 37 134 (v:=.bool false) rfl rfl (fun W hW=>rfl) ?_
                   simp only [Act.put,sA,sZ,sS]
                   refine tk 38 135 (v:=.bool false) rfl rfl (fun W hW=>Kab rfl rfl) ?_
                   simp only [Act.put,sA,sZ,sS]
                   refine tk 39 136 (v:=.agg xg) rfl rfl (fun W hW=>Kad rfl rfl (hlg W (Kak hW hgl hgx))) ?_
                   simp only [Act.put,sA,sZ,sS]
                   refine tk 40 137 (v:=.pointer (some ⟨wr.heap.size,1,none⟩)) rfl rfl (fun W hW=>Kac rfl rfl (fa_rl 1 (by omega) _ W)) ?_
                   simp only [Act.put,sA,sZ,sS]
                   refine tk 41 138 (v:=.int .i64 src) rfl rfl (fun W hW=>Kad rfl rfl (Kae (w:=W) Tryz.underlying2 rfl (Kag hW (ltOf c1) c1))) ?_
                   simp only [Act.put,sA,sZ,sS]
                   refine Kao 42 139 rfl rfl (by kernel_rfl) rfl (Kan [.agg xg,.int .i64 src] rfl rfl Tryz.func36 (by kernel_rfl) (by kernel_rfl)) ?_
                   refine (hfs _ hS35).mono ?_
                   rintro e W42 ⟨rfl,hb42⟩
                   have hS42:=Kaa hS35 hb42
                   refine ⟨_,rfl,.inr hS42,?_⟩
                   simp only [Act.put,sA,sZ,sS]
                   cases b7 with
                   | true =>
                     refine tk 43 140 (v:=.bool false) rfl rfl (fun W hW=>Kal rfl rfl rfl (hf7 W)) ?_
                     simp only [Act.put,sA,sZ,sS]
                     refine tk 44 141 (v:=.bool false) rfl rfl (fun W hW=>rfl) ?_
                     simp only [Act.put,sA,sZ,sS]
                     refine tk 45 142 (v:=.bool false) rfl rfl (fun W hW=>Kab rfl rfl) ?_
                     simp only [Act.put,sA,sZ,sS]
                     refine tk 46 143 (v:=.agg xg) rfl rfl (fun W hW=>Kad rfl rfl (hlg W (Kak hW hgl hgx))) ?_
                     simp only [Act.put,sA,sZ,sS]
                     refine tk 47 144 (v:=.pointer (some ⟨wr.heap.size,2,none⟩)) rfl rfl (fun W hW=>Kac rfl rfl (fa_rl 2 (by omega) _ W)) ?_
                     simp only [Act.put,sA,sZ,sS]
                     refine tk 48 145 (v:=.int .i64 dst) rfl rfl (fun W hW=>Kad rfl rfl (Kae (w:=W) Tryz.underlying2 rfl (Kag hW (ltOf c2) c2))) ?_
                     simp only [Act.put,sA,sZ,sS]
                     refine Kao 49 146 rfl rfl (by kernel_rfl) rfl (Kan [.agg xg,.int .i64 dst] rfl rfl Tryz.func36 (by kernel_rfl) (by kernel_rfl)) ?_
                     refine (hfd _ hS42).mono ?_
                     rintro e W49 ⟨rfl,hb49⟩
                     have hS49:=Kaa hS42 hb49
                     refine ⟨_,rfl,.inr hS49,?_⟩
                     simp only [Act.put,sA,sZ,sS]
                     cases b8 with
                     | true =>
                       refine tk 50 147 (v:=.bool false) rfl rfl (fun W hW=>Kal rfl rfl rfl (hf8 W)) ?_
                       simp only [Act.put,sA,sZ,sS]
                       refine tk 51 148 (v:=.bool false) rfl rfl (fun W hW=>rfl) ?_
                       simp only [Act.put,sA,sZ,sS]
                       refine done (by kernel_rfl) ?_ _
                       have HB:=yh (Kaa HB1.out hS49)
                       clear hS hS29 hS35 hb35 hS42 hb42 hS49 hb49 c0 c1 c2 c3 c4 g1 g3 hgx hgl hlg hfs hfd hf7 hf8 c9 hri hpr hi0 hsub h1 h2 h3 h4 hB0 HY 
                       go_wp2
                       go_roundw
                       case rel=>exact ⟨j + 1,hlt1,by go_num,yh ⟨HALL.out.1 rfl,HB.out⟩⟩
                       case measure=>simp [intOf];omega
                     | false =>
                       refine tk 50 147 (v:=.bool true) rfl rfl (fun W hW=>Kal rfl rfl rfl (hf8 W)) ?_
                       simp only [Act.put,sA,sZ,sS]
                       refine tk 51 148 (v:=.bool true) rfl rfl (fun W hW=>rfl) ?_
                       simp only [Act.put,sA,sZ,sS]
                       refine done (by kernel_rfl) ?_ _
                       have HB:=yh (Kaa HB1.out hS49)
                       clear hS hS29 hS35 hb35 hS42 hb42 hS49 hb49 c0 c1 c2 c3 c4 g1 g3 hgx hgl hlg hfs hfd hf7 hf8 c9 hri hpr hi0 hsub h1 h2 h3 h4 hB0 HY 
                       go_wp2
                       go_ret
                       exact ⟨Kam (HALL.out.2 (by simp)).symm,Kaa HX.out.2.2.1 HB.out⟩
                   | false =>
                     refine tk 43 140 (v:=.bool true) rfl rfl (fun W hW=>Kal rfl rfl rfl (hf7 W)) ?_
                     simp only [Act.put,sA,sZ,sS]
                     refine tk 44 141 (v:=.bool true) rfl rfl (fun W hW=>rfl) ?_
                     simp only [Act.put,sA,sZ,sS]
                     refine tk 45 142 (v:=.bool true) rfl rfl (fun W hW=>Kab rfl rfl) ?_
                     simp only [Act.put,sA,sZ,sS]
                     refine tn 46 143 rfl rfl ?_
                     simp only [Act.put,sA,sZ,sS]
                     refine tn 47 144 rfl rfl ?_
                     simp only [Act.put,sA,sZ,sS]
                     refine tn 48 145 rfl rfl ?_
                     simp only [Act.put,sA,sZ,sS]
                     refine Kau 49 146 rfl rfl (by kernel_rfl) rfl ?_ (.inr (by assumption))
                     simp only [Act.put,sA,sZ,sS]
                     refine tn 50 147 rfl rfl ?_
                     simp only [Act.put,sA,sZ,sS]
                     refine tk 51 148 (v:=.bool true) rfl rfl (fun W hW=>rfl) ?_
                     simp only [Act.put,sA,sZ,sS]
                     refine done (by kernel_rfl) ?_ _
                     have HB:=yh (Kaa HB1.out hS42)
                     clear hS hS29 hS35 hb35 hS42 hb42 c0 c1 c2 c3 c4 g1 g3 hgx hgl hlg hfs hfd hf7 hf8 c9 hri hpr hi0 hsub h1 h2 h3 h4 hB0 HY 
                     go_wp2
                     go_ret
                     exact ⟨Kam (HALL.out.2 (by simp)).symm,Kaa HX.out.2.2.1 HB.out⟩
                 | false =>
                   refine Kao 35 132 rfl rfl (by kernel_rfl) rfl (Kan [.slice pp np cp] rfl rfl Tryz.func34 (by kernel_rfl) (by kernel_rfl)) ?_
                   refine (hpr _ hS29).mono ?_
                   rintro e W35 ⟨rfl,hb35⟩
                   have hS35:=Kaa hS29 hb35
                   refine ⟨_,rfl,.inr hS35,?_⟩
                   simp only [Act.put,sA,sZ,sS]
                   refine tk 36 133 (v:=.bool true) rfl rfl (fun W hW=>Kar (b:=false) rfl rfl) ?_
                   simp only [Act.put,sA,sZ,sS]
                   refine tk 37 134 (v:=.bool true) rfl rfl (fun W hW=>rfl) ?_
                   simp only [Act.put,sA,sZ,sS]
                   refine tk 38 135 (v:=.bool true) rfl rfl (fun W hW=>Kab rfl rfl) ?_
                   simp only [Act.put,sA,sZ,sS]
                   refine tn 39 136 rfl rfl ?_
                   simp only [Act.put,sA,sZ,sS]
                   refine tn 40 137 rfl rfl ?_
                   simp only [Act.put,sA,sZ,sS]
                   refine tn 41 138 rfl rfl ?_
                   simp only [Act.put,sA,sZ,sS]
                   refine Kau 42 139 rfl rfl (by kernel_rfl) rfl ?_ (.inr (by assumption))
                   simp only [Act.put,sA,sZ,sS]
                   refine tn 43 140 rfl rfl ?_
                   simp only [Act.put,sA,sZ,sS]
                   refine tk 44 141 (v:=.bool true) rfl rfl (fun W hW=>rfl) ?_
                   simp only [Act.put,sA,sZ,sS]
                   refine tk 45 142 (v:=.bool true) rfl rfl (fun W hW=>Kab rfl rfl) ?_
                   simp only [Act.put,sA,sZ,sS]
                   refine tn 46 143 rfl rfl ?_
                   simp only [Act.put,sA,sZ,sS]
                   refine tn 47 144 rfl rfl ?_
                   simp only [Act.put,sA,sZ,sS]
                   refine tn 48 145 rfl rfl ?_
                   simp only [Act.put,sA,sZ,sS]
                   refine Kau 49 146 rfl rfl (by kernel_rfl) rfl ?_ (.inr (by assumption))
                   simp only [Act.put,sA,sZ,sS]
                   refine tn 50 147 rfl rfl ?_
                   simp only [Act.put,sA,sZ,sS]
                   refine tk 51 148 (v:=.bool true) rfl rfl (fun W hW=>rfl) ?_
                   simp only [Act.put,sA,sZ,sS]
                   refine done (by kernel_rfl) ?_ _
                   have HB:=yh (Kaa HB1.out hS35)
                   clear hS hS29 hS35 hb35 c0 c1 c2 c3 c4 g1 g3 hgx hgl hlg hfs hfd hf7 hf8 c9 hri hpr hi0 hsub h1 h2 h3 h4 hB0 HY 
                   go_wp2
                   go_ret
                   exact ⟨Kam (HALL.out.2 (by simp)).symm,Kaa HX.out.2.2.1 HB.out⟩
               | false =>
                 refine Kao 29 126 rfl rfl (by kernel_rfl) rfl (Kan [.string (strB ty)] rfl rfl Tryz.func35 (by kernel_rfl) (by kernel_rfl)) ?_
                 refine (hri _).mono ?_
                 rintro e W29 ⟨rfl,rfl⟩
                 have hS29:=hS
                 refine ⟨_,rfl,.inr hS29,?_⟩
                 simp only [Act.put,sA,sZ,sS]
                 refine tk 30 127 (v:=.bool true) rfl rfl (fun W hW=>Kar (b:=false) rfl rfl) ?_
                 simp only [Act.put,sA,sZ,sS]
                 refine tk 31 128 (v:=.bool true) rfl rfl (fun W hW=>rfl) ?_
                 simp only [Act.put,sA,sZ,sS]
                 refine tk 32 129 (v:=.bool true) rfl rfl (fun W hW=>Kab rfl rfl) ?_
                 simp only [Act.put,sA,sZ,sS]
                 refine tn 33 130 rfl rfl ?_
                 simp only [Act.put,sA,sZ,sS]
                 refine tn 34 131 rfl rfl ?_
                 simp only [Act.put,sA,sZ,sS]
                 refine Kau 35 132 rfl rfl (by kernel_rfl) rfl ?_ (.inr (by assumption))
                 simp only [Act.put,sA,sZ,sS]
                 refine tn 36 133 rfl rfl ?_
                 simp only [Act.put,sA,sZ,sS]
                 refine tk 37 134 (v:=.bool true) rfl rfl (fun W hW=>rfl) ?_
                 simp only [Act.put,sA,sZ,sS]
                 refine tk 38 135 (v:=.bool true) rfl rfl (fun W hW=>Kab rfl rfl) ?_
                 simp only [Act.put,sA,sZ,sS]
                 refine tn 39 136 rfl rfl ?_
                 simp only [Act.put,sA,sZ,sS]
                 refine tn 40 137 rfl rfl ?_
                 simp only [Act.put,sA,sZ,sS]
                 refine tn 41 138 rfl rfl ?_
                 simp only [Act.put,sA,sZ,sS]
                 refine Kau 42 139 rfl rfl (by kernel_rfl) rfl ?_ (.inr (by assumption))
                 simp only [Act.put,sA,sZ,sS]
                 refine tn 43 140 rfl rfl ?_
                 simp only [Act.put,sA,sZ,sS]
                 refine tk 44 141 (v:=.bool true) rfl rfl (fun W hW=>rfl) ?_
                 simp only [Act.put,sA,sZ,sS]
                 refine tk 45 142 (v:=.bool true) rfl rfl (fun W hW=>Kab rfl rfl) ?_
                 simp only [Act.put,sA,sZ,sS]
                 refine tn 46 143 rfl rfl ?_
                 simp only [Act.put,sA,sZ,sS]
                 refine tn 47 144 rfl rfl ?_
                 simp only [Act.put,sA,sZ,sS]
                 refine tn 48 145 rfl rfl ?_
                 simp only [Act.put,sA,sZ,sS]
                 refine Kau 49 146 rfl rfl (by kernel_rfl) rfl ?_ (.inr (by assumption))
                 simp only [Act.put,sA,sZ,sS]
                 refine tn 50 147 rfl rfl ?_
                 simp only [Act.put,sA,sZ,sS]
                 refine tk 51 148 (v:=.bool true) rfl rfl (fun W hW=>rfl) ?_
                 simp only [Act.put,sA,sZ,sS]
                 refine done (by kernel_rfl) ?_ _
                 have HB:=yh (Kaa HB1.out hS29)
                 clear hS hS29 c0 c1 c2 c3 c4 g1 g3 hgx hgl hlg hfs hfd hf7 hf8 c9 hri hpr hi0 hsub h1 h2 h3 h4 hB0 HY 
                 go_wp2
                 go_ret
                 exact ⟨Kam (HALL.out.2 (by simp)).symm,Kaa HX.out.2.2.1 HB.out⟩
           | false =>
             refine tk 12 109 (v:=.bool false) rfl rfl (fun W hW=>Kal rfl rfl rfl (h3 W)) ?_
             simp only [Act.put,sA,sZ,sS]
             refine tk 13 110 (v:=.bool false) rfl rfl (fun W hW=>Kab rfl rfl) ?_
             simp only [Act.put,sA,sZ,sS]
             refine tn 14 111 rfl rfl ?_
             simp only [Act.put,sA,sZ,sS]
             refine tn 15 112 rfl rfl ?_
             simp only [Act.put,sA,sZ,sS]
             refine tn 16 113 rfl rfl ?_
             simp only [Act.put,sA,sZ,sS]
             refine tn 17 114 rfl rfl ?_
             simp only [Act.put,sA,sZ,sS]
             refine tn 18 115 rfl rfl ?_
             simp only [Act.put,sA,sZ,sS]
             refine tn 19 116 rfl rfl ?_
             simp only [Act.put,sA,sZ,sS]
             refine tn 20 117 rfl rfl ?_
             simp only [Act.put,sA,sZ,sS]
             refine tn 21 118 rfl rfl ?_
             simp only [Act.put,sA,sZ,sS]
             refine tn 22 119 rfl rfl ?_
             simp only [Act.put,sA,sZ,sS]
             refine tn 23 120 rfl rfl ?_
             simp only [Act.put,sA,sZ,sS]
             refine tk 24 121 (v:=.bool false) rfl rfl (fun W hW=>rfl) ?_
             simp only [Act.put,sA,sZ,sS]
             refine tk 25 122 (v:=.bool false) rfl rfl (fun W hW=>rfl) ?_
             simp only [Act.put,sA,sZ,sS]
             refine tk 26 123 (v:=.bool false) rfl rfl (fun W hW=>Kab rfl rfl) ?_
             simp only [Act.put,sA,sZ,sS]
             refine tk 27 124 (v:=.pointer (some ⟨wr.heap.size,3,none⟩)) rfl rfl (fun W hW=>Kac rfl rfl (fa_rl 3 (by omega) _ W)) ?_
             simp only [Act.put,sA,sZ,sS]
             refine tk 28 125 (v:=.string (strB ty)) rfl rfl (fun W hW=>Kad rfl rfl (Kae (w:=W) Tryz.underlying9 rfl (Kag hW (ltOf c3) c3))) ?_
             simp only [Act.put,sA,sZ,sS]
             cases b5 with
             | true =>
               refine Kao 29 126 rfl rfl (by kernel_rfl) rfl (Kan [.string (strB ty)] rfl rfl Tryz.func35 (by kernel_rfl) (by kernel_rfl)) ?_
               refine (hri _).mono ?_
               rintro e W29 ⟨rfl,rfl⟩
               have hS29:=hS
               refine ⟨_,rfl,.inr hS29,?_⟩
               simp only [Act.put,sA,sZ,sS]
               refine tk 30 127 (v:=.bool false) rfl rfl (fun W hW=>Kar (b:=true) rfl rfl) ?_
               simp only [Act.put,sA,sZ,sS]
               refine tk 31 128 (v:=.bool false) rfl rfl (fun W hW=>rfl) ?_
               simp only [Act.put,sA,sZ,sS]
               refine tk 32 129 (v:=.bool false) rfl rfl (fun W hW=>Kab rfl rfl) ?_
               simp only [Act.put,sA,sZ,sS]
               refine tk 33 130 (v:=.pointer (some ⟨wr.heap.size,4,none⟩)) rfl rfl (fun W hW=>Kac rfl rfl (fa_rl 4 (by omega) _ W)) ?_
               simp only [Act.put,sA,sZ,sS]
               refine tk 34 131 (v:=.slice pp np cp) rfl rfl (fun W hW=>Kad rfl rfl (Kae (w:=W) Tryz.underlying27 rfl (Kag hW (ltOf c4) c4))) ?_
               simp only [Act.put,sA,sZ,sS]
               cases b6 with
               | true =>
                 refine Kao 35 132 rfl rfl (by kernel_rfl) rfl (Kan [.slice pp np cp] rfl rfl Tryz.func34 (by kernel_rfl) (by kernel_rfl)) ?_
                 refine (hpr _ hS29).mono ?_
                 rintro e W35 ⟨rfl,hb35⟩
                 have hS35:=Kaa hS29 hb35
                 refine ⟨_,rfl,.inr hS35,?_⟩
                 simp only [Act.put,sA,sZ,sS]
                 refine tk 36 133 (v:=.bool false) rfl rfl (fun W hW=>Kar (b:=true) rfl rfl) ?_
                 simp only [Act.put,sA,sZ,sS]
                 refine tk 37 134 (v:=.bool false) rfl rfl (fun W hW=>rfl) ?_
                 simp only [Act.put,sA,sZ,sS]
                 refine tk 38 135 (v:=.bool false) rfl rfl (fun W hW=>Kab rfl rfl) ?_
                 simp only [Act.put,sA,sZ,sS]
                 refine tk 39 136 (v:=.agg xg) rfl rfl (fun W hW=>Kad rfl rfl (hlg W (Kak hW hgl hgx))) ?_
                 simp only [Act.put,sA,sZ,sS]
                 refine tk 40 137 (v:=.pointer (some ⟨wr.heap.size,1,none⟩)) rfl rfl (fun W hW=>Kac rfl rfl (fa_rl 1 (by omega) _ W)) ?_
                 simp only [Act.put,sA,sZ,sS]
                 refine tk 41 138 (v:=.int .i64 src) rfl rfl (fun W hW=>Kad rfl rfl (Kae (w:=W) Tryz.underlying2 rfl (Kag hW (ltOf c1) c1))) ?_
                 simp only [Act.put,sA,sZ,sS]
                 refine Kao 42 139 rfl rfl (by kernel_rfl) rfl (Kan [.agg xg,.int .i64 src] rfl rfl Tryz.func36 (by kernel_rfl) (by kernel_rfl)) ?_
                 refine (hfs _ hS35).mono ?_
                 rintro e W42 ⟨rfl,hb42⟩
                 have hS42:=Kaa hS35 hb42
                 refine ⟨_,rfl,.inr hS42,?_⟩
                 simp only [Act.put,sA,sZ,sS]
                 cases b7 with
                 | true =>
                   refine tk 43 140 (v:=.bool false) rfl rfl (fun W hW=>Kal rfl rfl rfl (hf7 W)) ?_
                   simp only [Act.put,sA,sZ,sS]
                   refine tk 44 141 (v:=.bool false) rfl rfl (fun W hW=>rfl) ?_
                   simp only [Act.put,sA,sZ,sS]
                   refine tk 45 142 (v:=.bool false) rfl rfl (fun W hW=>Kab rfl rfl) ?_
                   simp only [Act.put,sA,sZ,sS]
                   refine tk 46 143 (v:=.agg xg) rfl rfl (fun W hW=>Kad rfl rfl (hlg W (Kak hW hgl hgx))) ?_
                   simp only [Act.put,sA,sZ,sS]
                   refine tk 47 144 (v:=.pointer (some ⟨wr.heap.size,2,none⟩)) rfl rfl (fun W hW=>Kac rfl rfl (fa_rl 2 (by omega) _ W)) ?_
                   simp only [Act.put,sA,sZ,sS]
                   refine tk 48 145 (v:=.int .i64 dst) rfl rfl (fun W hW=>Kad rfl rfl (Kae (w:=W) Tryz.underlying2 rfl (Kag hW (ltOf c2) c2))) ?_
                   simp only [Act.put,sA,sZ,sS]
                   refine Kao 49 146 rfl rfl (by kernel_rfl) rfl (Kan [.agg xg,.int .i64 dst] rfl rfl Tryz.func36 (by kernel_rfl) (by kernel_rfl)) ?_
                   refine (hfd _ hS42).mono ?_
                   rintro e W49 ⟨rfl,hb49⟩
                   have hS49:=Kaa hS42 hb49
                   refine ⟨_,rfl,.inr hS49,?_⟩
                   simp only [Act.put,sA,sZ,sS]
                   cases b8 with
                   | true =>
                     refine tk 50 147 (v:=.bool false) rfl rfl (fun W hW=>Kal rfl rfl rfl (hf8 W)) ?_
                     simp only [Act.put,sA,sZ,sS]
                     refine tk 51 148 (v:=.bool false) rfl rfl (fun W hW=>rfl) ?_
                     simp only [Act.put,sA,sZ,sS]
                     refine done (by kernel_rfl) ?_ _
                     have HB:=yh (Kaa HB1.out hS49)
                     clear hS hS29 hS35 hb35 hS42 hb42 hS49 hb49 c0 c1 c2 c3 c4 g1 g3 hgx hgl hlg hfs hfd hf7 hf8 c9 hri hpr hi0 hsub h1 h2 h3 h4 hB0 HY 
                     go_wp2
                     go_roundw
                     case rel=>exact ⟨j + 1,hlt1,by go_num,yh ⟨HALL.out.1 rfl,HB.out⟩⟩
                     case measure=>simp [intOf];omega
                   | false =>
                     refine tk 50 147 (v:=.bool true) rfl rfl (fun W hW=>Kal rfl rfl rfl (hf8 W)) ?_
                     simp only [Act.put,sA,sZ,sS]
                     refine tk 51 148 (v:=.bool true) rfl rfl (fun W hW=>rfl) ?_
                     simp only [Act.put,sA,sZ,sS]
                     refine done (by kernel_rfl) ?_ _
                     have HB:=yh (Kaa HB1.out hS49)
                     clear hS hS29 hS35 hb35 hS42 hb42 hS49 hb49 c0 c1 c2 c3 c4 g1 g3 hgx hgl hlg hfs hfd hf7 hf8 c9 hri hpr hi0 hsub h1 h2 h3 h4 hB0 HY 
                     go_wp2
                     go_ret
                     exact ⟨Kam (HALL.out.2 (by simp)).symm,Kaa HX.out.2.2.1 HB.out⟩
                 | false =>
                   refine tk 43 140 (v:=.bool true) rfl rfl (fun W hW=>Kal rfl rfl rfl (hf7 W)) ?_
                   simp only [Act.put,sA,sZ,sS]
                   refine tk 44 141 (v:=.bool true) rfl rfl (fun W hW=>rfl) ?_
                   simp only [Act.put,sA,sZ,sS]
                   refine tk 45 142 (v:=.bool true) rfl rfl (fun W hW=>Kab rfl rfl) ?_
                   simp only [Act.put,sA,sZ,sS]
                   refine tn 46 143 rfl rfl ?_
                   simp only [Act.put,sA,sZ,sS]
                   refine tn 47 144 rfl rfl ?_
                   simp only [Act.put,sA,sZ,sS]
                   refine tn 48 145 rfl rfl ?_
                   simp only [Act.put,sA,sZ,sS]
                   refine Kau 49 146 rfl rfl (by kernel_rfl) rfl ?_ (.inr (by assumption))
                   simp only [Act.put,sA,sZ,sS]
                   refine tn 50 147 rfl rfl ?_
                   simp only [Act.put,sA,sZ,sS]
                   refine tk 51 148 (v:=.bool true) rfl rfl (fun W hW=>rfl) ?_
                   simp only [Act.put,sA,sZ,sS]
                   refine done (by kernel_rfl) ?_ _
                   have HB:=yh (Kaa HB1.out hS42)
                   clear hS hS29 hS35 hb35 hS42 hb42 c0 c1 c2 c3 c4 g1 g3 hgx hgl hlg hfs hfd hf7 hf8 c9 hri hpr hi0 hsub h1 h2 h3 h4 hB0 HY 
                   go_wp2
                   go_ret
                   exact ⟨Kam (HALL.out.2 (by simp)).symm,Kaa HX.out.2.2.1 HB.out⟩
               | false =>
                 refine Kao 35 132 rfl rfl (by kernel_rfl) rfl (Kan [.slice pp np cp] rfl rfl Tryz.func34 (by kernel_rfl) (by kernel_rfl)) ?_
                 refine (hpr _ hS29).mono ?_
                 rintro e W35 ⟨rfl,hb35⟩
                 have hS35:=Kaa hS29 hb35
                 refine ⟨_,rfl,.inr hS35,?_⟩
                 simp only [Act.put,sA,sZ,sS]
                 refine tk 36 133 (v:=.bool true) rfl rfl (fun W hW=>Kar (b:=false) rfl rfl) ?_
                 simp only [Act.put,sA,sZ,sS]
                 refine tk 37 134 (v:=.bool true) rfl rfl (fun W hW=>rfl) ?_
                 simp only [Act.put,sA,sZ,sS]
                 refine tk 38 135 (v:=.bool true) rfl rfl (fun W hW=>Kab rfl rfl) ?_
                 simp only [Act.put,sA,sZ,sS]
                 refine tn 39 136 rfl rfl ?_
                 simp only [Act.put,sA,sZ,sS]
                 refine tn 40 137 rfl rfl ?_
                 simp only [Act.put,sA,sZ,sS]
                 refine tn 41 138 rfl rfl ?_
                 simp only [Act.put,sA,sZ,sS]
                 refine Kau 42 139 rfl rfl (by kernel_rfl) rfl ?_ (.inr (by assumption))
                 simp only [Act.put,sA,sZ,sS]
                 refine tn 43 140 rfl rfl ?_
                 simp only [Act.put,sA,sZ,sS]
                 refine tk 44 141 (v:=.bool true) rfl rfl (fun W hW=>rfl) ?_
                 simp only [Act.put,sA,sZ,sS]
                 refine tk 45 142 (v:=.bool true) rfl rfl (fun W hW=>Kab rfl rfl) ?_
                 simp only [Act.put,sA,sZ,sS]
                 refine tn 46 143 rfl rfl ?_
                 simp only [Act.put,sA,sZ,sS]
                 refine tn 47 144 rfl rfl ?_
                 simp only [Act.put,sA,sZ,sS]
                 refine tn 48 145 rfl rfl ?_
                 simp only [Act.put,sA,sZ,sS]
                 refine Kau 49 146 rfl rfl (by kernel_rfl) rfl ?_ (.inr (by assumption))
                 simp only [Act.put,sA,sZ,sS]
                 refine tn 50 147 rfl rfl ?_
                 simp only [Act.put,sA,sZ,sS]
                 refine tk 51 148 (v:=.bool true) rfl rfl (fun W hW=>rfl) ?_
                 simp only [Act.put,sA,sZ,sS]
                 refine done (by kernel_rfl) ?_ _
                 have HB:=yh (Kaa HB1.out hS35)
                 clear hS hS29 hS35 hb35 c0 c1 c2 c3 c4 g1 g3 hgx hgl hlg hfs hfd hf7 hf8 c9 hri hpr hi0 hsub h1 h2 h3 h4 hB0 HY 
                 go_wp2
                 go_ret
                 exact ⟨Kam (HALL.out.2 (by simp)).symm,Kaa HX.out.2.2.1 HB.out⟩
             | false =>
               refine Kao 29 126 rfl rfl (by kernel_rfl) rfl (Kan [.string (strB ty)] rfl rfl Tryz.func35 (by kernel_rfl) (by kernel_rfl)) ?_
               refine (hri _).mono ?_
               rintro e W29 ⟨rfl,rfl⟩
               have hS29:=hS
               refine ⟨_,rfl,.inr hS29,?_⟩
               simp only [Act.put,sA,sZ,sS]
               refine tk 30 127 (v:=.bool true) rfl rfl (fun W hW=>Kar (b:=false) rfl rfl) ?_
               simp only [Act.put,sA,sZ,sS]
               refine tk 31 128 (v:=.bool true) rfl rfl (fun W hW=>rfl) ?_
               simp only [Act.put,sA,sZ,sS]
               refine tk 32 129 (v:=.bool true) rfl rfl (fun W hW=>Kab rfl rfl) ?_
               simp only [Act.put,sA,sZ,sS]
               refine tn 33 130 rfl rfl ?_
               simp only [Act.put,sA,sZ,sS]
               refine tn 34 131 rfl rfl ?_
               simp only [Act.put,sA,sZ,sS]
               refine Kau 35 132 rfl rfl (by kernel_rfl) rfl ?_ (.inr (by assumption))
               simp only [Act.put,sA,sZ,sS]
               refine tn 36 133 rfl rfl ?_
               simp only [Act.put,sA,sZ,sS]
               refine tk 37 134 (v:=.bool true) rfl rfl (fun W hW=>rfl) ?_
               simp only [Act.put,sA,sZ,sS]
               refine tk 38 135 (v:=.bool true) rfl rfl (fun W hW=>Kab rfl rfl) ?_
               simp only [Act.put,sA,sZ,sS]
               refine tn 39 136 rfl rfl ?_
               simp only [Act.put,sA,sZ,sS]
               refine tn 40 137 rfl rfl ?_
               simp only [Act.put,sA,sZ,sS]
               refine tn 41 138 rfl rfl ?_
               simp only [Act.put,sA,sZ,sS]
               refine Kau 42 139 rfl rfl (by kernel_rfl) rfl ?_ (.inr (by assumption))
               simp only [Act.put,sA,sZ,sS]
               refine tn 43 140 rfl rfl ?_
               simp only [Act.put,sA,sZ,sS]
               refine tk 44 141 (v:=.bool true) rfl rfl (fun W hW=>rfl) ?_
               simp only [Act.put,sA,sZ,sS]
               refine tk 45 142 (v:=.bool true) rfl rfl (fun W hW=>Kab rfl rfl) ?_
               simp only [Act.put,sA,sZ,sS]
               refine tn 46 143 rfl rfl ?_
               simp only [Act.put,sA,sZ,sS]
               refine tn 47 144 rfl rfl ?_
               simp only [Act.put,sA,sZ,sS]
               refine tn 48 145 rfl rfl ?_
               simp only [Act.put,sA,sZ,sS]
               refine Kau 49 146 rfl rfl (by kernel_rfl) rfl ?_ (.inr (by assumption))
               simp only [Act.put,sA,sZ,sS]
               refine tn 50 147 rfl rfl ?_
               simp only [Act.put,sA,sZ,sS]
               refine tk 51 148 (v:=.bool true) rfl rfl (fun W hW=>rfl) ?_
               simp only [Act.put,sA,sZ,sS]
               refine done (by kernel_rfl) ?_ _
               have HB:=yh (Kaa HB1.out hS29)
               clear hS hS29 c0 c1 c2 c3 c4 g1 g3 hgx hgl hlg hfs hfd hf7 hf8 c9 hri hpr hi0 hsub h1 h2 h3 h4 hB0 HY 
               go_wp2
               go_ret
               exact ⟨Kam (HALL.out.2 (by simp)).symm,Kaa HX.out.2.2.1 HB.out⟩
      ·obtain rfl : j = g.rels.length:=by omega
       have HF:=yh (okG_all HSZ.out HN.out HJ.out.1)
       have q1:=Kag HJ.out.2 (ltOf HX.out.2.2.2.2.2.1) HX.out.2.2.2.2.2.1
       have HB:=yh (Kaa HX.out.2.2.1 HJ.out.2)
       clear HJ
       go_wp2
       go_ret
       exact ⟨Kam HF.out.symm,HB.out⟩
theorem all2_of {α β : Type} {f : α → β → Bool} : ∀ {l : List α} {m : List β},l.length = m.length → (∀ i (h1 : i < l.length) (h2 : i < m.length),f l[i] m[i] = true) → all2 f l m = true
 | [],[],_,_=>rfl
 | [],_ :: _,h,_=>by simp at h
 | _ :: _,[],h,_=>by simp at h
 | a :: x,b :: y,h,g=>by
   rw [all2,Bool.and_eq_true]
   exact ⟨g 0 (by simp) (by simp),all2_of (by simpa using h) fun i h1 h2=>g (i + 1) (by simpa using h1) (by simpa using h2)⟩
theorem all2_no {α β : Type} {f : α → β → Bool} : ∀ {l : List α} {m : List β} {j : Nat} (h1 : j < l.length) (h2 : j < m.length),f l[j] m[j] = false → all2 f l m = false
 | [],_,j,h1,_,_=>by simp at h1
 | _ :: _,[],j,_,h2,_=>by simp at h2
 | a :: x,b :: y,0,_,_,h=>by rw [all2,show f a b = false from h];rfl
 | a :: x,b :: y,j + 1,h1,h2,h=>by rw [all2,all2_no (j:=j) (by simpa using h1) (by simpa using h2) h,Bool.and_false]
theorem all2_ne {α β : Type} {f : α → β → Bool} {l : List α} {m : List β} (h : l.length ≠ m.length) : all2 f l m = false:=by
 cases e : all2 f l m with
 | false=>rfl
 | true=>exact absurd (all2_len e) h
theorem nes_bytesD (a b : List UInt8) (W : World) : (binOp .neq 9 (.string (strB a)) (.string (strB b))).run Tryz.prog W = .ok (.bool (!decide (a = b))) W:=by
 have e : (strB a = strB b) ↔ a = b:=strB_inj
 by_cases h : a = b
 ·subst h;simp [go_sem]
 ·rw [decide_eq_false h]
  simp [go_sem,Ka0,h]
theorem alikeD_any : ∀ (v u : V) (w : World) (x y : Array Value),VRd w v x → VRd w u y →
 Calls Tryz.prog 166 #[.agg x,.agg y] w fun e w'=>e = .returned (.bool (Kc1 v u)) ∧ Below w.heap.size w w':=by
 refine V.ind fun k b n t ks l ih=>?_
 intro u w x y hx hy
 cases u with
 | mk k' b' n' t' ks' l' =>
 have hal : Kc1 (.mk k b n t ks l) (.mk k' b' n' t' ks' l') = (decide (k = k') && decide (b = b') && decide (n = n') && decide (t = t') && decide (ks = ks') && Kdl l l'):=by rw [Kc1];rfl
 rw [hal]
 clear hal
 obtain ⟨pk,ck,pl,cl,rfl,htx,hk1,hl1⟩:=Kb2.1 hx
 obtain ⟨qk,dk,ql,dl,rfl,hty,hk2,hl2⟩:=Kb2.1 hy
 clear hx hy
 have z1 : (ks.length : Int) ≤ 140737488355328:=by have:=hk1.2.1.1;omega
 have z2 : (l.length : Int) ≤ 140737488355328:=by have:=hl1.1.2.1.1;omega
 have z3 : (ks'.length : Int) ≤ 140737488355328:=by have:=hk2.2.1.1;omega
 have z4 : (l'.length : Int) ≤ 140737488355328:=by have:=hl2.1.2.1.1;omega
 have hb1:=Kai (w:=w) (.cells #[.int .i64 k,.bool b,.int .i64 n,.string (strB t),.slice pk ks.length ck,.slice pl l.length cl] 31)
 have hb2:=Kai (w:=w.alloc (.cells #[.int .i64 k,.bool b,.int .i64 n,.string (strB t),.slice pk ks.length ck,.slice pl l.length cl] 31)) (.cells #[.int .i64 k',.bool b',.int .i64 n',.string (strB t'),.slice qk ks'.length dk,.slice ql l'.length dl] 31)
 have hbc : Below w.heap.size w ((w.alloc (.cells #[.int .i64 k,.bool b,.int .i64 n,.string (strB t),.slice pk ks.length ck,.slice pl l.length cl] 31)).alloc (.cells #[.int .i64 k',.bool b',.int .i64 n',.string (strB t'),.slice qk ks'.length dk,.slice ql l'.length dl] 31)):=Kaa hb1 hb2
 have hx8:=Kak hb2 (by simp) (heap_alloc_new w (.cells #[.int .i64 k,.bool b,.int .i64 n,.string (strB t),.slice pk ks.length ck,.slice pl l.length cl] 31))
 have hx9:=heap_alloc_new (w.alloc (.cells #[.int .i64 k,.bool b,.int .i64 n,.string (strB t),.slice pk ks.length ck,.slice pl l.length cl] 31)) (.cells #[.int .i64 k',.bool b',.int .i64 n',.string (strB t'),.slice qk ks'.length dk,.slice ql l'.length dl] 31)
 simp only [World.size_alloc] at hx9
 have HG:=yh (And.intro hx8 hx9)
 have HB:=yh hbc
 have HIH:=yh (fun (a : V) (ha : a ∈ l)=>ih a ha)
 have HK1:=yh (hk1.below hbc)
 have HK2:=yh (hk2.below hbc)
 have HL1:=yh (hl1.below hbc)
 have HL2:=yh (hl2.below hbc)
 clear ih hk1 hk2 hl1 hl2 hb1 hb2 hbc hx8 hx9 htx hty
 by_cases h0 : k = k'
 rotate_left
 ·have f0 : (k != k') = true:=by rw [bne_iff_ne];exact h0
  have HNE:=yh h0
  clear h0
  go_enter Tryz.func166,Tryz.ntmps166
  go_wp2
  go_ret
  exact ⟨by simp [HNE.out],HB.out⟩
 subst h0
 by_cases h1 : b = b'
 rotate_left
 ·have HNE:=yh h1
  cases b <;> cases b' <;> first | exact absurd rfl h1 | skip
  all_goals
   clear h1
   go_enter Tryz.func166,Tryz.ntmps166
   go_wp2
   go_ret
   exact ⟨by simp [HNE.out],HB.out⟩
 subst h1
 by_cases h2 : n = n'
 rotate_left
 ·have f0 : (n != n') = true:=by rw [bne_iff_ne];exact h2
  have HNE:=yh h2
  clear h2
  go_enter Tryz.func166,Tryz.ntmps166
  go_wp2
  go_ret
  exact ⟨by simp [HNE.out],HB.out⟩
 subst h2
 by_cases h3 : t = t'
 rotate_left
 ·have f0 : ((strB t).toList == (strB t').toList) = false:=by rw [Ka0,Ka0,beq_eq_false_iff_ne];exact h3
  have f1 : ((strB t).toList != (strB t').toList) = true:=by rw [bne,f0];rfl
  have HNE:=yh h3
  clear h3
  generalize strB t = s1 at *
  generalize strB t' = s2 at *
  go_enter Tryz.func166,Tryz.ntmps166
  go_wp2
  go_ret
  exact ⟨by simp [HNE.out],HB.out⟩
 subst h3
 by_cases h4 : ks.length = ks'.length
 rotate_left
 ·have f0 : ((ks.length : Int) != (ks'.length : Int)) = true:=by rw [bne_iff_ne];omega
  have HNE:=yh (show ¬ ks = ks' from fun e=>h4 (by rw [e]))
  clear h4
  go_enter Tryz.func166,Tryz.ntmps166
  go_wp2
  go_ret
  exact ⟨by simp [HNE.out],HB.out⟩
 by_cases h5 : l.length = l'.length
 rotate_left
 ·have f0 : ((l.length : Int) != (l'.length : Int)) = true:=by rw [bne_iff_ne];omega
  have HNE:=yh (show Kdl l l' = false from by rw [Kdg,all2_ne h5])
  have f1 : ((ks.length : Int) != (ks'.length : Int)) = false:=by rw [h4];simp
  clear h5 h4
  go_enter Tryz.func166,Tryz.ntmps166
  go_wp2
  go_ret
  exact ⟨by simp [HNE.out],HB.out⟩
 have f0 : ((ks.length : Int) != (ks'.length : Int)) = false:=by rw [h4];simp
 have f1 : ((l.length : Int) != (l'.length : Int)) = false:=by rw [h5];simp
 have HLK:=yh h4
 have HLL:=yh h5
 clear h4 h5
 simp only [decide_true,Bool.true_and]
 go_enter Tryz.func166,Tryz.ntmps166
 go_wp2
 generalize hW0 : (w.alloc (.cells #[.int .i64 k,.bool b,.int .i64 n,.string (strB t),.slice pk ks.length ck,.slice pl l.length cl] 31)).alloc (.cells #[.int .i64 k,.bool b,.int .i64 n,.string (strB t),.slice qk ks'.length dk,.slice ql l'.length dl] 31) = W0 at *
 clear hW0
 go_loopw [5] (fun i W=>∃ j : Nat,j ≤ ks.length ∧ i = .int .i64 (j : Int) ∧ Hid (ks.take j = ks'.take j ∧ Below W0.heap.size W0 W)) (fun i _=>ks.length - (intOf i).toNat)
 case atStart=>exact ⟨0,Nat.zero_le _,rfl,yh ⟨by simp,Below.refl _ _⟩⟩
 case round =>
  obtain ⟨j,hj,rfl,HI⟩:=hrel
  obtain ⟨hg8,hg9⟩:=HG.out
  have p4:=Kah (o:=4) (Kak HI.out.2 (Array.getElem?_eq_some_iff.1 hg8).1 hg8) rfl
  clear hg8 hg9
  by_cases hlt : j < ks.length
  ·have hlt1 : j + 1 ≤ ks.length:=hlt
   have hlt2 : j < ks'.length:=by rw [← HLK.out];exact hlt
   obtain ⟨bk,ok,rfl,q0,_⟩:=HK1.out.get hlt
   obtain ⟨bk',ok',rfl,q1,_⟩:=HK2.out.get hlt2
   have hstep : ks[j] = ks'[j] → ks.take (j + 1) = ks'.take (j + 1):=fun e=>by rw [List.take_succ_eq_append_getElem hlt,List.take_succ_eq_append_getElem hlt2,HI.out.1,e]
   have hdiff : ks[j] ≠ ks'[j] → ks ≠ ks':=fun e e2=>by subst e2;exact e rfl
   have hnes:=nes_bytesD ks[j] ks'[j]
   generalize ks[j] = a1 at *
   generalize ks'[j] = a2 at *
   have hS0 : Below W0.heap.size W0 wr.drew:=HI.out.2.drew
   have hix : ∀ W' : World,(Instr.indexAt 26 (.slice (some ⟨bk,ok,none⟩) ks.length ck) (.int .i64 (j : Int))).run Tryz.prog W' = .ok (.pointer (some ⟨bk,ok + j,none⟩)) W':=by intro W';simp [go_sem,hlt]
   have hiy : ∀ W' : World,(Instr.indexAt 26 (.slice (some ⟨bk',ok',none⟩) ks'.length dk) (.int .i64 (j : Int))).run Tryz.prog W' = .ok (.pointer (some ⟨bk',ok' + j,none⟩)) W':=by intro W';simp [go_sem,hlt2]
   have hf4 : ∀ (g : Nat) (W' : World),(Instr.fieldAt 31 (.pointer (some ⟨g,0,none⟩)) 4).run Tryz.prog W' = .ok (.pointer (some ⟨g,4,none⟩)) W':=by intro g W';simp [go_sem]
   have HX:=yh (And.intro q0 (And.intro q1 (And.intro hstep (And.intro hdiff (And.intro hnes (And.intro hS0 (And.intro hix (And.intro hiy hf4))))))))
   clear q0 q1 hstep hdiff hnes hS0 hix hiy hf4 HI
   go_wp2
   obtain ⟨q0,q1,hstep,hdiff,hnes,hS0,hix,hiy,hf4⟩:=HX.out
   obtain ⟨hg8,hg9⟩:=HG.out
   refine Kaf (fun W=>Below W0.heap.size W0 W) (by kernel_rfl) hS0 (fun hS=>?_)
   by_cases he : a1 = a2
   ·have hne : ∀ W,(binOp .neq 9 (.string (strB a1)) (.string (strB a2))).run Tryz.prog W = .ok (.bool false) W:=fun W=>by rw [hnes,decide_eq_true he];rfl
    refine tk 0 58 (v:=.pointer (some ⟨w.heap.size,4,none⟩)) rfl rfl (fun W hW=>Kac rfl rfl (hf4 _ W)) ?_
    simp only [Act.put,sA,sZ,sS]
    refine tk 1 59 (v:=.slice (some ⟨bk,ok,none⟩) ks.length ck) rfl rfl (fun W hW=>Kad rfl rfl (Kcn Tryz.underlying26 rfl hW hg8 rfl)) ?_
    simp only [Act.put,sA,sZ,sS]
    refine tk 2 60 (v:=.int .i64 (j : Int)) rfl rfl (fun W hW=>Kab rfl rfl) ?_
    simp only [Act.put,sA,sZ,sS]
    refine tk 3 61 (v:=.pointer (some ⟨bk,ok + j,none⟩)) rfl rfl (fun W hW=>Kaj rfl rfl rfl (hix W)) ?_
    simp only [Act.put,sA,sZ,sS]
    refine tk 4 62 (v:=.string (strB a1)) rfl rfl (fun W hW=>Kad rfl rfl (Kae Tryz.underlying9 rfl (Kag hW (ltOf q0) q0))) ?_
    simp only [Act.put,sA,sZ,sS]
    refine tk 5 63 (v:=.pointer (some ⟨w.heap.size + 1,4,none⟩)) rfl rfl (fun W hW=>Kac rfl rfl (hf4 _ W)) ?_
    simp only [Act.put,sA,sZ,sS]
    refine tk 6 64 (v:=.slice (some ⟨bk',ok',none⟩) ks'.length dk) rfl rfl (fun W hW=>Kad rfl rfl (Kcn Tryz.underlying26 rfl hW hg9 rfl)) ?_
    simp only [Act.put,sA,sZ,sS]
    refine tk 7 65 (v:=.int .i64 (j : Int)) rfl rfl (fun W hW=>Kab rfl rfl) ?_
    simp only [Act.put,sA,sZ,sS]
    refine tk 8 66 (v:=.pointer (some ⟨bk',ok' + j,none⟩)) rfl rfl (fun W hW=>Kaj rfl rfl rfl (hiy W)) ?_
    simp only [Act.put,sA,sZ,sS]
    refine tk 9 67 (v:=.string (strB a2)) rfl rfl (fun W hW=>Kad rfl rfl (Kae Tryz.underlying9 rfl (Kag hW (ltOf q1) q1))) ?_
    simp only [Act.put,sA,sZ,sS]
    refine tk 10 68 (v:=.bool false) rfl rfl (fun W hW=>Kcf rfl rfl rfl (hne W)) ?_
    simp only [Act.put,sA,sZ,sS]
    refine done (by kernel_rfl) ?_ _
    have HS:=yh (And.intro (hstep he) hS)
    clear q0 q1 hstep hdiff hnes hS0 hix hiy hf4 hg8 hg9 hne hS he HX
    go_wp2
    go_roundw
    case rel=>exact ⟨j + 1,hlt1,by go_num,HS⟩
    case measure=>simp [intOf];omega
   ·have hne : ∀ W,(binOp .neq 9 (.string (strB a1)) (.string (strB a2))).run Tryz.prog W = .ok (.bool true) W:=fun W=>by rw [hnes,decide_eq_false he];rfl
    refine tk 0 58 (v:=.pointer (some ⟨w.heap.size,4,none⟩)) rfl rfl (fun W hW=>Kac rfl rfl (hf4 _ W)) ?_
    simp only [Act.put,sA,sZ,sS]
    refine tk 1 59 (v:=.slice (some ⟨bk,ok,none⟩) ks.length ck) rfl rfl (fun W hW=>Kad rfl rfl (Kcn Tryz.underlying26 rfl hW hg8 rfl)) ?_
    simp only [Act.put,sA,sZ,sS]
    refine tk 2 60 (v:=.int .i64 (j : Int)) rfl rfl (fun W hW=>Kab rfl rfl) ?_
    simp only [Act.put,sA,sZ,sS]
    refine tk 3 61 (v:=.pointer (some ⟨bk,ok + j,none⟩)) rfl rfl (fun W hW=>Kaj rfl rfl rfl (hix W)) ?_
    simp only [Act.put,sA,sZ,sS]
    refine tk 4 62 (v:=.string (strB a1)) rfl rfl (fun W hW=>Kad rfl rfl (Kae Tryz.underlying9 rfl (Kag hW (ltOf q0) q0))) ?_
    simp only [Act.put,sA,sZ,sS]
    refine tk 5 63 (v:=.pointer (some ⟨w.heap.size + 1,4,none⟩)) rfl rfl (fun W hW=>Kac rfl rfl (hf4 _ W)) ?_
    simp only [Act.put,sA,sZ,sS]
    refine tk 6 64 (v:=.slice (some ⟨bk',ok',none⟩) ks'.length dk) rfl rfl (fun W hW=>Kad rfl rfl (Kcn Tryz.underlying26 rfl hW hg9 rfl)) ?_
    simp only [Act.put,sA,sZ,sS]
    refine tk 7 65 (v:=.int .i64 (j : Int)) rfl rfl (fun W hW=>Kab rfl rfl) ?_
    simp only [Act.put,sA,sZ,sS]
    refine tk 8 66 (v:=.pointer (some ⟨bk',ok' + j,none⟩)) rfl rfl (fun W hW=>Kaj rfl rfl rfl (hiy W)) ?_
    simp only [Act.put,sA,sZ,sS]
    refine tk 9 67 (v:=.string (strB a2)) rfl rfl (fun W hW=>Kad rfl rfl (Kae Tryz.underlying9 rfl (Kag hW (ltOf q1) q1))) ?_
    simp only [Act.put,sA,sZ,sS]
    refine tk 10 68 (v:=.bool true) rfl rfl (fun W hW=>Kcf rfl rfl rfl (hne W)) ?_
    simp only [Act.put,sA,sZ,sS]
    refine done (by kernel_rfl) ?_ _
    have HS:=yh (And.intro (hdiff he) hS)
    clear q0 q1 hstep hdiff hnes hS0 hix hiy hf4 hg8 hg9 hne hS he HX
    go_wp2
    go_ret
    exact ⟨by rw [decide_eq_false HS.out.1,Bool.false_and];rfl,Kaa HB.out HS.out.2⟩
  ·obtain rfl : j = ks.length:=by omega
   have HKE:=yh (show ks = ks' from by have h:=HI.out.1;rw [List.take_length,HLK.out,List.take_length] at h;exact h)
   have HW1:=yh HI.out.2
   clear HI
   go_wp2
   go_loopw [6] (fun i W=>∃ j : Nat,j ≤ l.length ∧ i = .int .i64 (j : Int) ∧ Hid ((∀ i (h1 : i < l.length) (h2 : i < l'.length),i < j → Kc1 l[i] l'[i] = true) ∧ Below W0.heap.size W0 W)) (fun i _=>l.length - (intOf i).toNat)
   case atStart=>exact ⟨0,Nat.zero_le _,rfl,yh ⟨fun i _ _ h=>by omega,HW1.out⟩⟩
   case round =>
    clear HW1 p4
    obtain ⟨j,hj,rfl,HI⟩:=hrel
    obtain ⟨hg8,hg9⟩:=HG.out
    have p5:=Kah (o:=5) (Kak HI.out.2 (Array.getElem?_eq_some_iff.1 hg8).1 hg8) rfl
    clear hg8 hg9
    by_cases hlt : j < l.length
    ·have hlt1 : j + 1 ≤ l.length:=hlt
     have hlt2 : j < l'.length:=by rw [← HLL.out];exact hlt
     obtain ⟨bl,ol,cs,rfl,hs,hc,hv⟩:=HL1.out.grd.get hlt
     obtain ⟨bl',ol',ds,rfl,hs2,hc2,hv2⟩:=HL2.out.grd.get hlt2
     have hcall:=fun W (g : Below W0.heap.size W0 W)=>HIH.out l[j] (List.getElem_mem hlt) l'[j] W cs ds (hv.below g) (hv2.below g)
     have hno:=all2_no (f:=Kc1) hlt hlt2
     have hye : Kc1 l[j] l'[j] = true → ∀ i (h1 : i < l.length) (h2 : i < l'.length),i < j + 1 → Kc1 l[i] l'[i] = true:=fun he i h1 h2 h3=>by
      rcases Nat.lt_or_ge i j with h4 | h4
      ·exact HI.out.1 i h1 h2 h4
      ·have : i = j:=by omega
       subst this;exact he
     generalize Kc1 l[j] l'[j] = r at *
     have hS0 : Below W0.heap.size W0 wr.drew:=HI.out.2.drew
     have hix : ∀ W' : World,(Instr.indexAt 29 (.slice (some ⟨bl,ol,none⟩) l.length cl) (.int .i64 (j : Int))).run Tryz.prog W' = .ok (.pointer (some ⟨bl,ol + j * 6,none⟩)) W':=by intro W';simp [go_sem,hlt]
     have hiy : ∀ W' : World,(Instr.indexAt 29 (.slice (some ⟨bl',ol',none⟩) l'.length dl) (.int .i64 (j : Int))).run Tryz.prog W' = .ok (.pointer (some ⟨bl',ol' + j * 6,none⟩)) W':=by intro W';simp [go_sem,hlt2]
     have hf5 : ∀ (g : Nat) (W' : World),(Instr.fieldAt 31 (.pointer (some ⟨g,0,none⟩)) 5).run Tryz.prog W' = .ok (.pointer (some ⟨g,5,none⟩)) W':=by intro g W';simp [go_sem]
     have hlx:=fun W (g : Below W0.heap.size W0 W)=>StT.load (P:=Tryz.prog) (W:=W) (g:=bl) (o:=ol + j * 6) Kdo hs fun i u hu=>Kag g (ltOf (hc i u hu)) (hc i u hu)
     have hly:=fun W (g : Below W0.heap.size W0 W)=>StT.load (P:=Tryz.prog) (W:=W) (g:=bl') (o:=ol' + j * 6) Kdo hs2 fun i u hu=>Kag g (ltOf (hc2 i u hu)) (hc2 i u hu)
     have HX:=yh (And.intro hcall (And.intro hno (And.intro hye (And.intro hS0 (And.intro hix (And.intro hiy (And.intro hf5 (And.intro hlx hly))))))))
     clear hcall hno hye hS0 hix hiy hf5 hlx hly HI hs hc hv hs2 hc2 hv2
     go_wp2
     obtain ⟨hcall,hno,hye,hS0,hix,hiy,hf5,hlx,hly⟩:=HX.out
     obtain ⟨hg8,hg9⟩:=HG.out
     refine Kaf (fun W=>Below W0.heap.size W0 W) (by kernel_rfl) hS0 (fun hS=>?_)
     refine tk 0 76 (v:=.pointer (some ⟨w.heap.size,5,none⟩)) rfl rfl (fun W hW=>Kac rfl rfl (hf5 _ W)) ?_
     simp only [Act.put,sA,sZ,sS]
     refine tk 1 77 (v:=.slice (some ⟨bl,ol,none⟩) l.length cl) rfl rfl (fun W hW=>Kad rfl rfl (Kcn Tryz.underlying29 rfl hW hg8 rfl)) ?_
     simp only [Act.put,sA,sZ,sS]
     refine tk 2 78 (v:=.int .i64 (j : Int)) rfl rfl (fun W hW=>Kab rfl rfl) ?_
     simp only [Act.put,sA,sZ,sS]
     refine tk 3 79 (v:=.pointer (some ⟨bl,ol + j * 6,none⟩)) rfl rfl (fun W hW=>Kaj rfl rfl rfl (hix W)) ?_
     simp only [Act.put,sA,sZ,sS]
     refine tk 4 80 (v:=.agg cs) rfl rfl (fun W hW=>Kad rfl rfl (hlx W hW)) ?_
     simp only [Act.put,sA,sZ,sS]
     refine tk 5 81 (v:=.pointer (some ⟨w.heap.size + 1,5,none⟩)) rfl rfl (fun W hW=>Kac rfl rfl (hf5 _ W)) ?_
     simp only [Act.put,sA,sZ,sS]
     refine tk 6 82 (v:=.slice (some ⟨bl',ol',none⟩) l'.length dl) rfl rfl (fun W hW=>Kad rfl rfl (Kcn Tryz.underlying29 rfl hW hg9 rfl)) ?_
     simp only [Act.put,sA,sZ,sS]
     refine tk 7 83 (v:=.int .i64 (j : Int)) rfl rfl (fun W hW=>Kab rfl rfl) ?_
     simp only [Act.put,sA,sZ,sS]
     refine tk 8 84 (v:=.pointer (some ⟨bl',ol' + j * 6,none⟩)) rfl rfl (fun W hW=>Kaj rfl rfl rfl (hiy W)) ?_
     simp only [Act.put,sA,sZ,sS]
     refine tk 9 85 (v:=.agg ds) rfl rfl (fun W hW=>Kad rfl rfl (hly W hW)) ?_
     simp only [Act.put,sA,sZ,sS]
     refine Kao 10 86 rfl rfl (by kernel_rfl) rfl (Kan [.agg cs,.agg ds] rfl rfl Tryz.func166 (by kernel_rfl) (by kernel_rfl)) ?_
     refine (hcall _ hS).mono ?_
     rintro e W8 ⟨rfl,hb8⟩
     have hS8 : Below W0.heap.size W0 W8:=Kaa hS hb8
     refine ⟨_,rfl,.inr hS8,?_⟩
     simp only [Act.put,sA,sZ,sS]
     refine tk 11 87 (v:=.bool (!r)) rfl rfl (fun W hW=>Kar rfl rfl) ?_
     simp only [Act.put,sA,sZ,sS]
     refine done (by kernel_rfl) ?_ _
     have HS:=yh hS8
     have HF:=yh (And.intro hno hye)
     clear hcall hno hye hS0 hix hiy hf5 hlx hly hg8 hg9 hS hS8 hb8 HX
     cases r
     ·go_wp2
      go_ret
      exact ⟨by rw [Kdg,HF.out.1 (by simp),Bool.and_false];rfl,Kaa HB.out HS.out⟩
     ·go_wp2
      go_roundw
      case rel=>exact ⟨j + 1,hlt1,by go_num,yh ⟨HF.out.2 (by simp),HS.out⟩⟩
      case measure=>simp [intOf];omega
    ·obtain rfl : j = l.length:=by omega
     have HFF:=yh (And.intro (all2_of (f:=Kc1) HLL.out fun i h1 h2=>HI.out.1 i h1 h2 h1) HI.out.2)
     clear HI
     go_wp2
     go_ret
     exact ⟨by rw [decide_eq_true HKE.out,Kdg,HFF.out.1];rfl,Kaa HB.out HFF.out.2⟩
def sameQ (p q : PropD) : Bool:=decide (p.key = q.key) && Kc1 p.val q.val
def sameNQ (a b : NodeD) : Bool:=decide (a.id = b.id) && decide (a.labels = b.labels) && all2 sameQ a.props b.props
def sameRQ (a b : RelD) : Bool:=decide (a.id = b.id) && decide (a.src = b.src) && decide (a.dst = b.dst) && decide (a.type = b.type) && all2 sameQ a.props b.props
def Kcz (a b : GraphD) : Bool:=decide (a.nextNode = b.nextNode) && decide (a.nextRel = b.nextRel) && all2 sameNQ a.nodes b.nodes && all2 sameRQ a.rels b.rels
theorem sameQ_iff (p q : PropD) : sameQ p q = true ↔ p = q:=by
 obtain ⟨a,b⟩:=p
 obtain ⟨c,d⟩:=q
 unfold sameQ
 simp only [Bool.and_eq_true,decide_eq_true_eq,alikeV_iff,PropD.mk.injEq]
theorem samePsQ_iff (l m : List PropD) : all2 sameQ l m = true ↔ l = m:=all2_eq fun x _ y _=>sameQ_iff x y
theorem sameNQ_iff (a b : NodeD) : sameNQ a b = true ↔ a = b:=by
 have:=samePsQ_iff a.props b.props
 unfold sameNQ
 obtain ⟨x1,x2,x3⟩:=a
 obtain ⟨y1,y2,y3⟩:=b
 simp only [Bool.and_eq_true,decide_eq_true_eq,NodeD.mk.injEq] at this ⊢
 rw [this,and_assoc]
theorem sameRQ_iff (a b : RelD) : sameRQ a b = true ↔ a = b:=by
 have:=samePsQ_iff a.props b.props
 unfold sameRQ
 obtain ⟨x1,x2,x3,x4,x5⟩:=a
 obtain ⟨y1,y2,y3,y4,y5⟩:=b
 simp only [Bool.and_eq_true,decide_eq_true_eq,RelD.mk.injEq] at this ⊢
 rw [this,and_assoc,and_assoc,and_assoc]
theorem sameGQ_iff (a b : GraphD) : Kcz a b = true ↔ a = b:=by
 have h1 : all2 sameNQ a.nodes b.nodes = true ↔ a.nodes = b.nodes:=all2_eq fun x _ y _=>sameNQ_iff x y
 have h2 : all2 sameRQ a.rels b.rels = true ↔ a.rels = b.rels:=all2_eq fun x _ y _=>sameRQ_iff x y
 unfold Kcz
 obtain ⟨x1,x2,x3,x4⟩:=a
 obtain ⟨y1,y2,y3,y4⟩:=b
 simp only [Bool.and_eq_true,decide_eq_true_eq,GraphD.mk.injEq] at h1 h2 ⊢
 rw [h1,h2]
 constructor
 ·rintro ⟨⟨⟨e1,e2⟩,e3⟩,e4⟩;exact ⟨e3,e4,e1,e2⟩
 ·rintro ⟨e1,e2,e3,e4⟩;exact ⟨⟨⟨e3,e4⟩,e1⟩,e2⟩
def AllJ {α : Type} (f : α → α → Bool) (l m : List α) (j : Nat) : Prop:=∀ i (h1 : i < l.length) (h2 : i < m.length),i < j → f l[i] m[i] = true
theorem AllJ.zero {α : Type} (f : α → α → Bool) (l m : List α) : AllJ f l m 0:=fun i _ _ h=>by omega
theorem AllJ.succ {α : Type} {f : α → α → Bool} {l m : List α} {j : Nat} (h : AllJ f l m j) (h1 : j < l.length) (h2 : j < m.length) (he : f l[j] m[j] = true) : AllJ f l m (j + 1):=fun i a b hi=>by
 by_cases e : i = j
 ·subst e;exact he
 ·exact h i a b (by omega)
theorem AllJ.all {α : Type} {f : α → α → Bool} {l m : List α} (h : AllJ f l m l.length) (hl : l.length = m.length) : all2 f l m = true:=all2_of hl fun i h1 h2=>h i h1 h2 h1
def eqT (a b : List UInt8) : Bool:=decide (a = b)
theorem eqTs_iff (l m : List (List UInt8)) : all2 eqT l m = decide (l = m):=by
 have h : all2 eqT l m = true ↔ l = m:=all2_eq fun x _ y _=>by simp [eqT]
 rw [Bool.eq_iff_iff,h,decide_eq_true_iff]
theorem sameTextsD_any {w : World} {p1 p2 : Option Addr} {c1 c2 : Nat} {a b : List (List UInt8)} (ha : RdS w p1 c1 a) (hb : RdS w p2 c2 b) : Calls Tryz.prog 115 #[.slice p1 a.length c1,.slice p2 b.length c2] w fun e w'=>e = .returned (.bool (decide (a = b))) ∧ Below w.heap.size w w':=by
 have z1 : (a.length : Int) ≤ 140737488355328:=by have:=ha.2.1.1;omega
 have z2 : (b.length : Int) ≤ 140737488355328:=by have:=hb.2.1.1;omega
 have H:=yh (And.intro ha hb)
 clear ha hb
 rw [← eqTs_iff]
 by_cases hl : a.length = b.length
 rotate_left
 ·have HF:=yh (all2_ne (f:=eqT) hl)
  have hl2 : ¬ (a.length : Int) = (b.length : Int):=by omega
  have hl3 : ((a.length : Int) == (b.length : Int)) = false:=by rw [beq_eq_false_iff_ne];exact hl2
  generalize a.length = n1 at *
  generalize b.length = n2 at *
  clear hl
  go_enter Tryz.func115,Tryz.ntmps115
  go_wp2
  go_ret
  exact ⟨Kam HF.out.symm,Below.refl _ _⟩
 ·have HL:=yh hl
  have hl2 : (a.length : Int) = (b.length : Int):=by omega
  have hle : (b.length : Int) = (a.length : Int):=hl2.symm
  clear hl hl2
  go_enter Tryz.func115,Tryz.ntmps115
  go_wp2
  clear hle
  go_loopw [5] (fun i W=>∃ j : Nat,j ≤ a.length ∧ i = .int .i64 (j : Int) ∧ Hid (AllJ eqT a b j ∧ Below w.heap.size w W)) (fun i _=>a.length - (intOf i).toNat)
  case atStart=>exact ⟨0,Nat.zero_le _,rfl,yh ⟨AllJ.zero _ _ _,Below.refl _ _⟩⟩
  case round =>
   obtain ⟨j,hj,rfl,HI⟩:=hrel
   by_cases hlt : j < a.length
   ·have hlt1 : j + 1 ≤ a.length:=hlt
    have hltb : j < b.length:=by have:=HL.out;omega
    obtain ⟨b1,o1,rfl,q1,_⟩:=(H.out.1.below HI.out.2).get hlt
    obtain ⟨b2,o2,rfl,q2,_⟩:=(H.out.2.below HI.out.2).get hltb
    have hi1 : ∀ W' : World,(Instr.indexAt 26 (.slice (some ⟨b1,o1,none⟩) a.length c1) (.int .i64 (j : Int))).run Tryz.prog W' = .ok (.pointer (some ⟨b1,o1 + j,none⟩)) W':=fun W'=>ia_text hlt W'
    have hi2 : ∀ W' : World,(Instr.indexAt 26 (.slice (some ⟨b2,o2,none⟩) b.length c2) (.int .i64 (j : Int))).run Tryz.prog W' = .ok (.pointer (some ⟨b2,o2 + j,none⟩)) W':=fun W'=>ia_text hltb W'
    have hne:=nes_bytesD a[j] b[j]
    have hno:=all2_no (f:=eqT) (j:=j) hlt hltb
    have hye:=HI.out.1.succ hlt hltb
    have heq : eqT a[j] b[j] = decide (a[j] = b[j]):=rfl
    rw [heq] at hno hye
    obtain ⟨bb,hbb⟩ : ∃ bb,bb = !decide (a[j] = b[j]):=⟨_,rfl⟩
    have hde : decide (a[j] = b[j]) = !bb:=by rw [hbb];simp
    rw [hde] at hno hye
    simp only [← hbb] at hne
    have HM:=yh (And.intro hno hye)
    have HB1:=yh HI.out.2
    have hB0 : Below wr.heap.size wr wr.drew:=(Below.refl _ wr).drew
    clear heq hde hbb hno hye
    generalize a[j] = s1 at *
    generalize b[j] = s2 at *
    have HX:=yh (And.intro hi1 (And.intro hi2 (And.intro hne (And.intro q1 (And.intro q2 hB0)))))
    clear hi1 hi2 hne q1 q2 hB0 HI
    go_wp2
    obtain ⟨hi1,hi2,hne,q1,q2,hB0⟩:=HX.out
    refine Kaf (fun W=>Below wr.heap.size wr W) (by kernel_rfl) hB0 (fun hS=>?_)
    refine tk 0 17 (v:=.slice (some ⟨b1,o1,none⟩) a.length c1) rfl rfl (fun W hW=>Kab rfl rfl) ?_
    simp only [Act.put,sA,sZ,sS]
    refine tk 1 18 (v:=.int .i64 (j : Int)) rfl rfl (fun W hW=>Kab rfl rfl) ?_
    simp only [Act.put,sA,sZ,sS]
    refine tk 2 19 (v:=.pointer (some ⟨b1,o1 + j,none⟩)) rfl rfl (fun W hW=>Kaj rfl rfl rfl (hi1 W)) ?_
    simp only [Act.put,sA,sZ,sS]
    refine tk 3 20 (v:=.string (strB s1)) rfl rfl (fun W hW=>Kad rfl rfl (Kae (w:=W) Tryz.underlying9 rfl (Kag hW (ltOf q1) q1))) ?_
    simp only [Act.put,sA,sZ,sS]
    refine tk 4 21 (v:=.slice (some ⟨b2,o2,none⟩) b.length c2) rfl rfl (fun W hW=>Kab rfl rfl) ?_
    simp only [Act.put,sA,sZ,sS]
    refine tk 5 22 (v:=.int .i64 (j : Int)) rfl rfl (fun W hW=>Kab rfl rfl) ?_
    simp only [Act.put,sA,sZ,sS]
    refine tk 6 23 (v:=.pointer (some ⟨b2,o2 + j,none⟩)) rfl rfl (fun W hW=>Kaj rfl rfl rfl (hi2 W)) ?_
    simp only [Act.put,sA,sZ,sS]
    refine tk 7 24 (v:=.string (strB s2)) rfl rfl (fun W hW=>Kad rfl rfl (Kae (w:=W) Tryz.underlying9 rfl (Kag hW (ltOf q2) q2))) ?_
    simp only [Act.put,sA,sZ,sS]
    refine tk 8 25 (v:=.bool bb) rfl rfl (fun W hW=>Kcf rfl rfl rfl (hne W)) ?_
    simp only [Act.put,sA,sZ,sS]
    refine done (by kernel_rfl) ?_ _
    have HB:=yh (Kaa HB1.out hS)
    clear hi1 hi2 hne q1 q2 hB0 hS HX
    cases bb with
    | true =>
      go_wp2
      go_ret
      exact ⟨Kam (HM.out.1 rfl).symm,HB.out⟩
    | false =>
      go_wp2
      go_roundw
      case rel=>exact ⟨j + 1,hlt1,by go_num,yh ⟨HM.out.2 rfl,HB.out⟩⟩
      case measure=>simp [intOf];omega
   ·obtain rfl : j = a.length:=by omega
    have HF:=yh (HI.out.1.all HL.out)
    have HB:=yh HI.out.2
    clear HI
    go_wp2
    go_ret
    exact ⟨Kam HF.out.symm,HB.out⟩
theorem samePropsD_any {w : World} {p1 p2 : Option Addr} {c1 c2 : Nat} {a b : List PropD} (ha : GRd PRd 7 w p1 c1 a) (hb : GRd PRd 7 w p2 c2 b) : Calls Tryz.prog 116 #[.slice p1 a.length c1,.slice p2 b.length c2] w fun e w'=>e = .returned (.bool (all2 sameQ a b)) ∧ Below w.heap.size w w':=by
 have z1 : (a.length : Int) ≤ 140737488355328:=by have:=ha.1.2.1;omega
 have z2 : (b.length : Int) ≤ 140737488355328:=by have:=hb.1.2.1;omega
 have H:=yh (And.intro ha hb)
 clear ha hb
 by_cases hl : a.length = b.length
 rotate_left
 ·have HF:=yh (all2_ne (f:=sameQ) hl)
  have hl2 : ¬ (a.length : Int) = (b.length : Int):=by omega
  have hl3 : ((a.length : Int) == (b.length : Int)) = false:=by rw [beq_eq_false_iff_ne];exact hl2
  generalize a.length = n1 at *
  generalize b.length = n2 at *
  clear hl
  go_enter Tryz.func116,Tryz.ntmps116
  go_wp2
  go_ret
  exact ⟨Kam HF.out.symm,Below.refl _ _⟩
 ·have HL:=yh hl
  have hl2 : (a.length : Int) = (b.length : Int):=by omega
  have hle : (b.length : Int) = (a.length : Int):=hl2.symm
  clear hl hl2
  go_enter Tryz.func116,Tryz.ntmps116
  go_wp2
  clear hle
  go_loopw [5] (fun i W=>∃ j : Nat,j ≤ a.length ∧ i = .int .i64 (j : Int) ∧ Hid (AllJ sameQ a b j ∧ Below w.heap.size w W)) (fun i _=>a.length - (intOf i).toNat)
  case atStart=>exact ⟨0,Nat.zero_le _,rfl,yh ⟨AllJ.zero _ _ _,Below.refl _ _⟩⟩
  case round =>
   obtain ⟨j,hj,rfl,HI⟩:=hrel
   by_cases hlt : j < a.length
   ·have hlt1 : j + 1 ≤ a.length:=hlt
    have hltb : j < b.length:=by have:=HL.out;omega
    obtain ⟨b1,o1,cs1,rfl,_,hcc1,hv1⟩:=(H.out.1.below (fun h=>h.below HI.out.2) HI.out.2).get hlt
    obtain ⟨b2,o2,cs2,rfl,_,hcc2,hv2⟩:=(H.out.2.below (fun h=>h.below HI.out.2) HI.out.2).get hltb
    obtain ⟨q1,_,y1,hu1,r1⟩:=Kdr hv1 hcc1
    obtain ⟨q2,_,y2,hu2,r2⟩:=Kdr hv2 hcc2
    have hy1:=ef_val.size hu1
    have hy2:=ef_val.size hu2
    have hi1 : ∀ W' : World,(Instr.indexAt 27 (.slice (some ⟨b1,o1,none⟩) a.length c1) (.int .i64 (j : Int))).run Tryz.prog W' = .ok (.pointer (some ⟨b1,o1 + j * 7,none⟩)) W':=fun W'=>ia_prop hlt W'
    have hi2 : ∀ W' : World,(Instr.indexAt 27 (.slice (some ⟨b2,o2,none⟩) b.length c2) (.int .i64 (j : Int))).run Tryz.prog W' = .ok (.pointer (some ⟨b2,o2 + j * 7,none⟩)) W':=fun W'=>ia_prop hltb W'
    have hne:=nes_bytesD a[j].key b[j].key
    have hal:=fun W (g : Below wr.heap.size wr W)=>alikeD_any a[j].val b[j].val W y1 y2 (hu1.below g) (hu2.below g)
    have hno:=all2_no (f:=sameQ) (j:=j) hlt hltb
    have hye:=HI.out.1.succ hlt hltb
    have heq : sameQ a[j] b[j] = (decide (a[j].key = b[j].key) && Kc1 a[j].val b[j].val):=rfl
    rw [heq] at hno hye
    generalize Kc1 a[j].val b[j].val = av at *
    obtain ⟨kb,hkb⟩ : ∃ kb,kb = decide (a[j].key = b[j].key):=⟨_,rfl⟩
    rw [← hkb] at hno hye
    simp only [← hkb] at hne
    have HM:=yh (And.intro hno hye)
    have HB1:=yh HI.out.2
    have hB0 : Below wr.heap.size wr wr.drew:=(Below.refl _ wr).drew
    clear heq hkb hno hye hv1 hv2 hu1 hu2 hcc1 hcc2
    generalize a[j].key = s1 at *
    generalize b[j].key = s2 at *
    have HX:=yh (And.intro hi1 (And.intro hi2 (And.intro hne (And.intro q1 (And.intro q2 (And.intro hal (And.intro r1 (And.intro r2 (And.intro hy1 (And.intro hy2 hB0))))))))))
    clear hi1 hi2 hne q1 q2 hB0 HI hal r1 r2 hy1 hy2
    go_wp2
    obtain ⟨hi1,hi2,hne,q1,q2,hal,r1,r2,hy1,hy2,hB0⟩:=HX.out
    refine Kaf (fun W=>Below wr.heap.size wr W) (by kernel_rfl) hB0 (fun hS=>?_)
    cases kb with
    | false =>
      refine tk 0 17 (v:=.slice (some ⟨b1,o1,none⟩) a.length c1) rfl rfl (fun W hW=>Kab rfl rfl) ?_
      simp only [Act.put,sA,sZ,sS]
      refine tk 1 18 (v:=.int .i64 (j : Int)) rfl rfl (fun W hW=>Kab rfl rfl) ?_
      simp only [Act.put,sA,sZ,sS]
      refine tk 2 19 (v:=.pointer (some ⟨b1,o1 + j * 7,none⟩)) rfl rfl (fun W hW=>Kaj rfl rfl rfl (hi1 W)) ?_
      simp only [Act.put,sA,sZ,sS]
      refine tk 3 20 (v:=.pointer (some ⟨b1,o1 + j * 7,none⟩)) rfl rfl (fun W hW=>Kac rfl rfl (Kdw _ _ W)) ?_
      simp only [Act.put,sA,sZ,sS]
      refine tk 4 21 (v:=.string (strB s1)) rfl rfl (fun W hW=>Kad rfl rfl (Kae (w:=W) Tryz.underlying9 rfl (Kag hW (ltOf q1) q1))) ?_
      simp only [Act.put,sA,sZ,sS]
      refine tk 5 22 (v:=.slice (some ⟨b2,o2,none⟩) b.length c2) rfl rfl (fun W hW=>Kab rfl rfl) ?_
      simp only [Act.put,sA,sZ,sS]
      refine tk 6 23 (v:=.int .i64 (j : Int)) rfl rfl (fun W hW=>Kab rfl rfl) ?_
      simp only [Act.put,sA,sZ,sS]
      refine tk 7 24 (v:=.pointer (some ⟨b2,o2 + j * 7,none⟩)) rfl rfl (fun W hW=>Kaj rfl rfl rfl (hi2 W)) ?_
      simp only [Act.put,sA,sZ,sS]
      refine tk 8 25 (v:=.pointer (some ⟨b2,o2 + j * 7,none⟩)) rfl rfl (fun W hW=>Kac rfl rfl (Kdw _ _ W)) ?_
      simp only [Act.put,sA,sZ,sS]
      refine tk 9 26 (v:=.string (strB s2)) rfl rfl (fun W hW=>Kad rfl rfl (Kae (w:=W) Tryz.underlying9 rfl (Kag hW (ltOf q2) q2))) ?_
      simp only [Act.put,sA,sZ,sS]
      refine tk 10 27 (v:=.bool true) rfl rfl (fun W hW=>Kcf rfl rfl rfl (hne W)) ?_
      simp only [Act.put,sA,sZ,sS]
      refine tk 11 28 (v:=.bool true) rfl rfl (fun W hW=>Kab rfl rfl) ?_
      simp only [Act.put,sA,sZ,sS]
      refine tn 12 29 rfl rfl ?_
      simp only [Act.put,sA,sZ,sS]
      refine tn 13 30 rfl rfl ?_
      simp only [Act.put,sA,sZ,sS]
      refine tn 14 31 rfl rfl ?_
      simp only [Act.put,sA,sZ,sS]
      refine tn 15 32 rfl rfl ?_
      simp only [Act.put,sA,sZ,sS]
      refine tn 16 33 rfl rfl ?_
      simp only [Act.put,sA,sZ,sS]
      refine tn 17 34 rfl rfl ?_
      simp only [Act.put,sA,sZ,sS]
      refine tn 18 35 rfl rfl ?_
      simp only [Act.put,sA,sZ,sS]
      refine tn 19 36 rfl rfl ?_
      simp only [Act.put,sA,sZ,sS]
      refine tn 20 37 rfl rfl ?_
      simp only [Act.put,sA,sZ,sS]
      refine tn 21 38 rfl rfl ?_
      simp only [Act.put,sA,sZ,sS]
      refine Kau 22 39 rfl rfl (by kernel_rfl) rfl ?_ (.inr (by assumption))
      simp only [Act.put,sA,sZ,sS]
      refine tn 23 40 rfl rfl ?_
      simp only [Act.put,sA,sZ,sS]
      refine tk 24 41 (v:=.bool true) rfl rfl (fun W hW=>rfl) ?_
      simp only [Act.put,sA,sZ,sS]
      refine done (by kernel_rfl) ?_ _
      have HB:=yh (Kaa HB1.out hS)
      clear hi1 hi2 hne q1 q2 hB0 hS HX hal r1 r2 hy1 hy2
      go_wp2
      go_ret
      exact ⟨Kam (HM.out.1 rfl).symm,HB.out⟩
    | true =>
      refine tk 0 17 (v:=.slice (some ⟨b1,o1,none⟩) a.length c1) rfl rfl (fun W hW=>Kab rfl rfl) ?_
      simp only [Act.put,sA,sZ,sS]
      refine tk 1 18 (v:=.int .i64 (j : Int)) rfl rfl (fun W hW=>Kab rfl rfl) ?_
      simp only [Act.put,sA,sZ,sS]
      refine tk 2 19 (v:=.pointer (some ⟨b1,o1 + j * 7,none⟩)) rfl rfl (fun W hW=>Kaj rfl rfl rfl (hi1 W)) ?_
      simp only [Act.put,sA,sZ,sS]
      refine tk 3 20 (v:=.pointer (some ⟨b1,o1 + j * 7,none⟩)) rfl rfl (fun W hW=>Kac rfl rfl (Kdw _ _ W)) ?_
      simp only [Act.put,sA,sZ,sS]
      refine tk 4 21 (v:=.string (strB s1)) rfl rfl (fun W hW=>Kad rfl rfl (Kae (w:=W) Tryz.underlying9 rfl (Kag hW (ltOf q1) q1))) ?_
      simp only [Act.put,sA,sZ,sS]
      refine tk 5 22 (v:=.slice (some ⟨b2,o2,none⟩) b.length c2) rfl rfl (fun W hW=>Kab rfl rfl) ?_
      simp only [Act.put,sA,sZ,sS]
      refine tk 6 23 (v:=.int .i64 (j : Int)) rfl rfl (fun W hW=>Kab rfl rfl) ?_
      simp only [Act.put,sA,sZ,sS]
      refine tk 7 24 (v:=.pointer (some ⟨b2,o2 + j * 7,none⟩)) rfl rfl (fun W hW=>Kaj rfl rfl rfl (hi2 W)) ?_
      simp only [Act.put,sA,sZ,sS]
      refine tk 8 25 (v:=.pointer (some ⟨b2,o2 + j * 7,none⟩)) rfl rfl (fun W hW=>Kac rfl rfl (Kdw _ _ W)) ?_
      simp only [Act.put,sA,sZ,sS]
      refine tk 9 26 (v:=.string (strB s2)) rfl rfl (fun W hW=>Kad rfl rfl (Kae (w:=W) Tryz.underlying9 rfl (Kag hW (ltOf q2) q2))) ?_
      simp only [Act.put,sA,sZ,sS]
      refine tk 10 27 (v:=.bool false) rfl rfl (fun W hW=>Kcf rfl rfl rfl (hne W)) ?_
      simp only [Act.put,sA,sZ,sS]
      refine tk 11 28 (v:=.bool false) rfl rfl (fun W hW=>Kab rfl rfl) ?_
      simp only [Act.put,sA,sZ,sS]
      refine tk 12 29 (v:=.slice (some ⟨b1,o1,none⟩) a.length c1) rfl rfl (fun W hW=>Kab rfl rfl) ?_
      simp only [Act.put,sA,sZ,sS]
      refine tk 13 30 (v:=.int .i64 (j : Int)) rfl rfl (fun W hW=>Kab rfl rfl) ?_
      simp only [Act.put,sA,sZ,sS]
      refine tk 14 31 (v:=.pointer (some ⟨b1,o1 + j * 7,none⟩)) rfl rfl (fun W hW=>Kaj rfl rfl rfl (hi1 W)) ?_
      simp only [Act.put,sA,sZ,sS]
      refine tk 15 32 (v:=.pointer (some ⟨b1,o1 + j * 7 + 1,none⟩)) rfl rfl (fun W hW=>Kac rfl rfl (fa_pr1 _ _ W)) ?_
      simp only [Act.put,sA,sZ,sS]
      refine tk 16 33 (v:=.agg y1) rfl rfl (fun W hW=>Kad rfl rfl (StT.load (P:=Tryz.prog) (W:=W) Kdo hy1 fun i u hu=>Kag hW (ltOf (r1 i u hu)) (r1 i u hu))) ?_
      simp only [Act.put,sA,sZ,sS]
      refine tk 17 34 (v:=.slice (some ⟨b2,o2,none⟩) b.length c2) rfl rfl (fun W hW=>Kab rfl rfl) ?_
      simp only [Act.put,sA,sZ,sS]
      refine tk 18 35 (v:=.int .i64 (j : Int)) rfl rfl (fun W hW=>Kab rfl rfl) ?_
      simp only [Act.put,sA,sZ,sS]
      refine tk 19 36 (v:=.pointer (some ⟨b2,o2 + j * 7,none⟩)) rfl rfl (fun W hW=>Kaj rfl rfl rfl (hi2 W)) ?_
      simp only [Act.put,sA,sZ,sS]
      refine tk 20 37 (v:=.pointer (some ⟨b2,o2 + j * 7 + 1,none⟩)) rfl rfl (fun W hW=>Kac rfl rfl (fa_pr1 _ _ W)) ?_
      simp only [Act.put,sA,sZ,sS]
      refine tk 21 38 (v:=.agg y2) rfl rfl (fun W hW=>Kad rfl rfl (StT.load (P:=Tryz.prog) (W:=W) Kdo hy2 fun i u hu=>Kag hW (ltOf (r2 i u hu)) (r2 i u hu))) ?_
      simp only [Act.put,sA,sZ,sS]
      refine Kao 22 39 rfl rfl (by kernel_rfl) rfl (Kan [.agg y1,.agg y2] rfl rfl Tryz.func166 (by kernel_rfl) (by kernel_rfl)) ?_
      refine (hal _ hS).mono ?_
      rintro e W22 ⟨rfl,hb22⟩
      have hS22:=Kaa hS hb22
      refine ⟨_,rfl,.inr hS22,?_⟩
      simp only [Act.put,sA,sZ,sS]
      refine tk 23 40 (v:=.bool (!av)) rfl rfl (fun W hW=>Kar rfl rfl) ?_
      simp only [Act.put,sA,sZ,sS]
      refine tk 24 41 (v:=.bool (!av)) rfl rfl (fun W hW=>rfl) ?_
      simp only [Act.put,sA,sZ,sS]
      refine done (by kernel_rfl) ?_ _
      have HB:=yh (Kaa HB1.out hS22)
      clear hi1 hi2 hne q1 q2 hB0 hS HX hal r1 r2 hy1 hy2 hS22 hb22
      cases av with
      | false =>
        go_wp2
        go_ret
        exact ⟨Kam (HM.out.1 rfl).symm,HB.out⟩
      | true =>
        go_wp2
        go_roundw
        case rel=>exact ⟨j + 1,hlt1,by go_num,yh ⟨HM.out.2 rfl,HB.out⟩⟩
        case measure=>simp [intOf];omega
   ·obtain rfl : j = a.length:=by omega
    have HF:=yh (HI.out.1.all HL.out)
    have HB:=yh HI.out.2
    clear HI
    go_wp2
    go_ret
    exact ⟨Kam HF.out.symm,HB.out⟩
theorem sameNodeD_any {w : World} {a b : NodeD} {x y : Array Value} (ha : NRd w a x) (hb : NRd w b y) : Calls Tryz.prog 54 #[.agg x,.agg y] w fun e w'=>e = .returned (.bool (sameNQ a b)) ∧ Below w.heap.size w w':=by
 obtain ⟨pl,cl,pp,cp,rfl,hla,hpa⟩:=ha
 obtain ⟨ql,dl,qp,dp,rfl,hlb,hpb⟩:=hb
 have hb1:=Kai (w:=w) (.cells #[.int .i64 a.id,.slice pl a.labels.length cl,.slice pp a.props.length cp] 45)
 have hb2:=Kai (w:=w.alloc (.cells #[.int .i64 a.id,.slice pl a.labels.length cl,.slice pp a.props.length cp] 45)) (.cells #[.int .i64 b.id,.slice ql b.labels.length dl,.slice qp b.props.length dp] 45)
 have hbc:=Kaa hb1 hb2
 have hx8:=Kak hb2 (by simp) (heap_alloc_new w (.cells #[.int .i64 a.id,.slice pl a.labels.length cl,.slice pp a.props.length cp] 45))
 have hx9:=heap_alloc_new (w.alloc (.cells #[.int .i64 a.id,.slice pl a.labels.length cl,.slice pp a.props.length cp] 45)) (.cells #[.int .i64 b.id,.slice ql b.labels.length dl,.slice qp b.props.length dp] 45)
 simp only [World.size_alloc] at hx9
 have HT:=yh (sameTextsD_any (hla.below hbc) (hlb.below hbc))
 have HP:=yh (fun W (g : Below ((w.alloc (.cells #[.int .i64 a.id,.slice pl a.labels.length cl,.slice pp a.props.length cp] 45)).alloc (.cells #[.int .i64 b.id,.slice ql b.labels.length dl,.slice qp b.props.length dp] 45)).heap.size ((w.alloc (.cells #[.int .i64 a.id,.slice pl a.labels.length cl,.slice pp a.props.length cp] 45)).alloc (.cells #[.int .i64 b.id,.slice ql b.labels.length dl,.slice qp b.props.length dp] 45)) W)=>samePropsD_any ((hpa.below (fun h=>h.below hbc) hbc).below (fun h=>h.below g) g) ((hpb.below (fun h=>h.below hbc) hbc).below (fun h=>h.below g) g))
 have HX:=yh (And.intro hbc (And.intro hx8 hx9))
 have HF:=yh (show sameNQ a b = (decide (a.id = b.id) && decide (a.labels = b.labels) && all2 sameQ a.props b.props) from rfl)
 generalize all2 sameQ a.props b.props = pb at *
 generalize hlb' : decide (a.labels = b.labels) = lb at *
 clear hb1 hb2 hbc hx8 hx9 hla hpa hlb hpb hlb'
 by_cases hi : a.id = b.id
 ·have hie : (a.id == b.id) = true:=by rw [beq_iff_eq];exact hi
  have HI:=yh hi
  clear hi
  cases lb with
  | false =>
    go_enter Tryz.func54,Tryz.ntmps54
    go_wp2_with (first
     | (go_at_call 115;refine HT.out.mono ?_;rintro e W2 ⟨rfl,hb⟩;have HB:=yh (Kaa HX.out.1 hb);clear hb))
    go_ret
    exact ⟨Kam (by rw [HF.out];simp),HB.out⟩
  | true =>
    go_enter Tryz.func54,Tryz.ntmps54
    go_wp2_with (first
     | (go_at_call 115
        (
         refine HT.out.mono ?_
         rintro e W2 ⟨rfl,hb⟩
         have HB:=yh (Kaa HX.out.1 hb)
         have p2 : W2.cell? ⟨w.heap.size,2,none⟩ = some (.slice pp a.props.length cp):=Kah (o:=2) (Kak hb (by simp;omega) HX.out.2.1) rfl
         have p3 : W2.cell? ⟨w.heap.size + 1,2,none⟩ = some (.slice qp b.props.length dp):=Kah (o:=2) (Kak hb (by simp) HX.out.2.2) rfl
         have HP2:=yh (HP.out W2 hb)
         clear hb))
     | (go_at_call 116;refine HP2.out.mono ?_;rintro e W3 ⟨rfl,hb⟩;have HB3:=yh (Kaa HB.out hb);clear hb))
    go_ret
    exact ⟨Kam (by rw [HF.out,decide_eq_true HI.out];simp),HB3.out⟩
 ·have hie : (a.id == b.id) = false:=by rw [beq_eq_false_iff_ne];exact hi
  have HI:=yh hi
  clear hi
  go_enter Tryz.func54,Tryz.ntmps54
  go_wp2
  go_ret
  exact ⟨Kam (by rw [HF.out,decide_eq_false HI.out];rfl),HX.out.1⟩
theorem sameRelD_any {w : World} {a b : RelD} {x y : Array Value} (ha : RRd w a x) (hb : RRd w b y) : Calls Tryz.prog 55 #[.agg x,.agg y] w fun e w'=>e = .returned (.bool (sameRQ a b)) ∧ Below w.heap.size w w':=by
 obtain ⟨pp,cp,rfl,hta,hpa⟩:=ha
 obtain ⟨qp,dp,rfl,htb,hpb⟩:=hb
 have hb1:=Kai (w:=w) (.cells #[.int .i64 a.id,.int .i64 a.src,.int .i64 a.dst,.string (strB a.type),.slice pp a.props.length cp] 49)
 have hb2:=Kai (w:=w.alloc (.cells #[.int .i64 a.id,.int .i64 a.src,.int .i64 a.dst,.string (strB a.type),.slice pp a.props.length cp] 49)) (.cells #[.int .i64 b.id,.int .i64 b.src,.int .i64 b.dst,.string (strB b.type),.slice qp b.props.length dp] 49)
 have hbc:=Kaa hb1 hb2
 have HP:=yh (samePropsD_any (hpa.below (fun h=>h.below hbc) hbc) (hpb.below (fun h=>h.below hbc) hbc))
 have HX:=yh hbc
 have HF:=yh (show sameRQ a b = (decide (a.id = b.id) && decide (a.src = b.src) && decide (a.dst = b.dst) && decide (a.type = b.type) && all2 sameQ a.props b.props) from rfl)
 have hes : ((strB a.type).toList == (strB b.type).toList) = decide (a.type = b.type):=by rw [Ka0,Ka0,Bool.eq_iff_iff,beq_iff_eq,decide_eq_true_iff]
 generalize all2 sameQ a.props b.props = pb at *
 clear hb1 hb2 hbc hta htb hpa hpb
 by_cases h1 : a.id = b.id
 rotate_left
 ·have f1 : (a.id == b.id) = false:=by rw [beq_eq_false_iff_ne];exact h1
  have HN:=yh h1
  clear h1 hes
  go_enter Tryz.func55,Tryz.ntmps55
  go_wp2
  go_ret
  exact ⟨Kam (by rw [HF.out,decide_eq_false HN.out];rfl),HX.out⟩
 have f1 : (a.id == b.id) = true:=by rw [beq_iff_eq];exact h1
 have H1:=yh h1
 clear h1
 by_cases h2 : a.src = b.src
 rotate_left
 ·have f2 : (a.src == b.src) = false:=by rw [beq_eq_false_iff_ne];exact h2
  have HN:=yh h2
  clear h2 hes
  go_enter Tryz.func55,Tryz.ntmps55
  go_wp2
  go_ret
  exact ⟨Kam (by rw [HF.out,decide_eq_false HN.out];simp),HX.out⟩
 have f2 : (a.src == b.src) = true:=by rw [beq_iff_eq];exact h2
 have H2:=yh h2
 clear h2
 by_cases h3 : a.dst = b.dst
 rotate_left
 ·have f3 : (a.dst == b.dst) = false:=by rw [beq_eq_false_iff_ne];exact h3
  have HN:=yh h3
  clear h3 hes
  go_enter Tryz.func55,Tryz.ntmps55
  go_wp2
  go_ret
  exact ⟨Kam (by rw [HF.out,decide_eq_false HN.out];simp),HX.out⟩
 have f3 : (a.dst == b.dst) = true:=by rw [beq_iff_eq];exact h3
 have H3:=yh h3
 clear h3
 by_cases h4 : a.type = b.type
 rotate_left
 ·rw [decide_eq_false h4] at hes
  have HN:=yh h4
  clear h4
  go_enter Tryz.func55,Tryz.ntmps55
  go_wp2
  go_ret
  exact ⟨Kam (by rw [HF.out,decide_eq_false HN.out];simp),HX.out⟩
 rw [decide_eq_true h4] at hes
 have H4:=yh h4
 clear h4
 go_enter Tryz.func55,Tryz.ntmps55
 go_wp2_with (go_at_call 116;refine HP.out.mono ?_;rintro e W3 ⟨rfl,hb⟩;have HB3:=yh (Kaa HX.out hb);clear hb)
 go_ret
 exact ⟨Kam (by rw [HF.out,decide_eq_true H1.out,decide_eq_true H2.out,decide_eq_true H3.out,decide_eq_true H4.out];rfl),HB3.out⟩
theorem sameRefG_any {w : World} {a b : GraphD} {x y : Array Value} (ha : GrRd w a x) (hb : GrRd w b y) : Calls Tryz.prog 17 #[.agg x,.agg y] w fun e w'=>e = .returned (.bool (Kcz a b)) ∧ Below w.heap.size w w':=by
 obtain ⟨pn,cn,pr,cr,rfl,hna,hra⟩:=ha
 obtain ⟨qn,dn,qr,dr,rfl,hnb,hrb⟩:=hb
 have hb1:=Kai (w:=w) (.cells #[.slice pn a.nodes.length cn,.slice pr a.rels.length cr,.int .i64 a.nextNode,.int .i64 a.nextRel] 25)
 have hb2:=Kai (w:=w.alloc (.cells #[.slice pn a.nodes.length cn,.slice pr a.rels.length cr,.int .i64 a.nextNode,.int .i64 a.nextRel] 25)) (.cells #[.slice qn b.nodes.length dn,.slice qr b.rels.length dr,.int .i64 b.nextNode,.int .i64 b.nextRel] 25)
 have hbc:=Kaa hb1 hb2
 have hx8:=Kak hb2 (by simp) (heap_alloc_new w (.cells #[.slice pn a.nodes.length cn,.slice pr a.rels.length cr,.int .i64 a.nextNode,.int .i64 a.nextRel] 25))
 have hx9:=heap_alloc_new (w.alloc (.cells #[.slice pn a.nodes.length cn,.slice pr a.rels.length cr,.int .i64 a.nextNode,.int .i64 a.nextRel] 25)) (.cells #[.slice qn b.nodes.length dn,.slice qr b.rels.length dr,.int .i64 b.nextNode,.int .i64 b.nextRel] 25)
 simp only [World.size_alloc] at hx9
 have z1 : (a.nodes.length : Int) ≤ 140737488355328:=by have:=hna.1.2.1;omega
 have z2 : (a.rels.length : Int) ≤ 140737488355328:=by have:=hra.1.2.1;omega
 have z3 : (b.nodes.length : Int) ≤ 140737488355328:=by have:=hnb.1.2.1;omega
 have z4 : (b.rels.length : Int) ≤ 140737488355328:=by have:=hrb.1.2.1;omega
 have HX:=yh hbc
 have hn1:=hna.below (fun h=>h.below hbc) hbc
 have hn2:=hnb.below (fun h=>h.below hbc) hbc
 have hr1:=hra.below (fun h=>h.below hbc) hbc
 have hr2:=hrb.below (fun h=>h.below hbc) hbc
 have HN:=yh (And.intro hn1 hn2)
 have HR:=yh (And.intro hr1 hr2)
 have q1 : ((w.alloc (.cells #[.slice pn a.nodes.length cn,.slice pr a.rels.length cr,.int .i64 a.nextNode,.int .i64 a.nextRel] 25)).alloc (.cells #[.slice qn b.nodes.length dn,.slice qr b.rels.length dr,.int .i64 b.nextNode,.int .i64 b.nextRel] 25)).cell? ⟨w.heap.size,0,none⟩ = some (.slice pn a.nodes.length cn):=Kah (o:=0) hx8 rfl
 have q2 : ((w.alloc (.cells #[.slice pn a.nodes.length cn,.slice pr a.rels.length cr,.int .i64 a.nextNode,.int .i64 a.nextRel] 25)).alloc (.cells #[.slice qn b.nodes.length dn,.slice qr b.rels.length dr,.int .i64 b.nextNode,.int .i64 b.nextRel] 25)).cell? ⟨w.heap.size + 1,0,none⟩ = some (.slice qn b.nodes.length dn):=Kah (o:=0) hx9 rfl
 have q3 : ((w.alloc (.cells #[.slice pn a.nodes.length cn,.slice pr a.rels.length cr,.int .i64 a.nextNode,.int .i64 a.nextRel] 25)).alloc (.cells #[.slice qn b.nodes.length dn,.slice qr b.rels.length dr,.int .i64 b.nextNode,.int .i64 b.nextRel] 25)).cell? ⟨w.heap.size,1,none⟩ = some (.slice pr a.rels.length cr):=Kah (o:=1) hx8 rfl
 have q4 : ((w.alloc (.cells #[.slice pn a.nodes.length cn,.slice pr a.rels.length cr,.int .i64 a.nextNode,.int .i64 a.nextRel] 25)).alloc (.cells #[.slice qn b.nodes.length dn,.slice qr b.rels.length dr,.int .i64 b.nextNode,.int .i64 b.nextRel] 25)).cell? ⟨w.heap.size + 1,1,none⟩ = some (.slice qr b.rels.length dr):=Kah (o:=1) hx9 rfl
 have HC:=yh (And.intro q1 (And.intro q2 (And.intro q3 q4)))
 clear hb1 hb2 hbc hx8 hx9 hna hnb hra hrb hn1 hn2 hr1 hr2 q1 q2 q3 q4
 have HQ1:=yh (fun e : ¬ a.nextNode = b.nextNode=>show Kcz a b = false by unfold Kcz;rw [decide_eq_false e];simp)
 have HQ2:=yh (fun e : ¬ a.nextRel = b.nextRel=>show Kcz a b = false by unfold Kcz;rw [decide_eq_false e];simp)
 have HQ3:=yh (fun e : ¬ a.nodes.length = b.nodes.length=>show Kcz a b = false by unfold Kcz;rw [all2_ne e];simp)
 have HQ4:=yh (fun e : ¬ a.rels.length = b.rels.length=>show Kcz a b = false by unfold Kcz;rw [all2_ne e];simp)
 have HNO:=yh (And.intro (fun e : all2 sameNQ a.nodes b.nodes = false=>show Kcz a b = false by unfold Kcz;rw [e];simp) (fun e : all2 sameRQ a.rels b.rels = false=>show Kcz a b = false by unfold Kcz;rw [e];simp))
 have HYES:=yh (fun (e3 : a.nextNode = b.nextNode) (e4 : a.nextRel = b.nextRel) (e1 : all2 sameNQ a.nodes b.nodes = true) (e2 : all2 sameRQ a.rels b.rels = true)=>show Kcz a b = true by unfold Kcz;rw [e1,e2,decide_eq_true e3,decide_eq_true e4];rfl)
 generalize a.nextNode = m1 at *
 generalize b.nextNode = m2 at *
 generalize a.nextRel = m3 at *
 generalize b.nextRel = m4 at *
 by_cases h1 : m1 = m2
 rotate_left
 ·have f1 : (m1 == m2) = false:=by rw [beq_eq_false_iff_ne];exact h1
  have f1b : (m1 != m2) = true:=by simp [h1]
  have HF:=yh (HQ1.out h1)
  clear h1
  go_enter Tryz.func17,Tryz.ntmps17
  go_wp2
  go_ret
  exact ⟨Kam HF.out.symm,HX.out⟩
 subst h1
 by_cases h2 : m3 = m4
 rotate_left
 ·have f2 : (m3 == m4) = false:=by rw [beq_eq_false_iff_ne];exact h2
  have f2b : (m3 != m4) = true:=by simp [h2]
  have HF:=yh (HQ2.out h2)
  clear h2
  go_enter Tryz.func17,Tryz.ntmps17
  go_wp2
  go_ret
  exact ⟨Kam HF.out.symm,HX.out⟩
 subst h2
 by_cases h3 : a.nodes.length = b.nodes.length
 rotate_left
 ·have f3 : ¬ (a.nodes.length : Int) = (b.nodes.length : Int):=by omega
  have k3 : ((a.nodes.length : Int) == (b.nodes.length : Int)) = false:=by rw [beq_eq_false_iff_ne];exact f3
  have HF:=yh (HQ3.out h3)
  clear h3
  go_enter Tryz.func17,Tryz.ntmps17
  go_wp2
  go_ret
  exact ⟨Kam HF.out.symm,HX.out⟩
 have HL1:=yh h3
 have f3 : (b.nodes.length : Int) = (a.nodes.length : Int):=by omega
 clear h3
 by_cases h4 : a.rels.length = b.rels.length
 rotate_left
 ·have f4 : ¬ (a.rels.length : Int) = (b.rels.length : Int):=by omega
  have k4 : ((a.rels.length : Int) == (b.rels.length : Int)) = false:=by rw [beq_eq_false_iff_ne];exact f4
  have HF:=yh (HQ4.out h4)
  clear h4
  go_enter Tryz.func17,Tryz.ntmps17
  go_wp2
  go_ret
  exact ⟨Kam HF.out.symm,HX.out⟩
 have HL2:=yh h4
 have f4 : (b.rels.length : Int) = (a.rels.length : Int):=by omega
 clear h4
 go_enter Tryz.func17,Tryz.ntmps17
 go_wp2
 clear f3 f4
 obtain ⟨w2,hw2⟩ : ∃ w2,w2 = ((w.alloc (.cells #[.slice pn a.nodes.length cn,.slice pr a.rels.length cr,.int .i64 m1,.int .i64 m3] 25)).alloc (.cells #[.slice qn b.nodes.length dn,.slice qr b.rels.length dr,.int .i64 m1,.int .i64 m3] 25)):=⟨_,rfl⟩
 rw [← hw2] at HX HN HR HC ⊢
 clear hw2
 go_loopw [5] (fun i W=>∃ j : Nat,j ≤ a.nodes.length ∧ i = .int .i64 (j : Int) ∧ Hid (AllJ sameNQ a.nodes b.nodes j ∧ Below w2.heap.size w2 W)) (fun i _=>a.nodes.length - (intOf i).toNat)
 case atStart=>exact ⟨0,Nat.zero_le _,rfl,yh ⟨AllJ.zero _ _ _,Below.refl _ _⟩⟩
 case round =>
  obtain ⟨j,hj,rfl,HI⟩:=hrel
  have gw : wr.cell? ⟨w.heap.size,0,none⟩ = some (.slice pn a.nodes.length cn):=Kag HI.out.2 (ltOf HC.out.1) HC.out.1
  by_cases hlt : j < a.nodes.length
  ·have hlt1 : j + 1 ≤ a.nodes.length:=hlt
   have hltb : j < b.nodes.length:=by have:=HL1.out;omega
   obtain ⟨b1,o1,y1,rfl,hs1,hcc1,hv1⟩:=(HN.out.1.below (fun h=>h.below HI.out.2) HI.out.2).get hlt
   obtain ⟨b2,o2,y2,rfl,hs2,hcc2,hv2⟩:=(HN.out.2.below (fun h=>h.below HI.out.2) HI.out.2).get hltb
   have g1:=gw
   have g2 : wr.cell? ⟨w.heap.size + 1,0,none⟩ = some (.slice (some ⟨b2,o2,none⟩) b.nodes.length dn):=Kag HI.out.2 (ltOf HC.out.2.1) HC.out.2.1
   have hi1 : ∀ W' : World,(Instr.indexAt 22 (.slice (some ⟨b1,o1,none⟩) a.nodes.length cn) (.int .i64 (j : Int))).run Tryz.prog W' = .ok (.pointer (some ⟨b1,o1 + j * 3,none⟩)) W':=fun W'=>ia_node hlt W'
   have hi2 : ∀ W' : World,(Instr.indexAt 22 (.slice (some ⟨b2,o2,none⟩) b.nodes.length dn) (.int .i64 (j : Int))).run Tryz.prog W' = .ok (.pointer (some ⟨b2,o2 + j * 3,none⟩)) W':=fun W'=>ia_node hltb W'
   have hal:=fun W (g : Below wr.heap.size wr W)=>sameNodeD_any (hv1.below g) (hv2.below g)
   have hno:=all2_no (f:=sameNQ) (j:=j) hlt hltb
   have hye:=HI.out.1.succ hlt hltb
   generalize sameNQ a.nodes[j] b.nodes[j] = av at *
   have HM:=yh (And.intro hno hye)
   have HB1:=yh HI.out.2
   have hB0 : Below wr.heap.size wr wr.drew:=(Below.refl _ wr).drew
   have HY:=yh (And.intro hi1 (And.intro hi2 (And.intro hal (And.intro g1 (And.intro g2 (And.intro hs1 (And.intro hs2 (And.intro hcc1 (And.intro hcc2 hB0)))))))))
   clear hi1 hi2 hal g1 g2 hs1 hs2 hcc1 hcc2 hv1 hv2 hB0 hno hye HI
   go_wp2
   clear gw
   obtain ⟨hi1,hi2,hal,g1,g2,hs1,hs2,hc1,hc2,hB0⟩:=HY.out
   refine Kaf (fun W=>Below wr.heap.size wr W) (by kernel_rfl) hB0 (fun hS=>?_)
   refine tk 0 44 (v:=.pointer (some ⟨w.heap.size,0,none⟩)) rfl rfl (fun W hW=>Kac rfl rfl (fa_gr 0 (by omega) _ W)) ?_
   simp only [Act.put,sA,sZ,sS]
   refine tk 1 45 (v:=.slice (some ⟨b1,o1,none⟩) a.nodes.length cn) rfl rfl (fun W hW=>Kad rfl rfl (Kae (w:=W) Tryz.underlying22 rfl (Kag hW (ltOf g1) g1))) ?_
   simp only [Act.put,sA,sZ,sS]
   refine tk 2 46 (v:=.int .i64 (j : Int)) rfl rfl (fun W hW=>Kab rfl rfl) ?_
   simp only [Act.put,sA,sZ,sS]
   refine tk 3 47 (v:=.pointer (some ⟨b1,o1 + j * 3,none⟩)) rfl rfl (fun W hW=>Kaj rfl rfl rfl (hi1 W)) ?_
   simp only [Act.put,sA,sZ,sS]
   refine tk 4 48 (v:=.agg y1) rfl rfl (fun W hW=>Kad rfl rfl (StT.load (P:=Tryz.prog) (W:=W) Ka7 hs1 fun i u hu=>Kag hW (ltOf (hc1 i u hu)) (hc1 i u hu))) ?_
   simp only [Act.put,sA,sZ,sS]
   refine tk 5 49 (v:=.pointer (some ⟨w.heap.size + 1,0,none⟩)) rfl rfl (fun W hW=>Kac rfl rfl (fa_gr 0 (by omega) _ W)) ?_
   simp only [Act.put,sA,sZ,sS]
   refine tk 6 50 (v:=.slice (some ⟨b2,o2,none⟩) b.nodes.length dn) rfl rfl (fun W hW=>Kad rfl rfl (Kae (w:=W) Tryz.underlying22 rfl (Kag hW (ltOf g2) g2))) ?_
   simp only [Act.put,sA,sZ,sS]
   refine tk 7 51 (v:=.int .i64 (j : Int)) rfl rfl (fun W hW=>Kab rfl rfl) ?_
   simp only [Act.put,sA,sZ,sS]
   refine tk 8 52 (v:=.pointer (some ⟨b2,o2 + j * 3,none⟩)) rfl rfl (fun W hW=>Kaj rfl rfl rfl (hi2 W)) ?_
   simp only [Act.put,sA,sZ,sS]
   refine tk 9 53 (v:=.agg y2) rfl rfl (fun W hW=>Kad rfl rfl (StT.load (P:=Tryz.prog) (W:=W) Ka7 hs2 fun i u hu=>Kag hW (ltOf (hc2 i u hu)) (hc2 i u hu))) ?_
   simp only [Act.put,sA,sZ,sS]
   refine Kao 10 54 rfl rfl (by kernel_rfl) rfl (Kan [.agg y1,.agg y2] rfl rfl Tryz.func54 (by kernel_rfl) (by kernel_rfl)) ?_
   refine (hal _ hS).mono ?_
   rintro e W10 ⟨rfl,hb10⟩
   have hS10:=Kaa hS hb10
   refine ⟨_,rfl,.inr hS10,?_⟩
   simp only [Act.put,sA,sZ,sS]
   refine tk 11 55 (v:=.bool (!av)) rfl rfl (fun W hW=>Kar rfl rfl) ?_
   simp only [Act.put,sA,sZ,sS]
   refine done (by kernel_rfl) ?_ _
   have HB:=yh (Kaa HB1.out hS10)
   clear hi1 hi2 hal g1 g2 hs1 hs2 hc1 hc2 hB0 hS HY hS10 hb10
   cases av with
   | false =>
     have HF:=yh (HNO.out.1 (HM.out.1 rfl))
     clear HM
     go_wp2
     go_ret
     exact ⟨Kam HF.out.symm,Kaa HX.out HB.out⟩
   | true =>
     go_wp2
     go_roundw
     case rel=>exact ⟨j + 1,hlt1,by go_num,yh ⟨HM.out.2 rfl,HB.out⟩⟩
     case measure=>simp [intOf];omega
  ·obtain rfl : j = a.nodes.length:=by omega
   have HAN:=yh (HI.out.1.all HL1.out)
   have HB:=yh HI.out.2
   clear HI
   have gr : wr.cell? ⟨w.heap.size,1,none⟩ = some (.slice pr a.rels.length cr):=Kag HB.out (ltOf HC.out.2.2.1) HC.out.2.2.1
   go_wp2
   clear gw gr
   go_loopw [6] (fun i W=>∃ j : Nat,j ≤ a.rels.length ∧ i = .int .i64 (j : Int) ∧ Hid (AllJ sameRQ a.rels b.rels j ∧ Below w2.heap.size w2 W)) (fun i _=>a.rels.length - (intOf i).toNat)
   case atStart=>exact ⟨0,Nat.zero_le _,rfl,yh ⟨AllJ.zero _ _ _,HB.out⟩⟩
   case round =>
    obtain ⟨j,hj,rfl,HI⟩:=hrel
    have gw : wr.cell? ⟨w.heap.size,1,none⟩ = some (.slice pr a.rels.length cr):=Kag HI.out.2 (ltOf HC.out.2.2.1) HC.out.2.2.1
    by_cases hlt : j < a.rels.length
    ·have hlt1 : j + 1 ≤ a.rels.length:=hlt
     have hltb : j < b.rels.length:=by have:=HL2.out;omega
     obtain ⟨b1,o1,y1,rfl,hs1,hcc1,hv1⟩:=(HR.out.1.below (fun h=>h.below HI.out.2) HI.out.2).get hlt
     obtain ⟨b2,o2,y2,rfl,hs2,hcc2,hv2⟩:=(HR.out.2.below (fun h=>h.below HI.out.2) HI.out.2).get hltb
     have g1:=gw
     have g2 : wr.cell? ⟨w.heap.size + 1,1,none⟩ = some (.slice (some ⟨b2,o2,none⟩) b.rels.length dr):=Kag HI.out.2 (ltOf HC.out.2.2.2) HC.out.2.2.2
     have hi1 : ∀ W' : World,(Instr.indexAt 23 (.slice (some ⟨b1,o1,none⟩) a.rels.length cr) (.int .i64 (j : Int))).run Tryz.prog W' = .ok (.pointer (some ⟨b1,o1 + j * 5,none⟩)) W':=fun W'=>ia_rel hlt W'
     have hi2 : ∀ W' : World,(Instr.indexAt 23 (.slice (some ⟨b2,o2,none⟩) b.rels.length dr) (.int .i64 (j : Int))).run Tryz.prog W' = .ok (.pointer (some ⟨b2,o2 + j * 5,none⟩)) W':=fun W'=>ia_rel hltb W'
     have hal:=fun W (g : Below wr.heap.size wr W)=>sameRelD_any (hv1.below g) (hv2.below g)
     have hno:=all2_no (f:=sameRQ) (j:=j) hlt hltb
     have hye:=HI.out.1.succ hlt hltb
     generalize sameRQ a.rels[j] b.rels[j] = av at *
     have HM:=yh (And.intro hno hye)
     have HB1:=yh HI.out.2
     have hB0 : Below wr.heap.size wr wr.drew:=(Below.refl _ wr).drew
     have HY:=yh (And.intro hi1 (And.intro hi2 (And.intro hal (And.intro g1 (And.intro g2 (And.intro hs1 (And.intro hs2 (And.intro hcc1 (And.intro hcc2 hB0)))))))))
     clear hi1 hi2 hal g1 g2 hs1 hs2 hcc1 hcc2 hv1 hv2 hB0 hno hye HI
     go_wp2
     clear gw
     obtain ⟨hi1,hi2,hal,g1,g2,hs1,hs2,hc1,hc2,hB0⟩:=HY.out
     refine Kaf (fun W=>Below wr.heap.size wr W) (by kernel_rfl) hB0 (fun hS=>?_)
     refine tk 0 63 (v:=.pointer (some ⟨w.heap.size,1,none⟩)) rfl rfl (fun W hW=>Kac rfl rfl (fa_gr 1 (by omega) _ W)) ?_
     simp only [Act.put,sA,sZ,sS]
     refine tk 1 64 (v:=.slice (some ⟨b1,o1,none⟩) a.rels.length cr) rfl rfl (fun W hW=>Kad rfl rfl (Kae (w:=W) Tryz.underlying23 rfl (Kag hW (ltOf g1) g1))) ?_
     simp only [Act.put,sA,sZ,sS]
     refine tk 2 65 (v:=.int .i64 (j : Int)) rfl rfl (fun W hW=>Kab rfl rfl) ?_
     simp only [Act.put,sA,sZ,sS]
     refine tk 3 66 (v:=.pointer (some ⟨b1,o1 + j * 5,none⟩)) rfl rfl (fun W hW=>Kaj rfl rfl rfl (hi1 W)) ?_
     simp only [Act.put,sA,sZ,sS]
     refine tk 4 67 (v:=.agg y1) rfl rfl (fun W hW=>Kad rfl rfl (StT.load (P:=Tryz.prog) (W:=W) Kbv hs1 fun i u hu=>Kag hW (ltOf (hc1 i u hu)) (hc1 i u hu))) ?_
     simp only [Act.put,sA,sZ,sS]
     refine tk 5 68 (v:=.pointer (some ⟨w.heap.size + 1,1,none⟩)) rfl rfl (fun W hW=>Kac rfl rfl (fa_gr 1 (by omega) _ W)) ?_
     simp only [Act.put,sA,sZ,sS]
     refine tk 6 69 (v:=.slice (some ⟨b2,o2,none⟩) b.rels.length dr) rfl rfl (fun W hW=>Kad rfl rfl (Kae (w:=W) Tryz.underlying23 rfl (Kag hW (ltOf g2) g2))) ?_
     simp only [Act.put,sA,sZ,sS]
     refine tk 7 70 (v:=.int .i64 (j : Int)) rfl rfl (fun W hW=>Kab rfl rfl) ?_
     simp only [Act.put,sA,sZ,sS]
     refine tk 8 71 (v:=.pointer (some ⟨b2,o2 + j * 5,none⟩)) rfl rfl (fun W hW=>Kaj rfl rfl rfl (hi2 W)) ?_
     simp only [Act.put,sA,sZ,sS]
     refine tk 9 72 (v:=.agg y2) rfl rfl (fun W hW=>Kad rfl rfl (StT.load (P:=Tryz.prog) (W:=W) Kbv hs2 fun i u hu=>Kag hW (ltOf (hc2 i u hu)) (hc2 i u hu))) ?_
     simp only [Act.put,sA,sZ,sS]
     refine Kao 10 73 rfl rfl (by kernel_rfl) rfl (Kan [.agg y1,.agg y2] rfl rfl Tryz.func55 (by kernel_rfl) (by kernel_rfl)) ?_
     refine (hal _ hS).mono ?_
     rintro e W10 ⟨rfl,hb10⟩
     have hS10:=Kaa hS hb10
     refine ⟨_,rfl,.inr hS10,?_⟩
     simp only [Act.put,sA,sZ,sS]
     refine tk 11 74 (v:=.bool (!av)) rfl rfl (fun W hW=>Kar rfl rfl) ?_
     simp only [Act.put,sA,sZ,sS]
     refine done (by kernel_rfl) ?_ _
     have HB:=yh (Kaa HB1.out hS10)
     clear hi1 hi2 hal g1 g2 hs1 hs2 hc1 hc2 hB0 hS HY hS10 hb10
     cases av with
     | false =>
       have HF:=yh (HNO.out.2 (HM.out.1 rfl))
       clear HM
       go_wp2
       go_ret
       exact ⟨Kam HF.out.symm,Kaa HX.out HB.out⟩
     | true =>
       go_wp2
       go_roundw
       case rel=>exact ⟨j + 1,hlt1,by go_num,yh ⟨HM.out.2 rfl,HB.out⟩⟩
       case measure=>simp [intOf];omega
    ·obtain rfl : j = a.rels.length:=by omega
     have HAR:=yh (HI.out.1.all HL2.out)
     have HB:=yh HI.out.2
     clear HI
     go_wp2
     go_ret
     exact ⟨Kam (HYES.out trivial trivial HAN.out HAR.out).symm,Kaa HX.out HB.out⟩
def SomeB (e : Ending) : Prop:=∃ b : Bool,e = .returned (.bool b)
theorem heavy_any {w : World} {p : Option Addr} {c : Nat} {l : List PropD} (h : GRd PRd 7 w p c l) (ht : ∀ x ∈ l,totV x.val ≤ 1099511627776) : Calls Tryz.prog 31 #[.slice p l.length c] w fun e w'=>SomeB e ∧ Below w.heap.size w w':=by
 have z1 : (l.length : Int) ≤ 140737488355328:=by have:=h.1.2.1;omega
 have H:=yh (And.intro h ht)
 clear h ht
 go_enter Tryz.func31,Tryz.ntmps31
 go_wp2
 go_loopw [3] (fun i W=>∃ j : Nat,j ≤ l.length ∧ i = .int .i64 (j : Int) ∧ Hid (Below w.heap.size w W)) (fun i _=>l.length - (intOf i).toNat)
 case atStart=>exact ⟨0,Nat.zero_le _,rfl,yh (Below.refl _ _)⟩
 case round =>
  obtain ⟨j,hj,rfl,HI⟩:=hrel
  by_cases hlt : j < l.length
  ·have hlt1 : j + 1 ≤ l.length:=hlt
   obtain ⟨b1,o1,cs1,rfl,_,hcc1,hv1⟩:=(H.out.1.below (fun h=>h.below HI.out) HI.out).get hlt
   have hto:=H.out.2 _ (List.getElem_mem hlt)
   obtain ⟨q1,hkl,y1,hu1,r1⟩:=Kdr hv1 hcc1
   have HL:=yh (StT.load (P:=Tryz.prog) (W:=wr) Kdo (ef_val.size hu1) fun i u hu=>r1 i u hu)
   have HZ:=yh (sizeR_any _ wr y1 hto hu1)
   have HK:=yh q1
   have hsz : (strB l[j].key).size = l[j].key.length:=by simp [strB,ByteArray.size]
   clear hcc1 hv1 hu1 r1 hto q1
   generalize (countV l[j].val : Int) = n1 at *
   generalize (Kcl l[j].val : Int) = n2 at *
   generalize l[j].key = s at *
   by_cases a1 : 200 < n1
   ·have a1b : decide (200 < n1) = true:=decide_eq_true a1
    clear a1
    go_wp2_with (first
     | ((with_reducible apply Kap);exact HL.out;exact rfl)
     | (go_at_call 32;refine HZ.out.mono ?_;rintro e W2 ⟨rfl,hb⟩;have HB:=yh (Kaa HI.out hb);have hk0:=Kag hb (ltOf HK.out) HK.out;clear hb))
    go_ret
    exact ⟨⟨_,rfl⟩,HB.out⟩
   have a1b : decide (200 < n1) = false:=decide_eq_false a1
   clear a1
   by_cases a2 : 5000 < n2
   ·have a2b : decide (5000 < n2) = true:=decide_eq_true a2
    clear a2
    go_wp2_with (first
     | ((with_reducible apply Kap);exact HL.out;exact rfl)
     | (go_at_call 32;refine HZ.out.mono ?_;rintro e W2 ⟨rfl,hb⟩;have HB:=yh (Kaa HI.out hb);have hk0:=Kag hb (ltOf HK.out) HK.out;clear hb))
    go_ret
    exact ⟨⟨_,rfl⟩,HB.out⟩
   have a2b : decide (5000 < n2) = false:=decide_eq_false a2
   clear a2
   by_cases a3 : 1000 < (s.length : Int)
   ·have a3b : decide (1000 < (s.length : Int)) = true:=decide_eq_true a3
    go_wp2_with (first
     | ((with_reducible apply Kap);exact HL.out;exact rfl)
     | (go_at_call 32;refine HZ.out.mono ?_;rintro e W2 ⟨rfl,hb⟩;have HB:=yh (Kaa HI.out hb);have hk0:=Kag hb (ltOf HK.out) HK.out;clear hb))
    go_ret
    exact ⟨⟨_,rfl⟩,HB.out⟩
   ·have a3b : decide (1000 < (s.length : Int)) = false:=decide_eq_false a3
    go_wp2_with (first
     | ((with_reducible apply Kap);exact HL.out;exact rfl)
     | (go_at_call 32;refine HZ.out.mono ?_;rintro e W2 ⟨rfl,hb⟩;have HB:=yh (Kaa HI.out hb);have hk0:=Kag hb (ltOf HK.out) HK.out;clear hb))
    go_roundw
    case rel=>exact ⟨j + 1,hlt1,by go_num,HB⟩
    case measure=>simp [intOf];omega
  ·obtain rfl : j = l.length:=by omega
   go_wp2
   go_ret
   exact ⟨⟨_,rfl⟩,HI.out⟩
theorem exec_lenPs {a : Act} {w : World} {o : Oper} {x : Operand} {p : Option Addr} {n c : Nat} (ho : o.op = .call { callee:=.builtin .len,args:=#[x],argTypes:=#[27] }) (hx : a.eval x = .slice p n c) : (execOp a.eval o).run Tryz.prog w = .ok (.value (.int .i64 (n : Int))) w:=by
 unfold execOp;simp only [ho,resolve,invoke,Sem.run_bind,Sem.run_pure,Result.andThen_ok,List.map_toArray,List.map_cons,List.map_nil,hx];simp [go_sem]
theorem exec_lenTs {a : Act} {w : World} {o : Oper} {x : Operand} {p : Option Addr} {n c : Nat} (ho : o.op = .call { callee:=.builtin .len,args:=#[x],argTypes:=#[26] }) (hx : a.eval x = .slice p n c) : (execOp a.eval o).run Tryz.prog w = .ok (.value (.int .i64 (n : Int))) w:=by
 unfold execOp;simp only [ho,resolve,invoke,Sem.run_bind,Sem.run_pure,Result.andThen_ok,List.map_toArray,List.map_cons,List.map_nil,hx];simp [go_sem]
theorem add_len {n m : Nat} (h1 : n ≤ 140737488355328) (h2 : m ≤ 140737488355328) (W : World) : (binOp .add 3 (.int .i64 (n : Int)) (.int .i64 (m : Int))).run Tryz.prog W = .ok (.int .i64 ((n : Int) + (m : Int))) W:=by
 have e : IntKind.i64.wrap ((n : Int) + (m : Int)) = (n : Int) + (m : Int):=by rw [IntKind.wrap_i64];omega
 simp [go_sem,e]
theorem gtr_12 (n : Int) (W : World) : (binOp .gtr 3 (.int .i64 n) (.int .i64 12)).run Tryz.prog W = .ok (.bool (decide (12 < n))) W:=by simp [go_sem]
theorem fa_ndo (i : Nat) (h : i < 3) (b o : Nat) (W : World) : (Instr.fieldAt 45 (.pointer (some ⟨b,o,none⟩)) i).run Tryz.prog W = .ok (.pointer (some ⟨b,o + i,none⟩)) W:=by
 match i,h with
 | 0,_=>simp [go_sem]
 | 1,_=>simp [go_sem]
 | 2,_=>simp [go_sem]
def VastB (g : GraphD) (e : Ending) : Prop:=∃ b : Bool,e = .returned (.bool b) ∧ (b = false → g.nodes.length ≤ 60 ∧ g.rels.length ≤ 60)
theorem vastL_any {w : World} {g : GraphD} {x : Array Value} (h : GrRd w g x) (ht : GTot g) : Calls Tryz.prog 9 #[.agg x] w fun e w'=>VastB g e ∧ Below w.heap.size w w':=by
 obtain ⟨pn,cn,pr,cr,rfl,hn,hr⟩:=h
 have hb1:=Kai (w:=w) (.cells #[.slice pn g.nodes.length cn,.slice pr g.rels.length cr,.int .i64 g.nextNode,.int .i64 g.nextRel] 25)
 have hx1:=heap_alloc_new w (.cells #[.slice pn g.nodes.length cn,.slice pr g.rels.length cr,.int .i64 g.nextNode,.int .i64 g.nextRel] 25)
 have p0 : (w.alloc (.cells #[.slice pn g.nodes.length cn,.slice pr g.rels.length cr,.int .i64 g.nextNode,.int .i64 g.nextRel] 25)).cell? ⟨w.heap.size,0,none⟩ = some (.slice pn g.nodes.length cn):=Kah (o:=0) hx1 rfl
 have p1 : (w.alloc (.cells #[.slice pn g.nodes.length cn,.slice pr g.rels.length cr,.int .i64 g.nextNode,.int .i64 g.nextRel] 25)).cell? ⟨w.heap.size,1,none⟩ = some (.slice pr g.rels.length cr):=Kah (o:=1) hx1 rfl
 have z1 : (g.nodes.length : Int) ≤ 140737488355328:=by have:=hn.1.2.1;omega
 have z2 : (g.rels.length : Int) ≤ 140737488355328:=by have:=hr.1.2.1;omega
 have hn1:=hn.below (fun h=>h.below hb1) hb1
 have hr1:=hr.below (fun h=>h.below hb1) hb1
 have HX:=yh hb1
 have HC:=yh (And.intro p0 p1)
 have HN:=yh (And.intro hn1 hr1)
 have HT:=yh ht
 clear hn hr hb1 hx1 p0 p1 hn1 hr1 ht
 by_cases a1 : (60 : Int) < (g.nodes.length : Int)
 ·have a1b : decide ((60 : Int) < (g.nodes.length : Int)) = true:=decide_eq_true a1
  go_enter Tryz.func9,Tryz.ntmps9
  go_wp2
  go_ret
  exact ⟨⟨_,rfl,by first | (intro _;exact HLN.out) | (intro h;cases h)⟩,HX.out⟩
 have a1b : decide ((60 : Int) < (g.nodes.length : Int)) = false:=decide_eq_false a1
 by_cases a2 : (60 : Int) < (g.rels.length : Int)
 ·have a2b : decide ((60 : Int) < (g.rels.length : Int)) = true:=decide_eq_true a2
  go_enter Tryz.func9,Tryz.ntmps9
  go_wp2
  go_ret
  exact ⟨⟨_,rfl,by first | (intro _;exact HLN.out) | (intro h;cases h)⟩,HX.out⟩
 have a2b : decide ((60 : Int) < (g.rels.length : Int)) = false:=decide_eq_false a2
 have HLN:=yh (show g.nodes.length ≤ 60 ∧ g.rels.length ≤ 60 by omega)
 go_enter Tryz.func9,Tryz.ntmps9
 go_wp2
 clear a1 a1b a2 a2b
 obtain ⟨w2,hw2⟩ : ∃ w2,w2 = (w.alloc (.cells #[.slice pn g.nodes.length cn,.slice pr g.rels.length cr,.int .i64 g.nextNode,.int .i64 g.nextRel] 25)):=⟨_,rfl⟩
 rw [← hw2] at HX HN HC ⊢
 clear hw2
 go_loopw [3] (fun i W=>∃ j : Nat,j ≤ g.nodes.length ∧ i = .int .i64 (j : Int) ∧ Hid (Below w2.heap.size w2 W)) (fun i _=>g.nodes.length - (intOf i).toNat)
 case atStart=>exact ⟨0,Nat.zero_le _,rfl,yh (Below.refl _ _)⟩
 case round =>
  obtain ⟨j,hj,rfl,HI⟩:=hrel
  have gw : wr.cell? ⟨w.heap.size,0,none⟩ = some (.slice pn g.nodes.length cn):=Kag HI.out (ltOf HC.out.1) HC.out.1
  by_cases hlt : j < g.nodes.length
  ·have hlt1 : j + 1 ≤ g.nodes.length:=hlt
   obtain ⟨b1,o1,cs,rfl,_,hcc,hv⟩:=(HN.out.1.below (fun h=>h.below HI.out) HI.out).get hlt
   have htv:=HT.out.1 _ (List.getElem_mem hlt)
   obtain ⟨pl,cl,pp,cp,rfl,hls,hps⟩:=hv
   have g0:=gw
   have c1 : wr.cell? ⟨b1,o1 + j * 3 + 1,none⟩ = some (.slice pl g.nodes[j].labels.length cl):=hcc 1 _ rfl
   have c2 : wr.cell? ⟨b1,o1 + j * 3 + 2,none⟩ = some (.slice pp g.nodes[j].props.length cp):=hcc 2 _ rfl
   have hi1 : ∀ W' : World,(Instr.indexAt 22 (.slice (some ⟨b1,o1,none⟩) g.nodes.length cn) (.int .i64 (j : Int))).run Tryz.prog W' = .ok (.pointer (some ⟨b1,o1 + j * 3,none⟩)) W':=fun W'=>ia_node hlt W'
   have hhv:=fun W (gg : Below wr.heap.size wr W)=>heavy_any (w:=W) (hps.below (fun h=>h.below gg) gg) htv
   have hadd:=fun W=>add_len (n:=g.nodes[j].labels.length) (m:=g.nodes[j].props.length) (by have:=hls.2.1.1;omega) (by have:=hps.1.2.1;omega) W
   have h1:=fun W=>gtr_12 ((g.nodes[j].labels.length : Int) + (g.nodes[j].props.length : Int)) W
   generalize decide (12 < (g.nodes[j].labels.length : Int) + (g.nodes[j].props.length : Int)) = bA at *
   have HB1:=yh HI.out
   have hB0 : Below wr.heap.size wr wr.drew:=(Below.refl _ wr).drew
   clear hps hls hcc htv HI
   generalize g.nodes[j].labels.length = nl at *
   generalize g.nodes[j].props.length = np at *
   have HY:=yh (And.intro hi1 (And.intro hhv (And.intro hadd (And.intro h1 (And.intro g0 (And.intro c1 (And.intro c2 hB0)))))))
   clear hi1 hhv hadd h1 g0 c1 c2 hB0
   go_wp2
   clear gw
   obtain ⟨hi1,hhv,hadd,h1,g0,c1,c2,hB0⟩:=HY.out
   refine Kaf (fun W=>Below wr.heap.size wr W) (by kernel_rfl) hB0 (fun hS=>?_)
   refine tk 0 22 (v:=.pointer (some ⟨w.heap.size,0,none⟩)) rfl rfl (fun W hW=>Kac rfl rfl (fa_gr 0 (by omega) _ W)) ?_
   simp only [Act.put,sA,sZ,sS]
   refine tk 1 23 (v:=.slice (some ⟨b1,o1,none⟩) g.nodes.length cn) rfl rfl (fun W hW=>Kad rfl rfl (Kae (w:=W) Tryz.underlying22 rfl (Kag hW (ltOf g0) g0))) ?_
   simp only [Act.put,sA,sZ,sS]
   refine tk 2 24 (v:=.int .i64 (j : Int)) rfl rfl (fun W hW=>Kab rfl rfl) ?_
   simp only [Act.put,sA,sZ,sS]
   refine tk 3 25 (v:=.pointer (some ⟨b1,o1 + j * 3,none⟩)) rfl rfl (fun W hW=>Kaj rfl rfl rfl (hi1 W)) ?_
   simp only [Act.put,sA,sZ,sS]
   refine tk 4 26 (v:=.pointer (some ⟨b1,o1 + j * 3 + 1,none⟩)) rfl rfl (fun W hW=>Kac rfl rfl (fa_ndo 1 (by omega) _ _ W)) ?_
   simp only [Act.put,sA,sZ,sS]
   refine tk 5 27 (v:=.slice pl nl cl) rfl rfl (fun W hW=>Kad rfl rfl (Kae (w:=W) Tryz.underlying26 rfl (Kag hW (ltOf c1) c1))) ?_
   simp only [Act.put,sA,sZ,sS]
   refine tk 6 28 (v:=.int .i64 (nl : Int)) rfl rfl (fun W hW=>exec_lenTs rfl rfl) ?_
   simp only [Act.put,sA,sZ,sS]
   refine tk 7 29 (v:=.pointer (some ⟨w.heap.size,0,none⟩)) rfl rfl (fun W hW=>Kac rfl rfl (fa_gr 0 (by omega) _ W)) ?_
   simp only [Act.put,sA,sZ,sS]
   refine tk 8 30 (v:=.slice (some ⟨b1,o1,none⟩) g.nodes.length cn) rfl rfl (fun W hW=>Kad rfl rfl (Kae (w:=W) Tryz.underlying22 rfl (Kag hW (ltOf g0) g0))) ?_
   simp only [Act.put,sA,sZ,sS]
   refine tk 9 31 (v:=.int .i64 (j : Int)) rfl rfl (fun W hW=>Kab rfl rfl) ?_
   simp only [Act.put,sA,sZ,sS]
   refine tk 10 32 (v:=.pointer (some ⟨b1,o1 + j * 3,none⟩)) rfl rfl (fun W hW=>Kaj rfl rfl rfl (hi1 W)) ?_
   simp only [Act.put,sA,sZ,sS]
   refine tk 11 33 (v:=.pointer (some ⟨b1,o1 + j * 3 + 2,none⟩)) rfl rfl (fun W hW=>Kac rfl rfl (fa_ndo 2 (by omega) _ _ W)) ?_
   simp only [Act.put,sA,sZ,sS]
   refine tk 12 34 (v:=.slice pp np cp) rfl rfl (fun W hW=>Kad rfl rfl (Kae (w:=W) Tryz.underlying27 rfl (Kag hW (ltOf c2) c2))) ?_
   simp only [Act.put,sA,sZ,sS]
   refine tk 13 35 (v:=.int .i64 (np : Int)) rfl rfl (fun W hW=>exec_lenPs rfl rfl) ?_
   simp only [Act.put,sA,sZ,sS]
   refine tk 14 36 (v:=.int .i64 ((nl : Int) + (np : Int))) rfl rfl (fun W hW=>Kal rfl rfl rfl (hadd W)) ?_
   simp only [Act.put,sA,sZ,sS]
   cases bA with
   | true =>
     refine tk 15 37 (v:=.bool true) rfl rfl (fun W hW=>Kal rfl rfl rfl (h1 W)) ?_
     simp only [Act.put,sA,sZ,sS]
     refine tk 16 38 (v:=.bool true) rfl rfl (fun W hW=>Kab rfl rfl) ?_
     simp only [Act.put,sA,sZ,sS]
     refine tn 17 39 rfl rfl ?_
     simp only [Act.put,sA,sZ,sS]
     refine tn 18 40 rfl rfl ?_
     simp only [Act.put,sA,sZ,sS]
     refine tn 19 41 rfl rfl ?_
     simp only [Act.put,sA,sZ,sS]
     refine tn 20 42 rfl rfl ?_
     simp only [Act.put,sA,sZ,sS]
     refine tn 21 43 rfl rfl ?_
     simp only [Act.put,sA,sZ,sS]
     refine tn 22 44 rfl rfl ?_
     simp only [Act.put,sA,sZ,sS]
     refine Kau 23 45 rfl rfl (by kernel_rfl) rfl ?_ (.inr (by assumption))
     simp only [Act.put,sA,sZ,sS]
     refine tk 24 46 (v:=.bool true) rfl rfl (fun W hW=>rfl) ?_
     simp only [Act.put,sA,sZ,sS]
     refine done (by kernel_rfl) ?_ _
     have HB:=yh (Kaa HB1.out hS)
     clear hS hi1 hhv hadd h1 g0 c1 c2 hB0 HY
     go_wp2
     go_ret
     exact ⟨⟨_,rfl,by first | (intro _;exact HLN.out) | (intro h;cases h)⟩,Kaa HX.out HB.out⟩
   | false =>
     refine tk 15 37 (v:=.bool false) rfl rfl (fun W hW=>Kal rfl rfl rfl (h1 W)) ?_
     simp only [Act.put,sA,sZ,sS]
     refine tk 16 38 (v:=.bool false) rfl rfl (fun W hW=>Kab rfl rfl) ?_
     simp only [Act.put,sA,sZ,sS]
     refine tk 17 39 (v:=.pointer (some ⟨w.heap.size,0,none⟩)) rfl rfl (fun W hW=>Kac rfl rfl (fa_gr 0 (by omega) _ W)) ?_
     simp only [Act.put,sA,sZ,sS]
     refine tk 18 40 (v:=.slice (some ⟨b1,o1,none⟩) g.nodes.length cn) rfl rfl (fun W hW=>Kad rfl rfl (Kae (w:=W) Tryz.underlying22 rfl (Kag hW (ltOf g0) g0))) ?_
     simp only [Act.put,sA,sZ,sS]
     refine tk 19 41 (v:=.int .i64 (j : Int)) rfl rfl (fun W hW=>Kab rfl rfl) ?_
     simp only [Act.put,sA,sZ,sS]
     refine tk 20 42 (v:=.pointer (some ⟨b1,o1 + j * 3,none⟩)) rfl rfl (fun W hW=>Kaj rfl rfl rfl (hi1 W)) ?_
     simp only [Act.put,sA,sZ,sS]
     refine tk 21 43 (v:=.pointer (some ⟨b1,o1 + j * 3 + 2,none⟩)) rfl rfl (fun W hW=>Kac rfl rfl (fa_ndo 2 (by omega) _ _ W)) ?_
     simp only [Act.put,sA,sZ,sS]
     refine tk 22 44 (v:=.slice pp np cp) rfl rfl (fun W hW=>Kad rfl rfl (Kae (w:=W) Tryz.underlying27 rfl (Kag hW (ltOf c2) c2))) ?_
     simp only [Act.put,sA,sZ,sS]
     refine Kao 23 45 rfl rfl (by kernel_rfl) rfl (Kan [.slice pp np cp] rfl rfl Tryz.func31 (by kernel_rfl) (by kernel_rfl)) ?_
     refine (hhv _ hS).mono ?_
     rintro e W23 ⟨⟨bh,rfl⟩,hb23⟩
     have hS23:=Kaa hS hb23
     refine ⟨_,rfl,.inr hS23,?_⟩
     simp only [Act.put,sA,sZ,sS]
     refine tk 24 46 (v:=.bool bh) rfl rfl (fun W hW=>rfl) ?_
     simp only [Act.put,sA,sZ,sS]
     refine done (by kernel_rfl) ?_ _
     have HB:=yh (Kaa HB1.out hS23)
     clear hS hS23 hb23 hi1 hhv hadd h1 g0 c1 c2 hB0 HY
     cases bh with
     | true =>
       go_wp2
       go_ret
       exact ⟨⟨_,rfl,by first | (intro _;exact HLN.out) | (intro h;cases h)⟩,Kaa HX.out HB.out⟩
     | false =>
       go_wp2
       go_roundw
       case rel=>exact ⟨j + 1,hlt1,by go_num,yh HB.out⟩
       case measure=>simp [intOf];omega
  ·obtain rfl : j = g.nodes.length:=by omega
   have HB:=yh HI.out
   have gr : wr.cell? ⟨w.heap.size,1,none⟩ = some (.slice pr g.rels.length cr):=Kag HB.out (ltOf HC.out.2) HC.out.2
   clear HI
   go_wp2
   clear gw gr
   go_loopw [4] (fun i W=>∃ j : Nat,j ≤ g.rels.length ∧ i = .int .i64 (j : Int) ∧ Hid (Below w2.heap.size w2 W)) (fun i _=>g.rels.length - (intOf i).toNat)
   case atStart=>exact ⟨0,Nat.zero_le _,rfl,yh HB.out⟩
   case round =>
    rename_i wr0 wr
    clear HB
    obtain ⟨j,hj,rfl,HI⟩:=hrel
    have gw : wr.cell? ⟨w.heap.size,1,none⟩ = some (.slice pr g.rels.length cr):=Kag HI.out (ltOf HC.out.2) HC.out.2
    by_cases hlt : j < g.rels.length
    ·have hlt1 : j + 1 ≤ g.rels.length:=hlt
     obtain ⟨b1,o1,cs,rfl,_,hcc,hv⟩:=(HN.out.2.below (fun h=>h.below HI.out) HI.out).get hlt
     have htv:=HT.out.2 _ (List.getElem_mem hlt)
     obtain ⟨pp,cp,rfl,hty,hps⟩:=hv
     have c4 : wr.cell? ⟨b1,o1 + j * 5 + 4,none⟩ = some (.slice pp g.rels[j].props.length cp):=hcc 4 _ rfl
     have HV:=yh (heavy_any hps htv)
     clear hps hty hcc htv
     generalize g.rels[j].props.length = np at *
     by_cases a3 : (12 : Int) < (np : Int)
     ·have a3b : decide ((12 : Int) < (np : Int)) = true:=decide_eq_true a3
      go_wp2
      go_ret
      exact ⟨⟨_,rfl,by first | (intro _;exact HLN.out) | (intro h;cases h)⟩,Kaa HX.out HI.out⟩
     have a3b : decide ((12 : Int) < (np : Int)) = false:=decide_eq_false a3
     go_wp2_with (go_at_call 31;refine HV.out.mono ?_;rintro e W2 ⟨⟨bh,rfl⟩,hb⟩;have HB:=yh (Kaa HI.out hb);clear hb;cases bh)
     ·go_roundw
      case rel=>exact ⟨j + 1,hlt1,by go_num,HB⟩
      case measure=>simp [intOf];omega
     ·go_ret
      exact ⟨⟨_,rfl,by first | (intro _;exact HLN.out) | (intro h;cases h)⟩,Kaa HX.out HB.out⟩
    ·obtain rfl : j = g.rels.length:=by omega
     go_wp2
     go_ret
     exact ⟨⟨_,rfl,by first | (intro _;exact HLN.out) | (intro h;cases h)⟩,Kaa HX.out HI.out⟩
theorem vast_any {w : World} {g : GraphD} {x : Array Value} (h : GrRd w g x) (ht : GTot g) : Calls Tryz.prog 9 #[.agg x] w fun e w'=>SomeB e ∧ Below w.heap.size w w':=(vastL_any h ht).mono fun e w' h=>⟨⟨h.1.choose,h.1.choose_spec.1⟩,h.2⟩
theorem Kbs : EF GrRd 4:=by
 refine ⟨fun h g=>h.below g,fun h=>?_,fun h u hu=>?_⟩
 ·obtain ⟨pn,cn,pr,cr,rfl,_⟩:=h;rfl
 ·obtain ⟨pn,cn,pr,cr,rfl,_⟩:=h
  simp only [List.mem_cons,List.not_mem_nil,or_false] at hu
  rcases hu with rfl | rfl | rfl | rfl <;> rfl
def Lies (g : Nat) (T : TypeId) (x : Array Value) (W : World) : Prop:=W.heap[g]? = some (.cells x T (0,0))
theorem Lies.below {g : Nat} {T : TypeId} {x : Array Value} {W W' : World} (h : Lies g T x W) (b : Below W.heap.size W W') : Lies g T x W':=Kak b (Array.getElem?_eq_some_iff.1 h).1 h
theorem Lies.get {g : Nat} {x : Array Value} {W : World} (h : Lies g 25 x W) (hs : x.size = 4) : (loadVar 25 ⟨g,0,none⟩).run Tryz.prog W = .ok (.agg x) W:=StT.get Kay hs h
theorem Lies.new (x : Array Value) (T : TypeId) (w : World) : Lies w.heap.size T x (w.alloc (.cells x T)):=heap_alloc_new w _
structure LQ2 (w W : World) (g o : GraphD) (x y : Array Value) : Prop where
 b1 : Lies w.heap.size 25 x W
 b2 : Lies (w.heap.size + 1) 25 y W
 gx : GrRd W g x
 ox : GrRd W o y
 b : Below w.heap.size w W
section
variable {w W W' : World} {g o : GraphD} {x y : Array Value}
theorem LQ2.below (h : LQ2 w W g o x y) (k : Below W.heap.size W W') : LQ2 w W' g o x y:=⟨h.b1.below k,h.b2.below k,h.gx.below k,h.ox.below k,Kaa h.b k⟩
theorem LQ2.lg (h : LQ2 w W g o x y) : (loadVar 25 ⟨w.heap.size,0,none⟩).run Tryz.prog W = .ok (.agg x) W:=h.b1.get (Kbs.size h.gx)
theorem LQ2.lo (h : LQ2 w W g o x y) : (loadVar 25 ⟨w.heap.size + 1,0,none⟩).run Tryz.prog W = .ok (.agg y) W:=h.b2.get (Kbs.size h.ox)
theorem LQ2.start (h1 : GrRd w g x) (h2 : GrRd w o y) : LQ2 w ((w.alloc (.cells x 25)).alloc (.cells y 25)) g o x y:=by
 have b1:=Kai (w:=w) (.cells x 25)
 have b2:=Kai (w:=w.alloc (.cells x 25)) (.cells y 25)
 have hb:=Kaa b1 b2
 have e2:=Lies.new y 25 (w.alloc (.cells x 25))
 rw [World.size_alloc] at e2
 exact ⟨(Lies.new x _ w).below b2,e2,h1.below hb,h2.below hb,hb⟩
end
theorem PsOk.tot {l : List PropD} (h : PsOk l) : ∀ x ∈ l,totV x.val ≤ 1099511627776:=fun x hx=>by have:=(h.2 x hx).2;omega
theorem GOk.tot {g : GraphD} (h : GOk g) : GTot g:=⟨fun n hn=>(h.2.2.1 n hn).2.2.tot,fun r hr=>(h.2.2.2 r hr).2.tot⟩
theorem copy_end {w W : World} {g : GraphD} {ov rv : Value} {r c : Nat} (h1 : GOwn NOwn 45 3 W (fun b=>w.heap.size ≤ b ∧ b ≠ r ∧ b ≠ c) ov g.nodes) (h2 : GOwn ROwn 49 5 W (fun b=>w.heap.size ≤ b ∧ b ≠ r ∧ b ≠ c) rv g.rels)
 (hx : W.heap[r]? = some (.cells grZ 25 (0,0))) (hc : W.heap[c]? = some (.cells (Kat ov rv g.nextNode g.nextRel) 25 (0,0))) (hr : w.heap.size ≤ r) (hb : Below w.heap.size w W) :
 (loadVar 25 ⟨c,0,none⟩).run Tryz.prog W = .ok (.agg (Kat ov rv g.nextNode g.nextRel)) W ∧ ∃ W9,(storeVar 25 ⟨r,0,none⟩ (.agg (Kat ov rv g.nextNode g.nextRel))).run Tryz.prog W = .ok () W9 ∧ (loadVar 25 ⟨r,0,none⟩).run Tryz.prog W9 = .ok (.agg (Kat ov rv g.nextNode g.nextRel)) W9 ∧
   GrOwn W9 (fun b=>w.heap.size ≤ b) g (Kat ov rv g.nextNode g.nextRel) ∧ Below w.heap.size w W9:=by
 have o1 : ov.oneCell' = true:=by obtain ⟨xs,h,_⟩:=h1;exact Kdb h
 have o2 : rv.oneCell' = true:=by obtain ⟨xs,h,_⟩:=h2;exact Kdb h
 have h1c : ∀ u ∈ (Kat ov rv g.nextNode g.nextRel).toList,u.oneCell' = true:=fun u hu=>by
  simp only [Kat,List.mem_cons,List.not_mem_nil,or_false] at hu
  rcases hu with rfl | rfl | rfl | rfl <;> first | assumption | rfl
 have hk : ∀ b,b ≠ r → (W.setRow r (Kat ov rv g.nextNode g.nextRel)).heap[b]? = W.heap[b]?:=fun b hb=>setRow_other W _ b _ hb
 exact ⟨StT.get (P:=Tryz.prog) Kay rfl hc,_,StT.put (P:=Tryz.prog) Kay rfl h1c hx rfl,StT.get (P:=Tryz.prog) Kay rfl (setRow_heap W _ _ _ _ _ hx),
  ⟨_,_,rfl,(h1.keep Kax fun b hb _=>hk b hb.2.1).imp Kax fun b _ hb=>hb.1,(h2.keep Ka9 fun b hb _=>hk b hb.2.1).imp Ka9 fun b _ hb=>hb.1⟩,Kdp hb hr _⟩
theorem copyG_any {w : World} {g : GraphD} {x : Array Value} (h : GrRd w g x) (hk : GOk g) : Calls Tryz.prog 13 #[.agg x] w fun e w'=>∃ y,e = .returned (.agg y) ∧ GrOwn w' (fun b=>w.heap.size ≤ b) g y ∧ Below w.heap.size w w':=by
 obtain ⟨pn,cn,pr,cr,rfl,hn,hr⟩:=h
 have hb1:=Kai (w:=w) (.cells #[.slice pn g.nodes.length cn,.slice pr g.rels.length cr,.int .i64 g.nextNode,.int .i64 g.nextRel] 25)
 have hb2:=Kai (w:=w.alloc (.cells #[.slice pn g.nodes.length cn,.slice pr g.rels.length cr,.int .i64 g.nextNode,.int .i64 g.nextRel] 25)) (.cells #[.slice none 0 0,.slice none 0 0,.int .i64 0,.int .i64 0] 25)
 have hb3:=Kai (w:=(w.alloc (.cells #[.slice pn g.nodes.length cn,.slice pr g.rels.length cr,.int .i64 g.nextNode,.int .i64 g.nextRel] 25)).alloc (.cells #[.slice none 0 0,.slice none 0 0,.int .i64 0,.int .i64 0] 25)) (.cells #[.slice none 0 0,.slice none 0 0,.int .i64 g.nextNode,.int .i64 g.nextRel] 25)
 have hbc:=Kaa hb1 (Kaa hb2 hb3)
 have hx1:=Kak hb3 (by simp;omega) (Kak hb2 (by simp) (heap_alloc_new w (.cells #[.slice pn g.nodes.length cn,.slice pr g.rels.length cr,.int .i64 g.nextNode,.int .i64 g.nextRel] 25)))
 have hx2:=heap_alloc_new (w.alloc (.cells #[.slice pn g.nodes.length cn,.slice pr g.rels.length cr,.int .i64 g.nextNode,.int .i64 g.nextRel] 25)) (.cells #[.slice none 0 0,.slice none 0 0,.int .i64 0,.int .i64 0] 25)
 have hx3:=heap_alloc_new ((w.alloc (.cells #[.slice pn g.nodes.length cn,.slice pr g.rels.length cr,.int .i64 g.nextNode,.int .i64 g.nextRel] 25)).alloc (.cells #[.slice none 0 0,.slice none 0 0,.int .i64 0,.int .i64 0] 25)) (.cells #[.slice none 0 0,.slice none 0 0,.int .i64 g.nextNode,.int .i64 g.nextRel] 25)
 simp only [World.size_alloc] at hx2 hx3
 have hx2':=Kak hb3 (by simp) hx2
 have HST:=yh (StT.fresh (P:=Tryz.prog) (cs:=#[.slice none 0 0,.slice none 0 0,.int .i64 g.nextNode,.int .i64 g.nextRel]) Kay rfl (by simp [Value.oneCell']) (W:=(w.alloc (.cells #[.slice pn g.nodes.length cn,.slice pr g.rels.length cr,.int .i64 g.nextNode,.int .i64 g.nextRel] 25)).alloc (.cells #[.slice none 0 0,.slice none 0 0,.int .i64 0,.int .i64 0] 25)))
 have z1 : (g.nodes.length : Int) ≤ 1100000:=by have:=hk.1;omega
 have z2 : (g.rels.length : Int) ≤ 1100000:=by have:=hk.2.1;omega
 have HN:=yh (And.intro hn (And.intro hr (And.intro hk.2.2.1 (And.intro hk.2.2.2 (And.intro hk.1 hk.2.1)))))
 have q0 : (((w.alloc (.cells #[.slice pn g.nodes.length cn,.slice pr g.rels.length cr,.int .i64 g.nextNode,.int .i64 g.nextRel] 25)).alloc (.cells #[.slice none 0 0,.slice none 0 0,.int .i64 0,.int .i64 0] 25)).alloc (.cells #[.slice none 0 0,.slice none 0 0,.int .i64 g.nextNode,.int .i64 g.nextRel] 25)).cell? ⟨w.heap.size,0,none⟩ = some (.slice pn g.nodes.length cn):=Kah (o:=0) hx1 rfl
 have hzz : w.heap.size + 3 ≤ (((w.alloc (.cells #[.slice pn g.nodes.length cn,.slice pr g.rels.length cr,.int .i64 g.nextNode,.int .i64 g.nextRel] 25)).alloc (.cells #[.slice none 0 0,.slice none 0 0,.int .i64 0,.int .i64 0] 25)).alloc (.cells #[.slice none 0 0,.slice none 0 0,.int .i64 g.nextNode,.int .i64 g.nextRel] 25)).heap.size:=by simp
 have HX:=yh (show Below w.heap.size w (((w.alloc (.cells #[.slice pn g.nodes.length cn,.slice pr g.rels.length cr,.int .i64 g.nextNode,.int .i64 g.nextRel] 25)).alloc (.cells #[.slice none 0 0,.slice none 0 0,.int .i64 0,.int .i64 0] 25)).alloc (.cells #[.slice none 0 0,.slice none 0 0,.int .i64 g.nextNode,.int .i64 g.nextRel] 25)) ∧ (((w.alloc (.cells #[.slice pn g.nodes.length cn,.slice pr g.rels.length cr,.int .i64 g.nextNode,.int .i64 g.nextRel] 25)).alloc (.cells #[.slice none 0 0,.slice none 0 0,.int .i64 0,.int .i64 0] 25)).alloc (.cells #[.slice none 0 0,.slice none 0 0,.int .i64 g.nextNode,.int .i64 g.nextRel] 25)).heap[w.heap.size + 2]? = some (.cells (Kat (.slice none 0 0) (.slice none 0 0) g.nextNode g.nextRel) 25 (0,0)) ∧ w.heap.size + 3 ≤ (((w.alloc (.cells #[.slice pn g.nodes.length cn,.slice pr g.rels.length cr,.int .i64 g.nextNode,.int .i64 g.nextRel] 25)).alloc (.cells #[.slice none 0 0,.slice none 0 0,.int .i64 0,.int .i64 0] 25)).alloc (.cells #[.slice none 0 0,.slice none 0 0,.int .i64 g.nextNode,.int .i64 g.nextRel] 25)).heap.size ∧ (((w.alloc (.cells #[.slice pn g.nodes.length cn,.slice pr g.rels.length cr,.int .i64 g.nextNode,.int .i64 g.nextRel] 25)).alloc (.cells #[.slice none 0 0,.slice none 0 0,.int .i64 0,.int .i64 0] 25)).alloc (.cells #[.slice none 0 0,.slice none 0 0,.int .i64 g.nextNode,.int .i64 g.nextRel] 25)).heap[w.heap.size + 1]? = some (.cells grZ 25 (0,0)) ∧ (((w.alloc (.cells #[.slice pn g.nodes.length cn,.slice pr g.rels.length cr,.int .i64 g.nextNode,.int .i64 g.nextRel] 25)).alloc (.cells #[.slice none 0 0,.slice none 0 0,.int .i64 0,.int .i64 0] 25)).alloc (.cells #[.slice none 0 0,.slice none 0 0,.int .i64 g.nextNode,.int .i64 g.nextRel] 25)).heap[w.heap.size]? = some (.cells #[.slice pn g.nodes.length cn,.slice pr g.rels.length cr,.int .i64 g.nextNode,.int .i64 g.nextRel] 25 (0,0)) from ⟨hbc,hx3,hzz,hx2',hx1⟩)
 clear hb1 hb2 hb3 hbc hx1 hx2 hx2' hx3 hn hr hk hzz
 go_enter Tryz.func13,Tryz.ntmps13
 go_wp2_with ((with_reducible apply Kaq);exact HST.out _ rfl;exact rfl;exact rfl;clear HST)
 clear q0
 generalize ((w.alloc (.cells #[.slice pn g.nodes.length cn,.slice pr g.rels.length cr,.int .i64 g.nextNode,.int .i64 g.nextRel] 25)).alloc (.cells #[.slice none 0 0,.slice none 0 0,.int .i64 0,.int .i64 0] 25)).alloc (.cells #[.slice none 0 0,.slice none 0 0,.int .i64 g.nextNode,.int .i64 g.nextRel] 25) = w3 at *
 have HI0:=yh (show ∃ po co,GIn NOwn 45 3 (fun b=>w3.heap.size ≤ b) w3 (.slice po (g.nodes.take 0).length co) (g.nodes.take 0) ∧ Touch (fun b=>b = w.heap.size + 2) w3 w3 ∧ w3.heap[w.heap.size + 2]? = some (.cells (Kat (.slice po (g.nodes.take 0).length co) (.slice none 0 0) g.nextNode g.nextRel) 25 (0,0)) from ⟨none,0,GIn.start,Touch.refl _ _,HX.out.2.1⟩)
 go_loopw [16] (fun i wr=>∃ j : Nat,j ≤ g.nodes.length ∧ i = .int .i64 (j : Int) ∧ Hid (∃ po co,GIn NOwn 45 3 (fun b=>w3.heap.size ≤ b) wr (.slice po (g.nodes.take j).length co) (g.nodes.take j) ∧ Touch (fun b=>b = w.heap.size + 2) w3 wr ∧ wr.heap[w.heap.size + 2]? = some (.cells (Kat (.slice po (g.nodes.take j).length co) (.slice none 0 0) g.nextNode g.nextRel) 25 (0,0)))) (fun i _=>g.nodes.length - (intOf i).toNat)
 case atStart=>exact ⟨0,Nat.zero_le _,rfl,HI0⟩
 case round =>
  obtain ⟨j,hj,rfl,HJ⟩:=hrel
  by_cases hlt : j < g.nodes.length
  ·have hlt1:=Nat.succ_le_of_lt hlt
   obtain ⟨po,co,hI,hT,hc⟩:=HJ.out
   have hbr:=hT.below (B:=w.heap.size) HX.out.1 (fun b hb e=>by omega) HX.out.1.size
   have h3:=HX.out.2.2.1
   obtain ⟨b1,o1,cs,rfl,hsz,hcc,hv⟩:=(HN.out.1.below (fun h=>h.below hbr) hbr).get hlt
   have htn:=HN.out.2.2.1 _ (List.getElem_mem hlt)
   have hok:=node_okT htn
   have HL1:=yh (StT.load (P:=Tryz.prog) (g:=b1) (o:=o1 + j * 3) (W:=wr) Ka7 hsz fun i u hu=>hcc i u hu)
   have HS1:=yh (StT.fresh Ka7 hsz (Kbo.ones hv) (W:=wr))
   have hbn:=Kai (w:=wr) (.cells cs 45)
   have hcall:=Kdh ((hv.below hbn).below (Below.refl _ _).drew) hok.1 hok.2
   have htk : g.nodes.take (j + 1) = g.nodes.take j ++ [g.nodes[j]]:=List.take_succ_eq_append_getElem hlt
   have hl1 : (g.nodes.take j).length ≤ 1100000:=by rw [List.length_take];have:=HN.out.2.2.2.2;omega
   have hzz : w.heap.size + 3 ≤ wr.heap.size:=Nat.le_trans h3 hT.size
   have hS0 : (wr.alloc (.cells cs 45)).drew.heap[w.heap.size + 2]? = some (.cells (Kat (.slice po (g.nodes.take j).length co) (.slice none 0 0) g.nextNode g.nextRel) 25 (0,0)) ∧ (wr.alloc (.cells cs 45)).drew.heap[wr.heap.size]? = some (.cells cs 45 (0,0)):=⟨Kak hbn.drew (Array.getElem?_eq_some_iff.1 hc).1 hc,heap_alloc_new wr _⟩
   have HY:=yh (And.intro hI (And.intro hT (And.intro hc (And.intro hcall (And.intro htk (And.intro hl1 (And.intro hS0 (And.intro hbn (And.intro hsz (And.intro hzz h3))))))))))
   generalize g.nodes[j] = nj at *
   clear hbr hcc hv htn hok hcall htk hl1 hS0 hI hT hc hbn hsz hzz h3
   go_wp2_with (first
    | ((with_reducible apply Kap);exact HL1.out;exact rfl;clear HL1)
    | ((with_reducible apply Kaq);exact HS1.out _ rfl;exact rfl;exact rfl;clear HS1))
   obtain ⟨hI,hT,hc,hcall,htk,hl1,hS0,hbn,hsz,hzz,h3⟩:=HY.out
   refine Kaf (fun W=>W.heap[w.heap.size + 2]? = some (.cells (Kat (.slice po (g.nodes.take j).length co) (.slice none 0 0) g.nextNode g.nextRel) 25 (0,0)) ∧ W.heap[wr.heap.size]? = some (.cells cs 45 (0,0))) (by kernel_rfl) hS0 (fun hS=>?_)
   refine tk 0 20 (v:=.pointer (some ⟨w.heap.size + 2,0,none⟩)) rfl rfl (fun W hW=>Kac rfl rfl (fa_api 0 (by omega) _ W)) ?_
   simp only [Act.put,sA,sZ,sS]
   refine tk 1 21 (v:=.slice po (g.nodes.take j).length co) rfl rfl (fun W hW=>Kad rfl rfl (Kae (w:=W) Tryz.underlying22 rfl (Kah (o:=0) hW.1 rfl))) ?_
   simp only [Act.put,sA,sZ,sS]
   refine tk 2 22 (v:=.agg cs) rfl rfl (fun W hW=>Kad rfl rfl (StT.get (P:=Tryz.prog) Ka7 hsz hW.2)) ?_
   simp only [Act.put,sA,sZ,sS]
   refine Kao 3 23 rfl rfl (by kernel_rfl) rfl (Kan [.agg cs] rfl rfl Tryz.func39 (by kernel_rfl) (by kernel_rfl)) ?_
   refine hcall.mono ?_
   rintro e W8 ⟨x8,rfl,hx8,hb8⟩
   have hbw8:=Kaa (Below.refl _ _).drew hb8
   have hI1:=hI.kept (W':=wr.alloc (.cells cs 45)) Kax (P':=fun b=>w3.heap.size ≤ b) (fun b _ hl=>hbn.block b hl) (fun b _ h=>h)
   have hT1:=hT.grow hbn
   have hbs : (Instr.buildSlice 22 1 #[(0,.agg x8)]).run Tryz.prog W8 = .ok (.slice (some ⟨W8.heap.size,0,none⟩) 1 1) (W8.alloc (.cells x8 45)):=Kas Tryz.underlying22 Tryz.sizeOf45 Tryz.zeroValue45 (Kax.size hx8) (by omega) (by omega)
   obtain ⟨pq,cq,W10,a1,a2,a3,a4,a5,a6,a7⟩:=tell_push (i:=0) Kax gt_node (fun h1 h2=>put_nodesT h1 h2) hI1 hT1 hS0.1 (by omega) (by simp [Kat]) hbw8 hx8 hl1
   have hS8 : W8.heap[w.heap.size + 2]? = some (.cells (Kat (.slice po (g.nodes.take j).length co) (.slice none 0 0) g.nextNode g.nextRel) 25 (0,0)) ∧ W8.heap[wr.heap.size]? = some (.cells cs 45 (0,0)):=⟨Kak hb8 (Array.getElem?_eq_some_iff.1 hS0.1).1 hS0.1,Kak hb8 (Array.getElem?_eq_some_iff.1 hS0.2).1 hS0.2⟩
   have hS9 : (W8.alloc (.cells x8 45)).heap[w.heap.size + 2]? = some (.cells (Kat (.slice po (g.nodes.take j).length co) (.slice none 0 0) g.nextNode g.nextRel) 25 (0,0)) ∧ (W8.alloc (.cells x8 45)).heap[wr.heap.size]? = some (.cells cs 45 (0,0)):=⟨Kak (Kai _) (Array.getElem?_eq_some_iff.1 hS8.1).1 hS8.1,Kak (Kai _) (Array.getElem?_eq_some_iff.1 hS8.2).1 hS8.2⟩
   have hS10 : W10.heap[w.heap.size + 2]? = some (.cells (Kat (.slice po (g.nodes.take j).length co) (.slice none 0 0) g.nextNode g.nextRel) 25 (0,0)) ∧ W10.heap[wr.heap.size]? = some (.cells cs 45 (0,0)):=⟨a2,(a3 _ (by simp) (fun e=>by have:=(hI.lt _ e).1;omega)).trans hS0.2⟩
   refine ⟨_,rfl,.inr hS8,?_⟩
   simp only [Act.put,sA,sZ,sS]
   refine Kce 4 24 (v:=.slice (some ⟨W8.heap.size,0,none⟩) 1 1) rfl rfl (by kernel_rfl) rfl (Kaz rfl rfl hbs) (.inr (by assumption)) ?_
   simp only [Act.put,sA,sZ,sS]
   refine Kce 5 25 (v:=.slice pq ((g.nodes.take j).length + 1) cq) rfl rfl (by kernel_rfl) rfl (Kch rfl rfl rfl a1) (.inr (by assumption)) ?_
   simp only [Act.put,sA,sZ,sS]
   refine tk 6 26 (v:=.pointer (some ⟨w.heap.size + 2,0,none⟩)) rfl rfl (fun W hW=>Kac rfl rfl (fa_api 0 (by omega) _ W)) ?_
   simp only [Act.put,sA,sZ,sS]
   refine Kbr 7 rfl rfl (by kernel_rfl) rfl (Kbx rfl rfl rfl a4) (.inl (by kernel_rfl)) ?_
   refine done (by kernel_rfl) ?_ _
   have HN2:=yh (show ∃ po co,GIn NOwn 45 3 (fun b=>w3.heap.size ≤ b) (W10.setCell ⟨w.heap.size + 2,0,none⟩ (.slice pq ((g.nodes.take j).length + 1) cq)) (.slice po (g.nodes.take (j + 1)).length co) (g.nodes.take (j + 1)) ∧ Touch (fun b=>b = w.heap.size + 2) w3 (W10.setCell ⟨w.heap.size + 2,0,none⟩ (.slice pq ((g.nodes.take j).length + 1) cq)) ∧ (W10.setCell ⟨w.heap.size + 2,0,none⟩ (.slice pq ((g.nodes.take j).length + 1) cq)).heap[w.heap.size + 2]? = some (.cells (Kat (.slice po (g.nodes.take (j + 1)).length co) (.slice none 0 0) g.nextNode g.nextRel) 25 (0,0)) from by
    rw [show (g.nodes.take (j + 1)).length = (g.nodes.take j).length + 1 by rw [htk];simp,htk]
    exact ⟨pq,cq,a5,a6,a7⟩)
   generalize W10.setCell ⟨w.heap.size + 2,0,none⟩ (.slice pq ((g.nodes.take j).length + 1) cq) = W11 at HN2 ⊢
   clear hI hT hc hcall htk hl1 hS0 hbn hsz hzz h3 hS HY HJ a1 a2 a3 a4 a5 a6 a7 hbs hx8 hb8 hS8 hS9 hS10 hbw8 hI1 hT1
   go_wp2
   go_roundw
   case rel=>exact ⟨j + 1,hlt1,by go_num,HN2⟩
   case measure=>simp [intOf];omega
  ·obtain rfl : j = g.nodes.length:=by omega
   obtain ⟨qn,dn,hI,hT,hc⟩:=HJ.out
   rw [List.take_length] at hI hc
   have hbr:=hT.below (B:=w.heap.size) HX.out.1 (fun b hb e=>by omega) HX.out.1.size
   have h3:=HX.out.2.2.1
   have hzr : w.heap.size + 3 ≤ wr.heap.size:=Nat.le_trans h3 hT.size
   have hx6:=(hT.block _ (Array.getElem?_eq_some_iff.1 HX.out.2.2.2.1).1 (by omega)).trans HX.out.2.2.2.1
   have hon:=(hI.own Kax).imp (P':=fun b=>w.heap.size ≤ b ∧ b ≠ w.heap.size + 1 ∧ b ≠ w.heap.size + 2) Kax fun b _ hb=>by have hb' : w3.heap.size ≤ b:=hb;omega
   have gr : wr.cell? ⟨w.heap.size,1,none⟩ = some (.slice pr g.rels.length cr):=Kah (o:=1) ((hT.block _ (Array.getElem?_eq_some_iff.1 HX.out.2.2.2.2).1 (by omega)).trans HX.out.2.2.2.2) rfl
   have hcW : wr.heap[w.heap.size + 2]? = some (.cells (Kat (.slice qn g.nodes.length dn) (.slice none 0 0) g.nextNode g.nextRel) 25 (0,0)):=hc
   have HX7:=yh (And.intro hbr (And.intro hcW (And.intro hzr (And.intro hx6 hon))))
   clear hI hT hc hbr h3 hzr hx6 hon hcW HJ HI0 HX
   go_wp2
   clear gr
   generalize wr = w7 at *
   have HI0:=yh (show ∃ po co,GIn ROwn 49 5 (fun b=>w7.heap.size ≤ b) w7 (.slice po (g.rels.take 0).length co) (g.rels.take 0) ∧ Touch (fun b=>b = w.heap.size + 2) w7 w7 ∧ w7.heap[w.heap.size + 2]? = some (.cells (Kat (.slice qn g.nodes.length dn) (.slice po (g.rels.take 0).length co) g.nextNode g.nextRel) 25 (0,0)) from ⟨none,0,GIn.start,Touch.refl _ _,HX7.out.2.1⟩)
   go_loopw [31] (fun i wr=>∃ j : Nat,j ≤ g.rels.length ∧ i = .int .i64 (j : Int) ∧ Hid (∃ po co,GIn ROwn 49 5 (fun b=>w7.heap.size ≤ b) wr (.slice po (g.rels.take j).length co) (g.rels.take j) ∧ Touch (fun b=>b = w.heap.size + 2) w7 wr ∧ wr.heap[w.heap.size + 2]? = some (.cells (Kat (.slice qn g.nodes.length dn) (.slice po (g.rels.take j).length co) g.nextNode g.nextRel) 25 (0,0)))) (fun i _=>g.rels.length - (intOf i).toNat)
   case atStart=>exact ⟨0,Nat.zero_le _,rfl,HI0⟩
   case round =>
    rename_i wr0 wr
    obtain ⟨j,hj,rfl,HJ⟩:=hrel
    by_cases hlt : j < g.rels.length
    ·have hlt1:=Nat.succ_le_of_lt hlt
     obtain ⟨po,co,hI,hT,hc⟩:=HJ.out
     have hbr:=hT.below (B:=w.heap.size) HX7.out.1 (fun b hb e=>by omega) HX7.out.1.size
     have h3:=HX7.out.2.2.1
     obtain ⟨b1,o1,cs,rfl,hsz,hcc,hv⟩:=(HN.out.2.1.below (fun h=>h.below hbr) hbr).get hlt
     have htn:=HN.out.2.2.2.1 _ (List.getElem_mem hlt)
     have hok:=rel_okT htn
     have HL1:=yh (StT.load (P:=Tryz.prog) (g:=b1) (o:=o1 + j * 5) (W:=wr) Kbv hsz fun i u hu=>hcc i u hu)
     have HS1:=yh (StT.fresh Kbv hsz (Kcc.ones hv) (W:=wr))
     have hbn:=Kai (w:=wr) (.cells cs 49)
     have hcall:=Kd2 ((hv.below hbn).below (Below.refl _ _).drew) hok
     have htk : g.rels.take (j + 1) = g.rels.take j ++ [g.rels[j]]:=List.take_succ_eq_append_getElem hlt
     have hl1 : (g.rels.take j).length ≤ 1100000:=by rw [List.length_take];have:=HN.out.2.2.2.2;omega
     have hzz : w.heap.size + 3 ≤ wr.heap.size:=Nat.le_trans h3 hT.size
     have hS0 : (wr.alloc (.cells cs 49)).drew.heap[w.heap.size + 2]? = some (.cells (Kat (.slice qn g.nodes.length dn) (.slice po (g.rels.take j).length co) g.nextNode g.nextRel) 25 (0,0)) ∧ (wr.alloc (.cells cs 49)).drew.heap[wr.heap.size]? = some (.cells cs 49 (0,0)):=⟨Kak hbn.drew (Array.getElem?_eq_some_iff.1 hc).1 hc,heap_alloc_new wr _⟩
     have HY:=yh (And.intro hI (And.intro hT (And.intro hc (And.intro hcall (And.intro htk (And.intro hl1 (And.intro hS0 (And.intro hbn (And.intro hsz (And.intro hzz h3))))))))))
     generalize g.rels[j] = nj at *
     clear hbr hcc hv htn hok hcall htk hl1 hS0 hI hT hc hbn hsz hzz h3
     go_wp2_with (first
      | ((with_reducible apply Kap);exact HL1.out;exact rfl;clear HL1)
      | ((with_reducible apply Kaq);exact HS1.out _ rfl;exact rfl;exact rfl;clear HS1))
     obtain ⟨hI,hT,hc,hcall,htk,hl1,hS0,hbn,hsz,hzz,h3⟩:=HY.out
     refine Kaf (fun W=>W.heap[w.heap.size + 2]? = some (.cells (Kat (.slice qn g.nodes.length dn) (.slice po (g.rels.take j).length co) g.nextNode g.nextRel) 25 (0,0)) ∧ W.heap[wr.heap.size]? = some (.cells cs 49 (0,0))) (by kernel_rfl) hS0 (fun hS=>?_)
     refine tk 0 35 (v:=.pointer (some ⟨w.heap.size + 2,1,none⟩)) rfl rfl (fun W hW=>Kac rfl rfl (fa_api 1 (by omega) _ W)) ?_
     simp only [Act.put,sA,sZ,sS]
     refine tk 1 36 (v:=.slice po (g.rels.take j).length co) rfl rfl (fun W hW=>Kad rfl rfl (Kae (w:=W) Tryz.underlying23 rfl (Kah (o:=1) hW.1 rfl))) ?_
     simp only [Act.put,sA,sZ,sS]
     refine tk 2 37 (v:=.agg cs) rfl rfl (fun W hW=>Kad rfl rfl (StT.get (P:=Tryz.prog) Kbv hsz hW.2)) ?_
     simp only [Act.put,sA,sZ,sS]
     refine Kao 3 38 rfl rfl (by kernel_rfl) rfl (Kan [.agg cs] rfl rfl Tryz.func40 (by kernel_rfl) (by kernel_rfl)) ?_
     refine hcall.mono ?_
     rintro e W8 ⟨x8,rfl,hx8,hb8⟩
     have hbw8:=Kaa (Below.refl _ _).drew hb8
     have hI1:=hI.kept (W':=wr.alloc (.cells cs 49)) Ka9 (P':=fun b=>w7.heap.size ≤ b) (fun b _ hl=>hbn.block b hl) (fun b _ h=>h)
     have hT1:=hT.grow hbn
     have hbs : (Instr.buildSlice 23 1 #[(0,.agg x8)]).run Tryz.prog W8 = .ok (.slice (some ⟨W8.heap.size,0,none⟩) 1 1) (W8.alloc (.cells x8 49)):=Kas Tryz.underlying23 Tryz.sizeOf49 Tryz.zeroValue49 (Ka9.size hx8) (by omega) (by omega)
     obtain ⟨pq,cq,W10,a1,a2,a3,a4,a5,a6,a7⟩:=tell_push (i:=1) Ka9 gt_rel (fun h1 h2=>put_relsT h1 h2) hI1 hT1 hS0.1 (by omega) (by simp [Kat]) hbw8 hx8 hl1
     have hS8 : W8.heap[w.heap.size + 2]? = some (.cells (Kat (.slice qn g.nodes.length dn) (.slice po (g.rels.take j).length co) g.nextNode g.nextRel) 25 (0,0)) ∧ W8.heap[wr.heap.size]? = some (.cells cs 49 (0,0)):=⟨Kak hb8 (Array.getElem?_eq_some_iff.1 hS0.1).1 hS0.1,Kak hb8 (Array.getElem?_eq_some_iff.1 hS0.2).1 hS0.2⟩
     have hS9 : (W8.alloc (.cells x8 49)).heap[w.heap.size + 2]? = some (.cells (Kat (.slice qn g.nodes.length dn) (.slice po (g.rels.take j).length co) g.nextNode g.nextRel) 25 (0,0)) ∧ (W8.alloc (.cells x8 49)).heap[wr.heap.size]? = some (.cells cs 49 (0,0)):=⟨Kak (Kai _) (Array.getElem?_eq_some_iff.1 hS8.1).1 hS8.1,Kak (Kai _) (Array.getElem?_eq_some_iff.1 hS8.2).1 hS8.2⟩
     have hS10 : W10.heap[w.heap.size + 2]? = some (.cells (Kat (.slice qn g.nodes.length dn) (.slice po (g.rels.take j).length co) g.nextNode g.nextRel) 25 (0,0)) ∧ W10.heap[wr.heap.size]? = some (.cells cs 49 (0,0)):=⟨a2,(a3 _ (by simp) (fun e=>by have:=(hI.lt _ e).1;omega)).trans hS0.2⟩
     refine ⟨_,rfl,.inr hS8,?_⟩
     simp only [Act.put,sA,sZ,sS]
     refine Kce 4 39 (v:=.slice (some ⟨W8.heap.size,0,none⟩) 1 1) rfl rfl (by kernel_rfl) rfl (Kaz rfl rfl hbs) (.inr (by assumption)) ?_
     simp only [Act.put,sA,sZ,sS]
     refine Kce 5 40 (v:=.slice pq ((g.rels.take j).length + 1) cq) rfl rfl (by kernel_rfl) rfl (Kch rfl rfl rfl a1) (.inr (by assumption)) ?_
     simp only [Act.put,sA,sZ,sS]
     refine tk 6 41 (v:=.pointer (some ⟨w.heap.size + 2,1,none⟩)) rfl rfl (fun W hW=>Kac rfl rfl (fa_api 1 (by omega) _ W)) ?_
     simp only [Act.put,sA,sZ,sS]
     refine Kbr 7 rfl rfl (by kernel_rfl) rfl (Kbx rfl rfl rfl a4) (.inl (by kernel_rfl)) ?_
     refine done (by kernel_rfl) ?_ _
     have HN2:=yh (show ∃ po co,GIn ROwn 49 5 (fun b=>w7.heap.size ≤ b) (W10.setCell ⟨w.heap.size + 2,1,none⟩ (.slice pq ((g.rels.take j).length + 1) cq)) (.slice po (g.rels.take (j + 1)).length co) (g.rels.take (j + 1)) ∧ Touch (fun b=>b = w.heap.size + 2) w7 (W10.setCell ⟨w.heap.size + 2,1,none⟩ (.slice pq ((g.rels.take j).length + 1) cq)) ∧ (W10.setCell ⟨w.heap.size + 2,1,none⟩ (.slice pq ((g.rels.take j).length + 1) cq)).heap[w.heap.size + 2]? = some (.cells (Kat (.slice qn g.nodes.length dn) (.slice po (g.rels.take (j + 1)).length co) g.nextNode g.nextRel) 25 (0,0)) from by
      rw [show (g.rels.take (j + 1)).length = (g.rels.take j).length + 1 by rw [htk];simp,htk]
      exact ⟨pq,cq,a5,a6,a7⟩)
     generalize W10.setCell ⟨w.heap.size + 2,1,none⟩ (.slice pq ((g.rels.take j).length + 1) cq) = W11 at HN2 ⊢
     clear hI hT hc hcall htk hl1 hS0 hbn hsz hzz h3 hS HY HJ a1 a2 a3 a4 a5 a6 a7 hbs hx8 hb8 hS8 hS9 hS10 hbw8 hI1 hT1
     go_wp2
     go_roundw
     case rel=>exact ⟨j + 1,hlt1,by go_num,HN2⟩
     case measure=>simp [intOf];omega
    ·obtain rfl : j = g.rels.length:=by omega
     obtain ⟨qr,dr,hI,hT,hc⟩:=HJ.out
     rw [List.take_length] at hI hc
     obtain ⟨hb7,hc7,hz7,hx7,hon7⟩:=HX7.out
     have hbr:=hT.below (B:=w.heap.size) hb7 (fun b hb e=>by omega) hb7.size
     have hor:=(hI.own Ka9).imp (P':=fun b=>w.heap.size ≤ b ∧ b ≠ w.heap.size + 1 ∧ b ≠ w.heap.size + 2) Ka9 fun b _ hb=>by have hb' : w7.heap.size ≤ b:=hb;omega
     have hon:=hon7.keep (w':=wr) Kax fun b hb hl=>hT.block b hl hb.2.2
     have hx6:=(hT.block _ (Array.getElem?_eq_some_iff.1 hx7).1 (by omega)).trans hx7
     obtain ⟨d1,W9,d2,d3,d4,d5⟩:=copy_end hon hor hx6 hc (Nat.le_succ _) hbr
     have HLD:=yh d1
     have HST:=yh d2
     have HLE:=yh d3
     have HF:=yh (And.intro d4 d5)
     clear hI hT hc hb7 hc7 hz7 hx7 hon7 hbr hor hon hx6 d1 d2 d3 d4 d5 HJ HX7 HI0
     go_wp2_with (first
      | ((with_reducible apply Kap);exact HLD.out;exact rfl;clear HLD)
      | ((with_reducible apply Kaq);exact HST.out;exact rfl;exact rfl;clear HST))
     refine bodyPost_ret (Kbe rfl _ _ ⟨w.heap.size + 1,0,none⟩ _ rfl HLE.out) rfl ?_
     exact ⟨_,rfl,HF.out⟩
section
variable {P : Program} {t e : TypeId} {s : Nat}
theorem runSl (ht : P.underlying t = some (.slice e)) (hs : ∀ w,(sizeOf e).run P w = .ok s w) (a : Option Addr) (len cap : Nat) (lo hi : Option Int) (l h : Nat)
 (hlo : ∀ i,lo = some i → i = (l : Int)) (hlo' : lo = none → l = 0) (hhi : ∀ i,hi = some i → i = (h : Int)) (hhi' : hi = none → h = len) (h1 : l ≤ h) (h2 : h ≤ cap) (W : World) :
 (Instr.slice t (.slice a len cap) (lo.map (.int .i64)) (hi.map (.int .i64)) none).run P W = .ok (.slice (if cap = l then a else a.map (·.add (l * s))) (h - l) (cap - l)) W:=by
 have hb : (Instr.sliceBounds true len cap (lo.map (.int .i64)) (hi.map (.int .i64)) none).run P W = .ok (l,h,cap) W:=by
  have e1 : ∀ (x y : Nat) (code : BoundsCode),x ≤ y → (Instr.sliceBound (.int .i64 (x : Int)) y code).run P W = .ok x W:=fun x y code hxy=>by
   simp [Instr.sliceBound,asIntOf,Sem.run_bind,hxy]
  cases lo with
  | none =>
    obtain rfl:=hlo' rfl
    cases hi with
    | none=>obtain rfl:=hhi' rfl;simp [Instr.sliceBounds]
    | some i=>obtain rfl:=hhi i rfl;simp [Instr.sliceBounds,Sem.run_bind,e1 h cap _ h2]
  | some j =>
    obtain rfl:=hlo j rfl
    cases hi with
    | none=>obtain rfl:=hhi' rfl;simp [Instr.sliceBounds,Sem.run_bind,e1 l h _ h1]
    | some i=>obtain rfl:=hhi i rfl;simp [Instr.sliceBounds,Sem.run_bind,e1 h cap _ h2,e1 l h _ h1]
 simp only [Instr.slice,Sem.run_bind,run_underlying ht,Result.andThen_ok,hb,hs,Sem.run_pure]
theorem runSlAt (ht : P.underlying t = some (.slice e)) (x : Value) (lo hi mx : Option Value) (W : World) : (Instr.sliceAt t x lo hi mx).run P W = (Instr.slice t x lo hi mx).run P W:=by
 simp [Instr.sliceAt,run_underlying ht]
end
theorem add_zero0 (b o : Nat) : (⟨b,o,none⟩ : Addr).add 0 = ⟨b,o,none⟩:=by rw [Kaw,Nat.add_zero]
section
variable {α : Type} {F : World → α → Array Value → Prop} {K : Nat} {P : Program} {t T : TypeId} {w : World} {l : List α} {p : Option Addr} {c : Nat}
theorem GRd.cut (h : GRd F K w p c l) (hT : P.underlying T = some (.slice t)) (hs : ∀ w,(sizeOf t).run P w = .ok K w) {n : Nat} (hn : n ≤ l.length) :
 ∃ q,(∀ W,(Instr.sliceAt T (.slice p l.length c) Option.none (some (.int .i64 (n : Int))) Option.none).run P W = .ok (.slice q n c) W) ∧ GRd F K w q c (l.take n):=by
 have hc:=h.1.1
 have hr:=fun W=>(runSlAt (P:=P) hT (.slice p l.length c) Option.none (some (.int .i64 (n : Int))) Option.none W).trans (runSl (P:=P) hT hs p l.length c Option.none (some (n : Int)) 0 n (fun i e=>by cases e) (fun _=>rfl) (fun i e=>by cases e;rfl) (fun e=>by cases e) (Nat.zero_le _) (by omega) W)
 refine ⟨_,fun W=>by simpa using hr W,?_⟩
 have ht:=h.take n
 by_cases h0 : c = 0
 ·rw [if_pos h0];exact ht
 ·rw [if_neg h0]
  cases p with
  | none=>exact ht
  | some ad =>
    by_cases hne : l.take n = []
    ·have h1:=ht.1
     rw [hne] at h1 ⊢
     exact ⟨⟨h1.1,h1.2.1,fun e=>by cases e⟩,fun ad' _=>⟨fun e=>absurd rfl e,fun j v hv=>by simp at hv⟩⟩
    ·have hsp:=(ht.2 ad rfl).1 hne
     obtain ⟨b,o,sp⟩:=ad
     simp only at hsp
     subst hsp
     simp only [Option.map_some,add_zero0,Nat.zero_mul]
     exact ht
theorem GRd.rest (h : GRd F K w p c l) (hT : P.underlying T = some (.slice t)) (hs : ∀ w,(sizeOf t).run P w = .ok K w) {n : Nat} (hn : n ≤ l.length) :
 ∃ q d,(∀ W,(Instr.sliceAt T (.slice p l.length c) (some (.int .i64 (n : Int))) Option.none Option.none).run P W = .ok (.slice q (l.drop n).length d) W) ∧ GRd F K w q d (l.drop n):=by
 have hc:=h.1.1
 have hr:=fun W=>(runSlAt (P:=P) hT (.slice p l.length c) (some (.int .i64 (n : Int))) Option.none Option.none W).trans (runSl (P:=P) hT hs p l.length c (some (n : Int)) Option.none n l.length (fun i e=>by cases e;rfl) (fun e=>by cases e) (fun i e=>by cases e) (fun _=>rfl) hn hc W)
 have hl : (l.drop n).length = l.length - n:=List.length_drop
 refine ⟨_,_,fun W=>by rw [hl];simpa using hr W,?_⟩
 have hd:=h.drop hn
 unfold dropAt at hd
 by_cases h0 : c = n
 ·rw [if_pos h0] at hd ⊢;exact hd
 ·rw [if_neg h0] at hd ⊢
  cases p with
  | none=>exact hd
  | some ad =>
    by_cases hne : l.drop n = []
    ·have h1:=hd.1
     rw [hne] at h1 ⊢
     exact ⟨⟨h1.1,h1.2.1,fun e=>by cases e⟩,fun ad' _=>⟨fun e=>absurd rfl e,fun j v hv=>by simp at hv⟩⟩
    ·have hsp:=(hd.2 _ rfl).1 hne
     obtain ⟨b,o,sp⟩:=ad
     simp only at hsp
     subst hsp
     simp only [Option.map_some,Kaw] at hd ⊢
     exact hd
end
def Ext (V W : World) : Prop:=∀ (ad : Addr) (v : Value),V.cell? ad = some v → W.cell? ad = some v
theorem Ext.refl (W : World) : Ext W W:=fun _ _ h=>h
theorem Ext.trans {U V W : World} (h : Ext U V) (g : Ext V W) : Ext U W:=fun ad v e=>g ad v (h ad v e)
theorem Ext.of_below {V W : World} (g : Below V.heap.size V W) : Ext V W:=fun ad v h=>by
 rw [g.cell (World.block_lt_of_cell? V _ h)];exact h
section
variable {X W : World} (x : Ext X W)
include x
theorem RdS.ext {p : Option Addr} {c : Nat} {l : List (List UInt8)} (h : RdS X p c l) : RdS W p c l:=by
 obtain ⟨h1,h2,h3,h5,h4⟩:=h
 exact ⟨h1,h2,h3,h5,fun ad had=>⟨(h4 ad had).1,fun i s hs=>x _ _ ((h4 ad had).2 i s hs)⟩⟩
theorem Six.ext {b o : Nat} {cs : Array Value} (h : Six X b o cs) : Six W b o cs:=by
 obtain ⟨c0,c1,c2,c3,c4,c5,e,h0,h1,h2,h3,h4,h5⟩:=h
 exact ⟨c0,c1,c2,c3,c4,c5,e,x _ _ h0,x _ _ h1,x _ _ h2,x _ _ h3,x _ _ h4,x _ _ h5⟩
theorem VRd.ext : ∀ {v : V} {cs : Array Value},VRd X v cs → VRd W v cs:=by
 intro v
 refine V.ind (P:=fun v=>∀ {cs : Array Value},VRd X v cs → VRd W v cs) (fun k b n t ks l ih cs h=>?_) v
 obtain ⟨pk,ck,pl,cl,e,ht,hk,h1,h2⟩:=Kb2.1 h
 refine Kb2.2 ⟨pk,ck,pl,cl,e,ht,RdS.ext x hk,h1,fun ad had=>⟨(h2 ad had).1,fun j v hv=>?_⟩⟩
 obtain ⟨cs,h6,hv'⟩:=(h2 ad had).2 j v hv
 exact ⟨cs,Six.ext x h6,ih v (List.mem_of_getElem? hv) hv'⟩
theorem GRd.ext {α : Type} {F : World → α → Array Value → Prop} {K : Nat} {l : List α} (hF : ∀ {v : α} {cs : Array Value},F X v cs → F W v cs) {p : Option Addr} {c : Nat} (h : GRd F K X p c l) : GRd F K W p c l:=by
 obtain ⟨h1,h2⟩:=h
 refine ⟨h1,fun ad had=>⟨(h2 ad had).1,fun j v hv=>?_⟩⟩
 obtain ⟨cs,h3,h4,h5⟩:=(h2 ad had).2 j v hv
 exact ⟨cs,h3,fun i u hu=>x _ _ (h4 i u hu),hF h5⟩
theorem PRd.ext {p : PropD} {a : Array Value} (h : PRd X p a) : PRd W p a:=by
 obtain ⟨y,e,h1,h2⟩:=h;exact ⟨y,e,h1,VRd.ext x h2⟩
theorem NRd.ext {p : NodeD} {a : Array Value} (h : NRd X p a) : NRd W p a:=by
 obtain ⟨pl,cl,pp,cp,e,h1,h2⟩:=h;exact ⟨pl,cl,pp,cp,e,RdS.ext x h1,GRd.ext x (fun h=>PRd.ext x h) h2⟩
theorem RRd.ext {p : RelD} {a : Array Value} (h : RRd X p a) : RRd W p a:=by
 obtain ⟨pp,cp,e,h1,h2⟩:=h;exact ⟨pp,cp,e,h1,GRd.ext x (fun h=>PRd.ext x h) h2⟩
theorem CRd.ext {p : ChangeD} {a : Array Value} (h : CRd X p a) : CRd W p a:=by
 obtain ⟨a,b,e,h1,h2⟩:=h;exact ⟨a,b,e,NRd.ext x h1,RRd.ext x h2⟩
theorem GrRd.ext {p : GraphD} {a : Array Value} (h : GrRd X p a) : GrRd W p a:=by
 obtain ⟨pn,cn,pr,cr,e,h1,h2⟩:=h;exact ⟨pn,cn,pr,cr,e,GRd.ext x (fun h=>NRd.ext x h) h1,GRd.ext x (fun h=>RRd.ext x h) h2⟩
end
noncomputable def mask (S : Nat → Prop) (W : World) : World:=by
 classical
 exact { W with heap:=(Array.range W.heap.size).map fun i=>if S i then .cells #[] 0 (0,0) else (W.heap[i]?).getD (.cells #[] 0 (0,0)) }
section
variable {S : Nat → Prop} {W W' : World}
theorem mask_off {b : Nat} (h : ¬ S b) : (mask S W).heap[b]? = W.heap[b]?:=by
 unfold mask
 simp only
 by_cases hb : b < W.heap.size
 ·rw [Array.getElem?_map,Array.getElem?_eq_getElem (by simpa using hb)]
  simp [h,hb]
 ·rw [Array.getElem?_eq_none (by simpa using hb),Array.getElem?_eq_none (by simpa using hb)]
theorem mask_on {ad : Addr} (h : S ad.block) : (mask S W).cell? ad = none:=by
 unfold World.cell?
 by_cases hb : ad.block < W.heap.size
 ·have e : (mask S W).heap[ad.block]? = some (.cells #[] 0 (0,0)):=by
   unfold mask
   simp only
   rw [Array.getElem?_map,Array.getElem?_eq_getElem (by simpa using hb)]
   simp [h]
  rw [e];simp
 ·have e : (mask S W).heap[ad.block]? = none:=by
   unfold mask
   simp only
   rw [Array.getElem?_eq_none (by simpa using hb)]
  rw [e]
theorem mask_cell {ad : Addr} (h : ¬ S ad.block) : (mask S W).cell? ad = W.cell? ad:=World.cell?_of_block (mask_off h)
theorem mask_ext (S : Nat → Prop) (W : World) : Ext (mask S W) W:=fun ad v h=>by
 by_cases hs : S ad.block
 ·rw [mask_on hs] at h;cases h
 ·rwa [mask_cell hs] at h
theorem mask_touch (h : Touch S W W') : Ext (mask S W) (mask S W'):=fun ad v e=>by
 by_cases hs : S ad.block
 ·rw [mask_on hs] at e;cases e
 ·rw [mask_cell hs] at e ⊢
  have hb:=World.block_lt_of_cell? W _ e
  rw [World.cell?_of_block (h.block _ hb hs)];exact e
theorem mask_of {w : World} (hb : Below w.heap.size w W) (hS : ∀ b,S b → w.heap.size ≤ b) : Ext w (mask S W):=fun ad v e=>by
 have hl:=World.block_lt_of_cell? w _ e
 have hs : ¬ S ad.block:=fun h=>by have:=hS _ h;omega
 rw [mask_cell hs]
 exact Ext.of_below hb ad v e
theorem mask_below (hb : Below W.heap.size W W') : Ext (mask S W) (mask S W'):=mask_touch ((Touch.refl S W).grow hb)
end
section
variable {α : Type} {F : World → α → Array Value → Prop} {K : Nat} {P : Program} {t T : TypeId} {U V w w' W W1 : World} {l m : List α} {xs ys : List (Array Value)} {v : Value} {p : Option Addr} {c : Nat}
def VRow (F : World → α → Array Value → Prop) (t : TypeId) (K : Nat) (V w W : World) (v : Value) (l : List α) : Prop:=∃ xs,OwnsP W (fun b=>w.heap.size ≤ b) t K v l.length (xs.flatMap Array.toList) ∧ FRs F V l xs ∧ Below w.heap.size w W
theorem VRow.b (h : VRow F t K V w W v l) : Below w.heap.size w W:=by obtain ⟨_,_,_,h⟩:=h;exact h
theorem VRow.slice (h : VRow F t K V w W v l) : ∃ p c,v = .slice p l.length c:=by obtain ⟨_,h,_,_⟩:=h;exact Kbp h
theorem VRow.nil (h : Below w.heap.size w W) : VRow F t K V w W (.slice none 0 0) ([] : List α):=⟨[],⟨⟨by simp,.inl ⟨rfl,rfl⟩⟩,fun g hg=>by simp [Value.ownBlock] at hg⟩,.nil,h⟩
theorem VRow.below (h : VRow F t K V w W v l) (g : Below W.heap.size W W1) : VRow F t K V w W1 v l:=by
 obtain ⟨xs,h1,h2,h3⟩:=h
 exact ⟨xs,h1.keep fun b _ hb=>g.block b hb,h2,Kaa h3 g⟩
theorem VRow.base (h : VRow F t K V w W v l) (g : Below U.heap.size U w) : VRow F t K V U W v l:=by
 obtain ⟨xs,h1,h2,h3⟩:=h
 exact ⟨xs,h1.imp fun b _ hb=>Nat.le_trans g.size hb,h2,Kaa g h3⟩
theorem VRow.many (hF : EF F K) (hA : GA P t T K) (hV : Ext V w) (h : VRow F t K V w W v l) (hm : GRd F K V p c m) (hn : l.length + m.length ≤ 1200000) (ty : TypeId) :
 ∃ v' W',(Builtin.append_ #[T,T] ty #[v,.slice p m.length c]).run P W = .ok v' W' ∧ VRow F t K V w W' v' (l ++ m):=by
 obtain ⟨xs,h1,h2,h3⟩:=h
 obtain ⟨ys,hy,hcell⟩:=hm.cells hF
 have hy6 : ∀ x ∈ ys,x.size = K:=fun x hx=>by obtain ⟨v,hv⟩:=hy.mem hx;exact hF.size hv
 cases p with
 | none =>
   have hc:=hm.1.2.2 rfl
   have hl : m = []:=List.eq_nil_of_length_eq_zero (by have:=hm.1.1;omega)
   subst hc hl
   refine ⟨v,W,hA.none h1.1 ty,?_⟩
   rw [List.append_nil]
   exact ⟨xs,h1,h2,h3⟩
 | some ad =>
   obtain ⟨v',W2,a1,a2,a3,a4,a5⟩:=hA.many h1.1 (ad:=ad) (m:=m.length) (c:=c) (news:=ys.flatMap Array.toList)
    (by rw [flatG_len hy6,hy.1]) (fun j u hu=>Ext.of_below h3 _ _ (hV _ _ (hcell ad rfl j u hu))) (fun u hu=>by
      obtain ⟨x,hx,hu⟩:=List.mem_flatMap.1 hu
      obtain ⟨v,hv⟩:=hy.mem hx
      exact hF.ones hv u hu) (by omega) ty
   refine ⟨v',W2,a1,xs ++ ys,⟨?_,fun g hg=>?_⟩,h2.append hy,?_⟩
   ·rw [List.flatMap_append,List.length_append];exact a2
   ·rcases a4 with e | e
    ·exact h1.2 g (e.symm.trans hg)
    ·rw [e] at hg;cases hg;exact h3.size
   ·exact a3.below h3 (fun b hb e=>by have:=h1.2 b e;omega) h3.size
theorem VRow.one (hF : EF F K) (hA : GA P t T K) (h : VRow F t K V w W v l) {u : α} {x : Array Value} (hu : F V u x) (hn : l.length ≤ 1100000) (ty : TypeId) :
 ∃ v' W',(Builtin.append_ #[T,T] ty #[v,.slice (some ⟨W.heap.size,0,none⟩) 1 1]).run P (W.alloc (.cells x t)) = .ok v' W' ∧ VRow F t K V w W' v' (l ++ [u]):=by
 have g:=Kai (w:=W) (.cells x t)
 obtain ⟨xs,h1,h2,h3⟩:=h.below g
 obtain ⟨v',W2,a1,a2,a3,a4,a5⟩:=hA.many h1.1 (ad:=⟨W.heap.size,0,none⟩) (m:=1) (c:=1) (news:=x.toList)
  (by rw [Nat.one_mul];simpa using hF.size hu) (fun j u hj=>by rw [Kaw,Nat.zero_add];exact Kah (heap_alloc_new W (.cells x t)) (by simpa using hj)) (hF.ones hu) (by omega) ty
 refine ⟨v',W2,a1,xs ++ [x],⟨?_,fun g hg=>?_⟩,h2.append (.one hu),?_⟩
 ·rw [List.flatMap_append,List.length_append]
  simpa using a2
 ·rcases a4 with e | e
  ·exact h1.2 g (e.symm.trans hg)
  ·rw [e] at hg;cases hg;exact h3.size
 ·exact a3.below h3 (fun b hb e=>by have:=h1.2 b e;omega) h3.size
theorem VRow.rd (hF : EF F K) (hx : ∀ {v : α} {cs : Array Value},F V v cs → F U v cs) (h : VRow F t K V w W v l) (hU : ∀ b,w.heap.size ≤ b → b < W.heap.size → U.heap[b]? = W.heap[b]?) (hn : l.length ≤ 140737488355328) : ∃ p c,v = .slice p l.length c ∧ GRd F K U p c l:=by
 obtain ⟨xs,h1,h2,h3⟩:=h
 have hc:=fun g=>h1.1.cells (g:=g)
 have h6 : ∀ x ∈ xs,x.size = K:=fun x hx=>by obtain ⟨v,hv⟩:=h2.mem hx;exact hF.size hv
 have hown:=h1.2
 rcases h1.1.2 with ⟨rfl,h0⟩ | ⟨g,cap,cur,rfl,_,hg,hnc,hcm,_⟩
 ·have : l = []:=List.eq_nil_of_length_eq_zero h0
  subst this
  exact ⟨none,0,rfl,⟨Nat.le_refl _,⟨by simp,by omega⟩,fun _=>rfl⟩,fun ad h=>by cases h⟩
 ·refine ⟨some ⟨g,0,none⟩,cap,rfl,⟨hnc,⟨hn,by unfold maxLen at hcm;omega⟩,fun h=>by cases h⟩,fun ad had=>?_⟩
  cases had
  refine ⟨fun _=>rfl,fun j v hv=>?_⟩
  obtain ⟨x,hxx,hvx⟩:=h2.2 j v hv
  refine ⟨x,hF.size hvx,fun i u hu=>?_,hx hvx⟩
  have hi : i < K:=by
   have:=(Array.getElem?_eq_some_iff.1 hu).1
   rw [hF.size hvx] at this;exact this
  have:=hc g rfl (j * K + i) u (by rw [flat_K h6 j x hxx i hi];exact hu)
  rw [Kaw] at this
  rw [Nat.zero_add] at this ⊢
  rw [World.cell?_of_block (w:=W) (hU g (hown g rfl) (ltOf this))]
  exact this
end
section
variable {α : Type} {id : α → Int}
def lead (id : α → Int) (i : Int) : List α → Nat
 | []=>0
 | a :: l=>if id a < i then lead id i l + 1 else 0
theorem lead_le (i : Int) : ∀ l : List α,lead id i l ≤ l.length
 | []=>Nat.le_refl _
 | a :: l=>by
   unfold lead
   split
   ·have:=lead_le i l;simp;omega
   ·simp
theorem lead_lt {i : Int} : ∀ {l : List α} {j : Nat} (hj : j < l.length),j < lead id i l → id l[j] < i
 | a :: l,0,_,h=>by
   unfold lead at h
   split at h
   ·assumption
   ·simp at h
 | a :: l,j + 1,hj,h=>by
   unfold lead at h
   split at h
   ·exact lead_lt (l:=l) (by simpa using hj) (by omega)
   ·simp at h
theorem lead_at {i : Int} : ∀ {l : List α} (h : lead id i l < l.length),¬ id l[lead id i l] < i
 | [],h=>by simp [lead] at h
 | a :: l,h=>by
   by_cases ha : id a < i
   ·have e : lead id i (a :: l) = lead id i l + 1:=by unfold lead;rw [if_pos ha];cases l <;> rfl
    have h2 : lead id i l < l.length:=by rw [e] at h;simpa using h
    have h3:=lead_at h2
    simp only [e,List.getElem_cons_succ]
    exact h3
   ·have e : lead id i (a :: l) = 0:=by unfold lead;rw [if_neg ha]
    simp only [e,List.getElem_cons_zero]
    exact ha
end
theorem putN_ge {n : NodeD} : ∀ {l : List NodeD},lead NodeD.id n.id l = l.length → putN n l = l ++ [n]
 | [],_=>rfl
 | a :: l,h=>by
   unfold lead at h
   split at h
   ·rename_i ha
    unfold putN
    rw [if_pos ha,putN_ge (by simpa using h)];rfl
   ·simp at h
theorem putN_at {n : NodeD} : ∀ {l : List NodeD} (h : lead NodeD.id n.id l < l.length),l[lead NodeD.id n.id l].id = n.id → putN n l = l.take (lead NodeD.id n.id l) ++ [n] ++ l.drop (lead NodeD.id n.id l + 1)
 | [],h,_=>by simp [lead] at h
 | a :: l,h,he=>by
   by_cases ha : a.id < n.id
   ·have e : lead NodeD.id n.id (a :: l) = lead NodeD.id n.id l + 1:=by
     show (if a.id < n.id then _ else _) = _
     rw [if_pos ha]
    have h2 : lead NodeD.id n.id l < l.length:=by rw [e] at h;simpa using h
    simp only [e,List.getElem_cons_succ] at he
    have ih:=putN_at h2 he
    unfold putN
    rw [if_pos ha,ih,e]
    simp
   ·have e : lead NodeD.id n.id (a :: l) = 0:=by
     show (if a.id < n.id then _ else _) = _
     rw [if_neg ha]
    simp only [e,List.getElem_cons_zero] at he
    unfold putN
    rw [if_neg ha,if_pos he,e]
    simp
theorem putN_ne {n : NodeD} : ∀ {l : List NodeD} (h : lead NodeD.id n.id l < l.length),¬ l[lead NodeD.id n.id l].id = n.id → putN n l = l.take (lead NodeD.id n.id l) ++ [n] ++ l.drop (lead NodeD.id n.id l)
 | [],h,_=>by simp [lead] at h
 | a :: l,h,he=>by
   by_cases ha : a.id < n.id
   ·have e : lead NodeD.id n.id (a :: l) = lead NodeD.id n.id l + 1:=by
     show (if a.id < n.id then _ else _) = _
     rw [if_pos ha]
    have h2 : lead NodeD.id n.id l < l.length:=by rw [e] at h;simpa using h
    simp only [e,List.getElem_cons_succ] at he
    have ih:=putN_ne h2 he
    unfold putN
    rw [if_pos ha,ih,e]
    simp
   ·have e : lead NodeD.id n.id (a :: l) = 0:=by
     show (if a.id < n.id then _ else _) = _
     rw [if_neg ha]
    simp only [e,List.getElem_cons_zero] at he
    unfold putN
    rw [if_neg ha,if_neg he,e]
    simp
theorem putR_ge {n : RelD} : ∀ {l : List RelD},lead RelD.id n.id l = l.length → putR n l = l ++ [n]
 | [],_=>rfl
 | a :: l,h=>by
   unfold lead at h
   split at h
   ·rename_i ha
    unfold putR
    rw [if_pos ha,putR_ge (by simpa using h)];rfl
   ·simp at h
theorem putR_at {n : RelD} : ∀ {l : List RelD} (h : lead RelD.id n.id l < l.length),l[lead RelD.id n.id l].id = n.id → putR n l = l.take (lead RelD.id n.id l) ++ [n] ++ l.drop (lead RelD.id n.id l + 1)
 | [],h,_=>by simp [lead] at h
 | a :: l,h,he=>by
   by_cases ha : a.id < n.id
   ·have e : lead RelD.id n.id (a :: l) = lead RelD.id n.id l + 1:=by
     show (if a.id < n.id then _ else _) = _
     rw [if_pos ha]
    have h2 : lead RelD.id n.id l < l.length:=by rw [e] at h;simpa using h
    simp only [e,List.getElem_cons_succ] at he
    have ih:=putR_at h2 he
    unfold putR
    rw [if_pos ha,ih,e]
    simp
   ·have e : lead RelD.id n.id (a :: l) = 0:=by
     show (if a.id < n.id then _ else _) = _
     rw [if_neg ha]
    simp only [e,List.getElem_cons_zero] at he
    unfold putR
    rw [if_neg ha,if_pos he,e]
    simp
theorem putR_ne {n : RelD} : ∀ {l : List RelD} (h : lead RelD.id n.id l < l.length),¬ l[lead RelD.id n.id l].id = n.id → putR n l = l.take (lead RelD.id n.id l) ++ [n] ++ l.drop (lead RelD.id n.id l)
 | [],h,_=>by simp [lead] at h
 | a :: l,h,he=>by
   by_cases ha : a.id < n.id
   ·have e : lead RelD.id n.id (a :: l) = lead RelD.id n.id l + 1:=by
     show (if a.id < n.id then _ else _) = _
     rw [if_pos ha]
    have h2 : lead RelD.id n.id l < l.length:=by rw [e] at h;simpa using h
    simp only [e,List.getElem_cons_succ] at he
    have ih:=putR_ne h2 he
    unfold putR
    rw [if_pos ha,ih,e]
    simp
   ·have e : lead RelD.id n.id (a :: l) = 0:=by
     show (if a.id < n.id then _ else _) = _
     rw [if_neg ha]
    simp only [e,List.getElem_cons_zero] at he
    unfold putR
    rw [if_neg ha,if_neg he,e]
    simp
theorem lss_n (n m : Nat) (W : World) : (binOp .lss 3 (.int .i64 (n : Int)) (.int .i64 (m : Int))).run Tryz.prog W = .ok (.bool (decide (n < m))) W:=by
 have e : decide ((n : Int) < (m : Int)) = decide (n < m):=by rw [Bool.eq_iff_iff];simp
 simp [go_sem,e]
theorem eql_i (n m : Int) (W : World) : (binOp .eql 2 (.int .i64 n) (.int .i64 m)).run Tryz.prog W = .ok (.bool (decide (n = m))) W:=by
 by_cases h : n = m
 ·subst h;simp [go_sem]
 ·rw [decide_eq_false h];simp [go_sem,h]
theorem Kdv {a : Act} {w : World} {o : Oper} {x : Operand} {p : Option Addr} {n c : Nat} (ho : o.op = .call { callee:=.builtin .len,args:=#[x],argTypes:=#[22] }) (hx : a.eval x = .slice p n c) : (execOp a.eval o).run Tryz.prog w = .ok (.value (.int .i64 (n : Int))) w:=by
 unfold execOp;simp only [ho,resolve,invoke,Sem.run_bind,Sem.run_pure,Result.andThen_ok,List.map_toArray,List.map_cons,List.map_nil,hx];simp [go_sem]
theorem Kdz {a : Act} {w : World} {o : Oper} {x : Operand} {p : Option Addr} {n c : Nat} (ho : o.op = .call { callee:=.builtin .len,args:=#[x],argTypes:=#[23] }) (hx : a.eval x = .slice p n c) : (execOp a.eval o).run Tryz.prog w = .ok (.value (.int .i64 (n : Int))) w:=by
 unfold execOp;simp only [ho,resolve,invoke,Sem.run_bind,Sem.run_pure,Result.andThen_ok,List.map_toArray,List.map_cons,List.map_nil,hx];simp [go_sem]
theorem withNode_any {V w : World} (hV : Ext V w) {p : Option Addr} {c : Nat} {l : List NodeD} {n : NodeD} {x : Array Value} (h : GRd NRd 3 V p c l) (hx : NRd V n x) (hl : l.length ≤ 1100000) : Calls Tryz.prog 56 #[.slice p l.length c,.agg x] w fun e w'=>∃ q d,e = .returned (.slice q (putN n l).length d) ∧ VRow NRd 45 3 V w w' (.slice q (putN n l).length d) (putN n l):=by
 have HV:=yh (And.intro hV (And.intro h hx))
 replace h:=GRd.ext hV (fun h=>NRd.ext hV h) h
 replace hx:=NRd.ext hV hx
 clear hV
 have hb1:=Kai (w:=w) (.cells x 45)
 have hx1:=heap_alloc_new w (.cells x 45)
 have HH:=yh (And.intro (h.below (fun h=>h.below hb1) hb1) (And.intro (hx.below hb1) hl))
 have HX:=yh (And.intro hb1 hx1)
 have hid0 : (w.alloc (.cells x 45)).cell? ⟨w.heap.size,0,none⟩ = some (.int .i64 n.id):=Kah (o:=0) hx1 (by obtain ⟨_,_,_,_,rfl,_⟩:=hx;rfl)
 have HID:=yh hid0
 have z1 : (l.length : Int) ≤ 1100000:=by omega
 have hk:=lead_le (id:=NodeD.id) n.id l
 obtain ⟨k,hkk⟩ : ∃ k,k = lead NodeD.id n.id l:=⟨_,rfl⟩
 rw [← hkk] at hk
 have HL1:=yh (fun (j : Nat) (hj : j < l.length) (hjk : j < k)=>show l[j].id < n.id from lead_lt (id:=NodeD.id) (i:=n.id) hj (by rw [← hkk];exact hjk))
 have HL2:=yh (fun (hj : k < l.length)=>show ¬ l[k].id < n.id by subst hkk;exact lead_at (id:=NodeD.id) (i:=n.id) (l:=l) hj)
 have HP1:=yh (fun (e : k = l.length)=>putN_ge (n:=n) (l:=l) (by rw [← hkk];exact e))
 have HP2:=yh (fun (h1 : k < l.length) (h2 : l[k].id = n.id)=>show putN n l = l.take k ++ [n] ++ l.drop (k + 1) by subst hkk;exact putN_at h1 h2)
 have HP3:=yh (fun (h1 : k < l.length) (h2 : ¬ l[k].id = n.id)=>show putN n l = l.take k ++ [n] ++ l.drop k by subst hkk;exact putN_ne h1 h2)
 clear hkk hb1 hx1 hid0 h hx hl
 go_enter Tryz.func56,Tryz.ntmps56
 go_wp2
 generalize hwa : w.alloc (.cells x 45) = wa at *
 clear hwa
 go_loopw [5] (fun i W=>∃ j : Nat,j ≤ k ∧ i = .int .i64 (j : Int) ∧ Hid (Below wa.heap.size wa W)) (fun i _=>k - (intOf i).toNat)
 case atStart=>exact ⟨0,Nat.zero_le _,rfl,yh (Below.refl _ _)⟩
 case round =>
  obtain ⟨j,hj,rfl,HI⟩:=hrel
  by_cases hlt : j < l.length
  ·obtain ⟨b1,o1,cs,rfl,_,hcc,hv⟩:=(HH.out.1.below (fun h=>h.below HI.out) HI.out).get hlt
   obtain ⟨pl,cl,pp,cp,rfl,hls,hps⟩:=hv
   have c1 : wr.cell? ⟨b1,o1 + j * 3,none⟩ = some (.int .i64 l[j].id):=hcc 0 _ rfl
   have c0:=Kag HI.out (ltOf HID.out) HID.out
   have hi1 : ∀ W' : World,(Instr.indexAt 22 (.slice (some ⟨b1,o1,none⟩) l.length c) (.int .i64 (j : Int))).run Tryz.prog W' = .ok (.pointer (some ⟨b1,o1 + j * 3,none⟩)) W':=fun W'=>ia_node hlt W'
   have hA : ∀ W' : World,(binOp .lss 3 (.int .i64 (j : Int)) (.int .i64 (l.length : Int))).run Tryz.prog W' = .ok (.bool true) W':=fun W'=>by rw [lss_n,decide_eq_true hlt]
   have hB:=fun W'=>lss_i l[j].id n.id W'
   have HB1:=HI
   have hB0 : Below wr.heap.size wr wr.drew:=(Below.refl _ wr).drew
   by_cases hjk : j < k
   ·have hlt2:=HL1.out j hlt hjk
    have hB : ∀ W' : World,(binOp .lss 2 (.int .i64 l[j].id) (.int .i64 n.id)).run Tryz.prog W' = .ok (.bool true) W':=fun W'=>by rw [lss_i,decide_eq_true hlt2]
    have hj2 : j + 1 ≤ k:=hjk
    clear hlt2
    generalize l[j].id = idl at *
    clear hcc hls hps
    have HY:=yh (And.intro hi1 (And.intro hA (And.intro hB (And.intro c0 (And.intro c1 hB0)))))
    clear hi1 hA hB c0 c1 hB0
    go_wp2
    obtain ⟨hi1,hA,hB,c0,c1,hB0⟩:=HY.out
    refine Kaf (fun W=>Below wr.heap.size wr W) (by kernel_rfl) hB0 (fun hS=>?_)
    refine tk 0 7 (v:=.int .i64 (j : Int)) rfl rfl (fun W hW=>Kab rfl rfl) ?_
    simp only [Act.put,sA,sZ,sS]
    refine tk 1 8 (v:=.slice (some ⟨b1,o1,none⟩) l.length c) rfl rfl (fun W hW=>Kab rfl rfl) ?_
    simp only [Act.put,sA,sZ,sS]
    refine tk 2 9 (v:=.int .i64 (l.length : Int)) rfl rfl (fun W hW=>Kdv rfl rfl) ?_
    simp only [Act.put,sA,sZ,sS]
    refine tk 3 10 (v:=.bool true) rfl rfl (fun W hW=>Kal rfl rfl rfl (hA W)) ?_
    simp only [Act.put,sA,sZ,sS]
    refine tk 4 11 (v:=.bool true) rfl rfl (fun W hW=>Kab rfl rfl) ?_
    simp only [Act.put,sA,sZ,sS]
    refine tk 5 12 (v:=.slice (some ⟨b1,o1,none⟩) l.length c) rfl rfl (fun W hW=>Kab rfl rfl) ?_
    simp only [Act.put,sA,sZ,sS]
    refine tk 6 13 (v:=.int .i64 (j : Int)) rfl rfl (fun W hW=>Kab rfl rfl) ?_
    simp only [Act.put,sA,sZ,sS]
    refine tk 7 14 (v:=.pointer (some ⟨b1,o1 + j * 3,none⟩)) rfl rfl (fun W hW=>Kaj rfl rfl rfl (hi1 W)) ?_
    simp only [Act.put,sA,sZ,sS]
    refine tk 8 15 (v:=.pointer (some ⟨b1,o1 + j * 3,none⟩)) rfl rfl (fun W hW=>Kac rfl rfl (fa_ndO _ _ W)) ?_
    simp only [Act.put,sA,sZ,sS]
    refine tk 9 16 (v:=.int .i64 idl) rfl rfl (fun W hW=>Kad rfl rfl (Kae (w:=W) Tryz.underlying2 rfl (Kag hW (ltOf c1) c1))) ?_
    simp only [Act.put,sA,sZ,sS]
    refine tk 10 17 (v:=.pointer (some ⟨w.heap.size,0,none⟩)) rfl rfl (fun W hW=>Kac rfl rfl (fa_nd 0 (by omega) _ W)) ?_
    simp only [Act.put,sA,sZ,sS]
    refine tk 11 18 (v:=.int .i64 n.id) rfl rfl (fun W hW=>Kad rfl rfl (Kae (w:=W) Tryz.underlying2 rfl (Kag hW (ltOf c0) c0))) ?_
    simp only [Act.put,sA,sZ,sS]
    refine tk 12 19 (v:=.bool true) rfl rfl (fun W hW=>Kal rfl rfl rfl (hB W)) ?_
    simp only [Act.put,sA,sZ,sS]
    refine tk 13 20 (v:=.bool true) rfl rfl (fun W hW=>rfl) ?_
    simp only [Act.put,sA,sZ,sS]
    refine done (by kernel_rfl) ?_ _
    have HB:=yh (Kaa HB1.out hS)
    clear hA hB hi1 c0 c1 hB0 hS HY
    go_wp2
    go_roundw
    case rel=>exact ⟨j + 1,hj2,by go_num,HB⟩
    case measure=>simp [intOf];omega
   ·obtain rfl : j = k:=by omega
    have hge:=HL2.out hlt
    have hB : ∀ W' : World,(binOp .lss 2 (.int .i64 l[j].id) (.int .i64 n.id)).run Tryz.prog W' = .ok (.bool false) W':=fun W'=>by rw [lss_i,decide_eq_false (by omega)]
    have hE:=fun W'=>eql_i l[j].id n.id W'
    obtain ⟨b2,hb2⟩ : ∃ b,b = decide (l[j].id = n.id):=⟨_,rfl⟩
    rw [← hb2] at hE
    have HP2b:=yh (fun e : b2 = true=>HP2.out hlt (by rw [hb2] at e;simpa using e))
    have HP3b:=yh (fun e : b2 = false=>HP3.out hlt (by rw [hb2] at e;simpa using e))
    clear hge hb2 HP2 HP3
    have HCE:=yh (And.intro c1 (And.intro c0 hE))
    generalize l[j].id = idl at *
    clear hcc hls hps
    have HY:=yh (And.intro hi1 (And.intro hA (And.intro hB (And.intro c0 (And.intro c1 hB0)))))
    clear hi1 hA hB c0 c1 hB0 hE
    go_wp2
    obtain ⟨hi1,hA,hB,c0,c1,hB0⟩:=HY.out
    refine Kaf (fun W=>Below wr.heap.size wr W) (by kernel_rfl) hB0 (fun hS=>?_)
    refine tk 0 7 (v:=.int .i64 (j : Int)) rfl rfl (fun W hW=>Kab rfl rfl) ?_
    simp only [Act.put,sA,sZ,sS]
    refine tk 1 8 (v:=.slice (some ⟨b1,o1,none⟩) l.length c) rfl rfl (fun W hW=>Kab rfl rfl) ?_
    simp only [Act.put,sA,sZ,sS]
    refine tk 2 9 (v:=.int .i64 (l.length : Int)) rfl rfl (fun W hW=>Kdv rfl rfl) ?_
    simp only [Act.put,sA,sZ,sS]
    refine tk 3 10 (v:=.bool true) rfl rfl (fun W hW=>Kal rfl rfl rfl (hA W)) ?_
    simp only [Act.put,sA,sZ,sS]
    refine tk 4 11 (v:=.bool true) rfl rfl (fun W hW=>Kab rfl rfl) ?_
    simp only [Act.put,sA,sZ,sS]
    refine tk 5 12 (v:=.slice (some ⟨b1,o1,none⟩) l.length c) rfl rfl (fun W hW=>Kab rfl rfl) ?_
    simp only [Act.put,sA,sZ,sS]
    refine tk 6 13 (v:=.int .i64 (j : Int)) rfl rfl (fun W hW=>Kab rfl rfl) ?_
    simp only [Act.put,sA,sZ,sS]
    refine tk 7 14 (v:=.pointer (some ⟨b1,o1 + j * 3,none⟩)) rfl rfl (fun W hW=>Kaj rfl rfl rfl (hi1 W)) ?_
    simp only [Act.put,sA,sZ,sS]
    refine tk 8 15 (v:=.pointer (some ⟨b1,o1 + j * 3,none⟩)) rfl rfl (fun W hW=>Kac rfl rfl (fa_ndO _ _ W)) ?_
    simp only [Act.put,sA,sZ,sS]
    refine tk 9 16 (v:=.int .i64 idl) rfl rfl (fun W hW=>Kad rfl rfl (Kae (w:=W) Tryz.underlying2 rfl (Kag hW (ltOf c1) c1))) ?_
    simp only [Act.put,sA,sZ,sS]
    refine tk 10 17 (v:=.pointer (some ⟨w.heap.size,0,none⟩)) rfl rfl (fun W hW=>Kac rfl rfl (fa_nd 0 (by omega) _ W)) ?_
    simp only [Act.put,sA,sZ,sS]
    refine tk 11 18 (v:=.int .i64 n.id) rfl rfl (fun W hW=>Kad rfl rfl (Kae (w:=W) Tryz.underlying2 rfl (Kag hW (ltOf c0) c0))) ?_
    simp only [Act.put,sA,sZ,sS]
    refine tk 12 19 (v:=.bool false) rfl rfl (fun W hW=>Kal rfl rfl rfl (hB W)) ?_
    simp only [Act.put,sA,sZ,sS]
    refine tk 13 20 (v:=.bool false) rfl rfl (fun W hW=>rfl) ?_
    simp only [Act.put,sA,sZ,sS]
    refine done (by kernel_rfl) ?_ _
    have HBZ:=yh (Kaa HB1.out hS)
    have HSZ:=yh hS
    have HA0:=yh hA
    have HI0:=yh hi1
    clear hA hB hi1 c0 c1 hB0 hS HY
    clear HB1
    have hj1 : j ≤ l.length:=by omega
    generalize hjk2 : j = k at *
    subst hjk2
    generalize hwz : wr.drew = wz at *
    clear hwz
    have hlz:=HV.out.2.1
    have hnz:=HV.out.2.2
    have hEz : Ext V wz:=HV.out.1.trans (Ext.of_below (Kaa HX.out.1 HBZ.out))
    obtain ⟨q1,hs1,hg1⟩:=hlz.cut Tryz.underlying22 Tryz.sizeOf45 (n:=j) hj1
    have hl1 : (l.take j).length = j:=by rw [List.length_take];omega
    have hA0 : VRow NRd 45 3 V wz wz (.slice none 0 0) ([] : List NodeD):=.nil (Below.refl _ _)
    obtain ⟨v1,W1,a1,r1⟩:=hA0.many Kbo ga_node hEz hg1 (by simp only [List.length_nil,hl1];have:=HH.out.2.2;omega) 22
    rw [hl1] at a1
    rw [List.nil_append] at r1
    obtain ⟨p1,d1,rfl⟩:=r1.slice
    rw [hl1] at a1
    have hbx:=Kak (Kaa HBZ.out r1.b) (Array.getElem?_eq_some_iff.1 HX.out.2).1 HX.out.2
    have HLD:=yh (StT.get (P:=Tryz.prog) Ka7 (Kbo.size HH.out.2.1) hbx)
    have hbs1:=Kas (P:=Tryz.prog) (w:=W1) (v:=.agg x) Tryz.underlying22 Tryz.sizeOf45 Tryz.zeroValue45 (Kbo.size HH.out.2.1) (by omega) (by omega)
    obtain ⟨v2,W2,a2,r2⟩:=r1.one Kbo ga_node hnz (by rw [hl1];have:=HH.out.2.2;omega) 22
    obtain ⟨p2,d2,rfl⟩:=r2.slice
    have hl2 : (l.take j ++ [n]).length = j + 1:=by rw [List.length_append,hl1];rfl
    rw [hl2] at a2
    rw [hl1] at a2
    have HS1:=yh hs1
    have HA1:=yh a1
    have HBS:=yh hbs1
    have HA2:=yh a2
    have HR2:=yh (And.intro r2 (And.intro hl2 (And.intro hlz hEz)))
    clear hlz hEz hnz hs1 hg1 hA0 a1 r1 hbx hbs1 a2 r2 HI
    go_wp2_with (first
     | ((with_reducible apply Kcv);exact HS1.out _;exact rfl;exact rfl;exact rfl;exact rfl;clear HS1)
     | ((with_reducible apply Kap);exact HLD.out;exact rfl;clear HLD)
     | ((with_reducible apply op_bs1);exact HBS.out;exact rfl;clear HBS)
     | ((with_reducible apply Kbg);exact HA1.out;exact rfl;exact rfl;clear HA1)
     | ((with_reducible apply Kbg);exact HA2.out;exact rfl;exact rfl;clear HA2))
    have hA:=HA0.out
    have hi1:=HI0.out
    have gz:=Kaa HSZ.out HR2.out.1.b
    have c1:=Kag gz (ltOf HCE.out.1) HCE.out.1
    have c0:=Kag gz (ltOf HCE.out.2.1) HCE.out.2.1
    have hB:=HCE.out.2.2
    have hB6 : Below W2.heap.size W2 W2.drew:=(Below.refl _ W2).drew
    refine Kaf (fun W=>Below W2.heap.size W2 W) (by kernel_rfl) hB6 (fun hS=>?_)
    refine tk 0 31 (v:=.int .i64 (j : Int)) rfl rfl (fun W hW=>Kab rfl rfl) ?_
    simp only [Act.put,sA,sZ,sS]
    refine tk 1 32 (v:=.slice (some ⟨b1,o1,none⟩) l.length c) rfl rfl (fun W hW=>Kab rfl rfl) ?_
    simp only [Act.put,sA,sZ,sS]
    refine tk 2 33 (v:=.int .i64 (l.length : Int)) rfl rfl (fun W hW=>Kdv rfl rfl) ?_
    simp only [Act.put,sA,sZ,sS]
    refine tk 3 34 (v:=.bool true) rfl rfl (fun W hW=>Kal rfl rfl rfl (hA W)) ?_
    simp only [Act.put,sA,sZ,sS]
    refine tk 4 35 (v:=.bool true) rfl rfl (fun W hW=>Kab rfl rfl) ?_
    simp only [Act.put,sA,sZ,sS]
    refine tk 5 36 (v:=.slice (some ⟨b1,o1,none⟩) l.length c) rfl rfl (fun W hW=>Kab rfl rfl) ?_
    simp only [Act.put,sA,sZ,sS]
    refine tk 6 37 (v:=.int .i64 (j : Int)) rfl rfl (fun W hW=>Kab rfl rfl) ?_
    simp only [Act.put,sA,sZ,sS]
    refine tk 7 38 (v:=.pointer (some ⟨b1,o1 + j * 3,none⟩)) rfl rfl (fun W hW=>Kaj rfl rfl rfl (hi1 W)) ?_
    simp only [Act.put,sA,sZ,sS]
    refine tk 8 39 (v:=.pointer (some ⟨b1,o1 + j * 3,none⟩)) rfl rfl (fun W hW=>Kac rfl rfl (fa_ndO _ _ W)) ?_
    simp only [Act.put,sA,sZ,sS]
    refine tk 9 40 (v:=.int .i64 idl) rfl rfl (fun W hW=>Kad rfl rfl (Kae (w:=W) Tryz.underlying2 rfl (Kag hW (ltOf c1) c1))) ?_
    simp only [Act.put,sA,sZ,sS]
    refine tk 10 41 (v:=.pointer (some ⟨w.heap.size,0,none⟩)) rfl rfl (fun W hW=>Kac rfl rfl (fa_nd 0 (by omega) _ W)) ?_
    simp only [Act.put,sA,sZ,sS]
    refine tk 11 42 (v:=.int .i64 n.id) rfl rfl (fun W hW=>Kad rfl rfl (Kae (w:=W) Tryz.underlying2 rfl (Kag hW (ltOf c0) c0))) ?_
    simp only [Act.put,sA,sZ,sS]
    cases b2 with
    | true =>
      refine tk 12 43 (v:=.bool true) rfl rfl (fun W hW=>Kal rfl rfl rfl (hB W)) ?_
      simp only [Act.put,sA,sZ,sS]
      refine tk 13 44 (v:=.bool true) rfl rfl (fun W hW=>rfl) ?_
      simp only [Act.put,sA,sZ,sS]
      refine done (by kernel_rfl) ?_ _
      clear hA hB hi1 c0 c1 hB6 hS gz HA0 HI0 HCE HSZ
      obtain ⟨r2,hl2,hlz,hEz⟩:=HR2.out
      obtain ⟨q3,d3,hs3,hg3⟩:=hlz.rest Tryz.underlying22 Tryz.sizeOf45 (n:=j + 1) (by omega)
      have r2w : VRow NRd 45 3 V wz W2.drew (.slice p2 (l.take j ++ [n]).length d2) (l.take j ++ [n]):=r2.below (Below.refl _ W2).drew
      obtain ⟨v3,W3,a3,r3⟩:=r2w.many Kbo ga_node hEz hg3 (by rw [hl2,List.length_drop];have:=HH.out.2.2;omega) 22
      rw [hl2] at a3
      have HS3:=yh hs3
      have HA3:=yh a3
      have HR3:=yh r3
      clear hs3 hg3 r2 r2w a3 r3 hlz hEz HR2
      go_wp2_with (first
       | ((with_reducible apply Kcv);exact HS3.out _;exact rfl;exact rfl;exact rfl;exact rfl;clear HS3)
       | ((with_reducible apply Kbg);exact HA3.out;exact rfl;exact rfl;clear HA3))
      go_ret
      obtain ⟨q,d,rfl⟩:=HR3.out.slice
      have hput : putN n l = l.take j ++ [n] ++ l.drop (j + 1):=HP2b.out (by simp)
      rw [hput]
      exact ⟨q,d,rfl,HR3.out.base (Kaa HX.out.1 HBZ.out)⟩
    | false =>
      refine tk 12 43 (v:=.bool false) rfl rfl (fun W hW=>Kal rfl rfl rfl (hB W)) ?_
      simp only [Act.put,sA,sZ,sS]
      refine tk 13 44 (v:=.bool false) rfl rfl (fun W hW=>rfl) ?_
      simp only [Act.put,sA,sZ,sS]
      refine done (by kernel_rfl) ?_ _
      clear hA hB hi1 c0 c1 hB6 hS gz HA0 HI0 HCE HSZ
      obtain ⟨r2,hl2,hlz,hEz⟩:=HR2.out
      obtain ⟨q3,d3,hs3,hg3⟩:=hlz.rest Tryz.underlying22 Tryz.sizeOf45 (n:=j) (by omega)
      have r2w : VRow NRd 45 3 V wz W2.drew (.slice p2 (l.take j ++ [n]).length d2) (l.take j ++ [n]):=r2.below (Below.refl _ W2).drew
      obtain ⟨v3,W3,a3,r3⟩:=r2w.many Kbo ga_node hEz hg3 (by rw [hl2,List.length_drop];have:=HH.out.2.2;omega) 22
      rw [hl2] at a3
      have HS3:=yh hs3
      have HA3:=yh a3
      have HR3:=yh r3
      clear hs3 hg3 r2 r2w a3 r3 hlz hEz HR2
      go_wp2_with (first
       | ((with_reducible apply Kcv);exact HS3.out _;exact rfl;exact rfl;exact rfl;exact rfl;clear HS3)
       | ((with_reducible apply Kbg);exact HA3.out;exact rfl;exact rfl;clear HA3))
      go_ret
      obtain ⟨q,d,rfl⟩:=HR3.out.slice
      have hput : putN n l = l.take j ++ [n] ++ l.drop (j):=HP3b.out (by simp)
      rw [hput]
      exact ⟨q,d,rfl,HR3.out.base (Kaa HX.out.1 HBZ.out)⟩
  ·obtain rfl : j = l.length:=by omega
   have hkl : k = l.length:=by omega
   have hA : ∀ W' : World,(binOp .lss 3 (.int .i64 (l.length : Int)) (.int .i64 (l.length : Int))).run Tryz.prog W' = .ok (.bool false) W':=fun W'=>by rw [lss_n,decide_eq_false (by omega)]
   have HB1:=HI
   have hB0 : Below wr.heap.size wr wr.drew:=(Below.refl _ wr).drew
   have HY:=yh (And.intro hA hB0)
   clear hA hB0
   go_wp2
   obtain ⟨hA,hB0⟩:=HY.out
   refine Kaf (fun W=>Below wr.heap.size wr W) (by kernel_rfl) hB0 (fun hS=>?_)
   refine tk 0 7 (v:=.int .i64 (l.length : Int)) rfl rfl (fun W hW=>Kab rfl rfl) ?_
   simp only [Act.put,sA,sZ,sS]
   refine tk 1 8 (v:=.slice p l.length c) rfl rfl (fun W hW=>Kab rfl rfl) ?_
   simp only [Act.put,sA,sZ,sS]
   refine tk 2 9 (v:=.int .i64 (l.length : Int)) rfl rfl (fun W hW=>Kdv rfl rfl) ?_
   simp only [Act.put,sA,sZ,sS]
   refine tk 3 10 (v:=.bool false) rfl rfl (fun W hW=>Kal rfl rfl rfl (hA W)) ?_
   simp only [Act.put,sA,sZ,sS]
   refine tk 4 11 (v:=.bool false) rfl rfl (fun W hW=>Kab rfl rfl) ?_
   simp only [Act.put,sA,sZ,sS]
   refine tn 5 12 rfl rfl ?_
   simp only [Act.put,sA,sZ,sS]
   refine tn 6 13 rfl rfl ?_
   simp only [Act.put,sA,sZ,sS]
   refine tn 7 14 rfl rfl ?_
   simp only [Act.put,sA,sZ,sS]
   refine tn 8 15 rfl rfl ?_
   simp only [Act.put,sA,sZ,sS]
   refine tn 9 16 rfl rfl ?_
   simp only [Act.put,sA,sZ,sS]
   refine tn 10 17 rfl rfl ?_
   simp only [Act.put,sA,sZ,sS]
   refine tn 11 18 rfl rfl ?_
   simp only [Act.put,sA,sZ,sS]
   refine tn 12 19 rfl rfl ?_
   simp only [Act.put,sA,sZ,sS]
   refine tk 13 20 (v:=.bool false) rfl rfl (fun W hW=>rfl) ?_
   simp only [Act.put,sA,sZ,sS]
   refine done (by kernel_rfl) ?_ _
   have HBZ:=yh (Kaa HB1.out hS)
   have HA0:=yh hA
   clear hA hB0 hS HY
   clear HB1
   generalize hwz : wr.drew = wz at *
   clear hwz
   have hlz:=HV.out.2.1
   have hnz:=HV.out.2.2
   have hEz : Ext V wz:=HV.out.1.trans (Ext.of_below (Kaa HX.out.1 HBZ.out))
   obtain ⟨q1,hs1,hg1⟩:=hlz.cut Tryz.underlying22 Tryz.sizeOf45 (n:=l.length) (Nat.le_refl _)
   have hl1 : (l.take l.length).length = l.length:=by rw [List.length_take];omega
   have hA0 : VRow NRd 45 3 V wz wz (.slice none 0 0) ([] : List NodeD):=.nil (Below.refl _ _)
   obtain ⟨v1,W1,a1,r1⟩:=hA0.many Kbo ga_node hEz hg1 (by simp only [List.length_nil,hl1];have:=HH.out.2.2;omega) 22
   rw [hl1] at a1
   rw [List.nil_append] at r1
   obtain ⟨p1,d1,rfl⟩:=r1.slice
   rw [hl1] at a1
   have hbx:=Kak (Kaa HBZ.out r1.b) (Array.getElem?_eq_some_iff.1 HX.out.2).1 HX.out.2
   have HLD:=yh (StT.get (P:=Tryz.prog) Ka7 (Kbo.size HH.out.2.1) hbx)
   have hbs1:=Kas (P:=Tryz.prog) (w:=W1) (v:=.agg x) Tryz.underlying22 Tryz.sizeOf45 Tryz.zeroValue45 (Kbo.size HH.out.2.1) (by omega) (by omega)
   obtain ⟨v2,W2,a2,r2⟩:=r1.one Kbo ga_node hnz (by rw [hl1];have:=HH.out.2.2;omega) 22
   obtain ⟨p2,d2,rfl⟩:=r2.slice
   have hl2 : (l.take l.length ++ [n]).length = l.length + 1:=by rw [List.length_append,hl1];rfl
   rw [hl2] at a2
   rw [hl1] at a2
   have HS1:=yh hs1
   have HA1:=yh a1
   have HBS:=yh hbs1
   have HA2:=yh a2
   have HR2:=yh (And.intro r2 (And.intro hl2 (And.intro hlz hEz)))
   clear hlz hEz hnz hs1 hg1 hA0 a1 r1 hbx hbs1 a2 r2 HI
   go_wp2_with (first
    | ((with_reducible apply Kcv);exact HS1.out _;exact rfl;exact rfl;exact rfl;exact rfl;clear HS1)
    | ((with_reducible apply Kap);exact HLD.out;exact rfl;clear HLD)
    | ((with_reducible apply op_bs1);exact HBS.out;exact rfl;clear HBS)
    | ((with_reducible apply Kbg);exact HA1.out;exact rfl;exact rfl;clear HA1)
    | ((with_reducible apply Kbg);exact HA2.out;exact rfl;exact rfl;clear HA2))
   have hA:=HA0.out
   have hB6 : Below W2.heap.size W2 W2.drew:=(Below.refl _ W2).drew
   refine Kaf (fun W=>Below W2.heap.size W2 W) (by kernel_rfl) hB6 (fun hS=>?_)
   refine tk 0 31 (v:=.int .i64 (l.length : Int)) rfl rfl (fun W hW=>Kab rfl rfl) ?_
   simp only [Act.put,sA,sZ,sS]
   refine tk 1 32 (v:=.slice p l.length c) rfl rfl (fun W hW=>Kab rfl rfl) ?_
   simp only [Act.put,sA,sZ,sS]
   refine tk 2 33 (v:=.int .i64 (l.length : Int)) rfl rfl (fun W hW=>Kdv rfl rfl) ?_
   simp only [Act.put,sA,sZ,sS]
   refine tk 3 34 (v:=.bool false) rfl rfl (fun W hW=>Kal rfl rfl rfl (hA W)) ?_
   simp only [Act.put,sA,sZ,sS]
   refine tk 4 35 (v:=.bool false) rfl rfl (fun W hW=>Kab rfl rfl) ?_
   simp only [Act.put,sA,sZ,sS]
   refine tn 5 36 rfl rfl ?_
   simp only [Act.put,sA,sZ,sS]
   refine tn 6 37 rfl rfl ?_
   simp only [Act.put,sA,sZ,sS]
   refine tn 7 38 rfl rfl ?_
   simp only [Act.put,sA,sZ,sS]
   refine tn 8 39 rfl rfl ?_
   simp only [Act.put,sA,sZ,sS]
   refine tn 9 40 rfl rfl ?_
   simp only [Act.put,sA,sZ,sS]
   refine tn 10 41 rfl rfl ?_
   simp only [Act.put,sA,sZ,sS]
   refine tn 11 42 rfl rfl ?_
   simp only [Act.put,sA,sZ,sS]
   refine tn 12 43 rfl rfl ?_
   simp only [Act.put,sA,sZ,sS]
   refine tk 13 44 (v:=.bool false) rfl rfl (fun W hW=>rfl) ?_
   simp only [Act.put,sA,sZ,sS]
   refine done (by kernel_rfl) ?_ _
   clear hA hB6 hS HA0
   have hkl2 : k = l.length:=hkl
   obtain ⟨r2,hl2,hlz,hEz⟩:=HR2.out
   obtain ⟨q3,d3,hs3,hg3⟩:=hlz.rest Tryz.underlying22 Tryz.sizeOf45 (n:=l.length) (by omega)
   have r2w : VRow NRd 45 3 V wz W2.drew (.slice p2 (l.take l.length ++ [n]).length d2) (l.take l.length ++ [n]):=r2.below (Below.refl _ W2).drew
   obtain ⟨v3,W3,a3,r3⟩:=r2w.many Kbo ga_node hEz hg3 (by rw [hl2,List.length_drop];have:=HH.out.2.2;omega) 22
   rw [hl2] at a3
   have HS3:=yh hs3
   have HA3:=yh a3
   have HR3:=yh r3
   clear hs3 hg3 r2 r2w a3 r3 hlz hEz HR2
   go_wp2_with (first
    | ((with_reducible apply Kcv);exact HS3.out _;exact rfl;exact rfl;exact rfl;exact rfl;clear HS3)
    | ((with_reducible apply Kbg);exact HA3.out;exact rfl;exact rfl;clear HA3))
   go_ret
   obtain ⟨q,d,rfl⟩:=HR3.out.slice
   have hput : putN n l = l.take l.length ++ [n] ++ l.drop (l.length):=by rw [HP1.out hkl,List.take_length,List.drop_length,List.append_nil]
   rw [hput]
   exact ⟨q,d,rfl,HR3.out.base (Kaa HX.out.1 HBZ.out)⟩
theorem withRel_any {V w : World} (hV : Ext V w) {p : Option Addr} {c : Nat} {l : List RelD} {n : RelD} {x : Array Value} (h : GRd RRd 5 V p c l) (hx : RRd V n x) (hl : l.length ≤ 1100000) : Calls Tryz.prog 57 #[.slice p l.length c,.agg x] w fun e w'=>∃ q d,e = .returned (.slice q (putR n l).length d) ∧ VRow RRd 49 5 V w w' (.slice q (putR n l).length d) (putR n l):=by
 have HV:=yh (And.intro hV (And.intro h hx))
 replace h:=GRd.ext hV (fun h=>RRd.ext hV h) h
 replace hx:=RRd.ext hV hx
 clear hV
 have hb1:=Kai (w:=w) (.cells x 49)
 have hx1:=heap_alloc_new w (.cells x 49)
 have HH:=yh (And.intro (h.below (fun h=>h.below hb1) hb1) (And.intro (hx.below hb1) hl))
 have HX:=yh (And.intro hb1 hx1)
 have hid0 : (w.alloc (.cells x 49)).cell? ⟨w.heap.size,0,none⟩ = some (.int .i64 n.id):=Kah (o:=0) hx1 (by obtain ⟨_,_,rfl,_⟩:=hx;rfl)
 have HID:=yh hid0
 have z1 : (l.length : Int) ≤ 1100000:=by omega
 have hk:=lead_le (id:=RelD.id) n.id l
 obtain ⟨k,hkk⟩ : ∃ k,k = lead RelD.id n.id l:=⟨_,rfl⟩
 rw [← hkk] at hk
 have HL1:=yh (fun (j : Nat) (hj : j < l.length) (hjk : j < k)=>show l[j].id < n.id from lead_lt (id:=RelD.id) (i:=n.id) hj (by rw [← hkk];exact hjk))
 have HL2:=yh (fun (hj : k < l.length)=>show ¬ l[k].id < n.id by subst hkk;exact lead_at (id:=RelD.id) (i:=n.id) (l:=l) hj)
 have HP1:=yh (fun (e : k = l.length)=>putR_ge (n:=n) (l:=l) (by rw [← hkk];exact e))
 have HP2:=yh (fun (h1 : k < l.length) (h2 : l[k].id = n.id)=>show putR n l = l.take k ++ [n] ++ l.drop (k + 1) by subst hkk;exact putR_at h1 h2)
 have HP3:=yh (fun (h1 : k < l.length) (h2 : ¬ l[k].id = n.id)=>show putR n l = l.take k ++ [n] ++ l.drop k by subst hkk;exact putR_ne h1 h2)
 clear hkk hb1 hx1 hid0 h hx hl
 go_enter Tryz.func57,Tryz.ntmps57
 go_wp2
 generalize hwa : w.alloc (.cells x 49) = wa at *
 clear hwa
 go_loopw [5] (fun i W=>∃ j : Nat,j ≤ k ∧ i = .int .i64 (j : Int) ∧ Hid (Below wa.heap.size wa W)) (fun i _=>k - (intOf i).toNat)
 case atStart=>exact ⟨0,Nat.zero_le _,rfl,yh (Below.refl _ _)⟩
 case round =>
  obtain ⟨j,hj,rfl,HI⟩:=hrel
  by_cases hlt : j < l.length
  ·obtain ⟨b1,o1,cs,rfl,_,hcc,hv⟩:=(HH.out.1.below (fun h=>h.below HI.out) HI.out).get hlt
   obtain ⟨pp,cp,rfl,hty,hps⟩:=hv
   have c1 : wr.cell? ⟨b1,o1 + j * 5,none⟩ = some (.int .i64 l[j].id):=hcc 0 _ rfl
   have c0:=Kag HI.out (ltOf HID.out) HID.out
   have hi1 : ∀ W' : World,(Instr.indexAt 23 (.slice (some ⟨b1,o1,none⟩) l.length c) (.int .i64 (j : Int))).run Tryz.prog W' = .ok (.pointer (some ⟨b1,o1 + j * 5,none⟩)) W':=fun W'=>ia_rel hlt W'
   have hA : ∀ W' : World,(binOp .lss 3 (.int .i64 (j : Int)) (.int .i64 (l.length : Int))).run Tryz.prog W' = .ok (.bool true) W':=fun W'=>by rw [lss_n,decide_eq_true hlt]
   have hB:=fun W'=>lss_i l[j].id n.id W'
   have HB1:=HI
   have hB0 : Below wr.heap.size wr wr.drew:=(Below.refl _ wr).drew
   by_cases hjk : j < k
   ·have hlt2:=HL1.out j hlt hjk
    have hB : ∀ W' : World,(binOp .lss 2 (.int .i64 l[j].id) (.int .i64 n.id)).run Tryz.prog W' = .ok (.bool true) W':=fun W'=>by rw [lss_i,decide_eq_true hlt2]
    have hj2 : j + 1 ≤ k:=hjk
    clear hlt2
    generalize l[j].id = idl at *
    clear hcc hty hps
    have HY:=yh (And.intro hi1 (And.intro hA (And.intro hB (And.intro c0 (And.intro c1 hB0)))))
    clear hi1 hA hB c0 c1 hB0
    go_wp2
    obtain ⟨hi1,hA,hB,c0,c1,hB0⟩:=HY.out
    refine Kaf (fun W=>Below wr.heap.size wr W) (by kernel_rfl) hB0 (fun hS=>?_)
    refine tk 0 7 (v:=.int .i64 (j : Int)) rfl rfl (fun W hW=>Kab rfl rfl) ?_
    simp only [Act.put,sA,sZ,sS]
    refine tk 1 8 (v:=.slice (some ⟨b1,o1,none⟩) l.length c) rfl rfl (fun W hW=>Kab rfl rfl) ?_
    simp only [Act.put,sA,sZ,sS]
    refine tk 2 9 (v:=.int .i64 (l.length : Int)) rfl rfl (fun W hW=>Kdz rfl rfl) ?_
    simp only [Act.put,sA,sZ,sS]
    refine tk 3 10 (v:=.bool true) rfl rfl (fun W hW=>Kal rfl rfl rfl (hA W)) ?_
    simp only [Act.put,sA,sZ,sS]
    refine tk 4 11 (v:=.bool true) rfl rfl (fun W hW=>Kab rfl rfl) ?_
    simp only [Act.put,sA,sZ,sS]
    refine tk 5 12 (v:=.slice (some ⟨b1,o1,none⟩) l.length c) rfl rfl (fun W hW=>Kab rfl rfl) ?_
    simp only [Act.put,sA,sZ,sS]
    refine tk 6 13 (v:=.int .i64 (j : Int)) rfl rfl (fun W hW=>Kab rfl rfl) ?_
    simp only [Act.put,sA,sZ,sS]
    refine tk 7 14 (v:=.pointer (some ⟨b1,o1 + j * 5,none⟩)) rfl rfl (fun W hW=>Kaj rfl rfl rfl (hi1 W)) ?_
    simp only [Act.put,sA,sZ,sS]
    refine tk 8 15 (v:=.pointer (some ⟨b1,o1 + j * 5,none⟩)) rfl rfl (fun W hW=>Kac rfl rfl (fa_rlO _ _ W)) ?_
    simp only [Act.put,sA,sZ,sS]
    refine tk 9 16 (v:=.int .i64 idl) rfl rfl (fun W hW=>Kad rfl rfl (Kae (w:=W) Tryz.underlying2 rfl (Kag hW (ltOf c1) c1))) ?_
    simp only [Act.put,sA,sZ,sS]
    refine tk 10 17 (v:=.pointer (some ⟨w.heap.size,0,none⟩)) rfl rfl (fun W hW=>Kac rfl rfl (fa_rl 0 (by omega) _ W)) ?_
    simp only [Act.put,sA,sZ,sS]
    refine tk 11 18 (v:=.int .i64 n.id) rfl rfl (fun W hW=>Kad rfl rfl (Kae (w:=W) Tryz.underlying2 rfl (Kag hW (ltOf c0) c0))) ?_
    simp only [Act.put,sA,sZ,sS]
    refine tk 12 19 (v:=.bool true) rfl rfl (fun W hW=>Kal rfl rfl rfl (hB W)) ?_
    simp only [Act.put,sA,sZ,sS]
    refine tk 13 20 (v:=.bool true) rfl rfl (fun W hW=>rfl) ?_
    simp only [Act.put,sA,sZ,sS]
    refine done (by kernel_rfl) ?_ _
    have HB:=yh (Kaa HB1.out hS)
    clear hA hB hi1 c0 c1 hB0 hS HY
    go_wp2
    go_roundw
    case rel=>exact ⟨j + 1,hj2,by go_num,HB⟩
    case measure=>simp [intOf];omega
   ·obtain rfl : j = k:=by omega
    have hge:=HL2.out hlt
    have hB : ∀ W' : World,(binOp .lss 2 (.int .i64 l[j].id) (.int .i64 n.id)).run Tryz.prog W' = .ok (.bool false) W':=fun W'=>by rw [lss_i,decide_eq_false (by omega)]
    have hE:=fun W'=>eql_i l[j].id n.id W'
    obtain ⟨b2,hb2⟩ : ∃ b,b = decide (l[j].id = n.id):=⟨_,rfl⟩
    rw [← hb2] at hE
    have HP2b:=yh (fun e : b2 = true=>HP2.out hlt (by rw [hb2] at e;simpa using e))
    have HP3b:=yh (fun e : b2 = false=>HP3.out hlt (by rw [hb2] at e;simpa using e))
    clear hge hb2 HP2 HP3
    have HCE:=yh (And.intro c1 (And.intro c0 hE))
    generalize l[j].id = idl at *
    clear hcc hty hps
    have HY:=yh (And.intro hi1 (And.intro hA (And.intro hB (And.intro c0 (And.intro c1 hB0)))))
    clear hi1 hA hB c0 c1 hB0 hE
    go_wp2
    obtain ⟨hi1,hA,hB,c0,c1,hB0⟩:=HY.out
    refine Kaf (fun W=>Below wr.heap.size wr W) (by kernel_rfl) hB0 (fun hS=>?_)
    refine tk 0 7 (v:=.int .i64 (j : Int)) rfl rfl (fun W hW=>Kab rfl rfl) ?_
    simp only [Act.put,sA,sZ,sS]
    refine tk 1 8 (v:=.slice (some ⟨b1,o1,none⟩) l.length c) rfl rfl (fun W hW=>Kab rfl rfl) ?_
    simp only [Act.put,sA,sZ,sS]
    refine tk 2 9 (v:=.int .i64 (l.length : Int)) rfl rfl (fun W hW=>Kdz rfl rfl) ?_
    simp only [Act.put,sA,sZ,sS]
    refine tk 3 10 (v:=.bool true) rfl rfl (fun W hW=>Kal rfl rfl rfl (hA W)) ?_
    simp only [Act.put,sA,sZ,sS]
    refine tk 4 11 (v:=.bool true) rfl rfl (fun W hW=>Kab rfl rfl) ?_
    simp only [Act.put,sA,sZ,sS]
    refine tk 5 12 (v:=.slice (some ⟨b1,o1,none⟩) l.length c) rfl rfl (fun W hW=>Kab rfl rfl) ?_
    simp only [Act.put,sA,sZ,sS]
    refine tk 6 13 (v:=.int .i64 (j : Int)) rfl rfl (fun W hW=>Kab rfl rfl) ?_
    simp only [Act.put,sA,sZ,sS]
    refine tk 7 14 (v:=.pointer (some ⟨b1,o1 + j * 5,none⟩)) rfl rfl (fun W hW=>Kaj rfl rfl rfl (hi1 W)) ?_
    simp only [Act.put,sA,sZ,sS]
    refine tk 8 15 (v:=.pointer (some ⟨b1,o1 + j * 5,none⟩)) rfl rfl (fun W hW=>Kac rfl rfl (fa_rlO _ _ W)) ?_
    simp only [Act.put,sA,sZ,sS]
    refine tk 9 16 (v:=.int .i64 idl) rfl rfl (fun W hW=>Kad rfl rfl (Kae (w:=W) Tryz.underlying2 rfl (Kag hW (ltOf c1) c1))) ?_
    simp only [Act.put,sA,sZ,sS]
    refine tk 10 17 (v:=.pointer (some ⟨w.heap.size,0,none⟩)) rfl rfl (fun W hW=>Kac rfl rfl (fa_rl 0 (by omega) _ W)) ?_
    simp only [Act.put,sA,sZ,sS]
    refine tk 11 18 (v:=.int .i64 n.id) rfl rfl (fun W hW=>Kad rfl rfl (Kae (w:=W) Tryz.underlying2 rfl (Kag hW (ltOf c0) c0))) ?_
    simp only [Act.put,sA,sZ,sS]
    refine tk 12 19 (v:=.bool false) rfl rfl (fun W hW=>Kal rfl rfl rfl (hB W)) ?_
    simp only [Act.put,sA,sZ,sS]
    refine tk 13 20 (v:=.bool false) rfl rfl (fun W hW=>rfl) ?_
    simp only [Act.put,sA,sZ,sS]
    refine done (by kernel_rfl) ?_ _
    have HBZ:=yh (Kaa HB1.out hS)
    have HSZ:=yh hS
    have HA0:=yh hA
    have HI0:=yh hi1
    clear hA hB hi1 c0 c1 hB0 hS HY
    clear HB1
    have hj1 : j ≤ l.length:=by omega
    generalize hjk2 : j = k at *
    subst hjk2
    generalize hwz : wr.drew = wz at *
    clear hwz
    have hlz:=HV.out.2.1
    have hnz:=HV.out.2.2
    have hEz : Ext V wz:=HV.out.1.trans (Ext.of_below (Kaa HX.out.1 HBZ.out))
    obtain ⟨q1,hs1,hg1⟩:=hlz.cut Tryz.underlying23 Tryz.sizeOf49 (n:=j) hj1
    have hl1 : (l.take j).length = j:=by rw [List.length_take];omega
    have hA0 : VRow RRd 49 5 V wz wz (.slice none 0 0) ([] : List RelD):=.nil (Below.refl _ _)
    obtain ⟨v1,W1,a1,r1⟩:=hA0.many Kcc ga_rel hEz hg1 (by simp only [List.length_nil,hl1];have:=HH.out.2.2;omega) 23
    rw [hl1] at a1
    rw [List.nil_append] at r1
    obtain ⟨p1,d1,rfl⟩:=r1.slice
    rw [hl1] at a1
    have hbx:=Kak (Kaa HBZ.out r1.b) (Array.getElem?_eq_some_iff.1 HX.out.2).1 HX.out.2
    have HLD:=yh (StT.get (P:=Tryz.prog) Kbv (Kcc.size HH.out.2.1) hbx)
    have hbs1:=Kas (P:=Tryz.prog) (w:=W1) (v:=.agg x) Tryz.underlying23 Tryz.sizeOf49 Tryz.zeroValue49 (Kcc.size HH.out.2.1) (by omega) (by omega)
    obtain ⟨v2,W2,a2,r2⟩:=r1.one Kcc ga_rel hnz (by rw [hl1];have:=HH.out.2.2;omega) 23
    obtain ⟨p2,d2,rfl⟩:=r2.slice
    have hl2 : (l.take j ++ [n]).length = j + 1:=by rw [List.length_append,hl1];rfl
    rw [hl2] at a2
    rw [hl1] at a2
    have HS1:=yh hs1
    have HA1:=yh a1
    have HBS:=yh hbs1
    have HA2:=yh a2
    have HR2:=yh (And.intro r2 (And.intro hl2 (And.intro hlz hEz)))
    clear hlz hEz hnz hs1 hg1 hA0 a1 r1 hbx hbs1 a2 r2 HI
    go_wp2_with (first
     | ((with_reducible apply Kcv);exact HS1.out _;exact rfl;exact rfl;exact rfl;exact rfl;clear HS1)
     | ((with_reducible apply Kap);exact HLD.out;exact rfl;clear HLD)
     | ((with_reducible apply op_bs1);exact HBS.out;exact rfl;clear HBS)
     | ((with_reducible apply Kbg);exact HA1.out;exact rfl;exact rfl;clear HA1)
     | ((with_reducible apply Kbg);exact HA2.out;exact rfl;exact rfl;clear HA2))
    have hA:=HA0.out
    have hi1:=HI0.out
    have gz:=Kaa HSZ.out HR2.out.1.b
    have c1:=Kag gz (ltOf HCE.out.1) HCE.out.1
    have c0:=Kag gz (ltOf HCE.out.2.1) HCE.out.2.1
    have hB:=HCE.out.2.2
    have hB6 : Below W2.heap.size W2 W2.drew:=(Below.refl _ W2).drew
    refine Kaf (fun W=>Below W2.heap.size W2 W) (by kernel_rfl) hB6 (fun hS=>?_)
    refine tk 0 31 (v:=.int .i64 (j : Int)) rfl rfl (fun W hW=>Kab rfl rfl) ?_
    simp only [Act.put,sA,sZ,sS]
    refine tk 1 32 (v:=.slice (some ⟨b1,o1,none⟩) l.length c) rfl rfl (fun W hW=>Kab rfl rfl) ?_
    simp only [Act.put,sA,sZ,sS]
    refine tk 2 33 (v:=.int .i64 (l.length : Int)) rfl rfl (fun W hW=>Kdz rfl rfl) ?_
    simp only [Act.put,sA,sZ,sS]
    refine tk 3 34 (v:=.bool true) rfl rfl (fun W hW=>Kal rfl rfl rfl (hA W)) ?_
    simp only [Act.put,sA,sZ,sS]
    refine tk 4 35 (v:=.bool true) rfl rfl (fun W hW=>Kab rfl rfl) ?_
    simp only [Act.put,sA,sZ,sS]
    refine tk 5 36 (v:=.slice (some ⟨b1,o1,none⟩) l.length c) rfl rfl (fun W hW=>Kab rfl rfl) ?_
    simp only [Act.put,sA,sZ,sS]
    refine tk 6 37 (v:=.int .i64 (j : Int)) rfl rfl (fun W hW=>Kab rfl rfl) ?_
    simp only [Act.put,sA,sZ,sS]
    refine tk 7 38 (v:=.pointer (some ⟨b1,o1 + j * 5,none⟩)) rfl rfl (fun W hW=>Kaj rfl rfl rfl (hi1 W)) ?_
    simp only [Act.put,sA,sZ,sS]
    refine tk 8 39 (v:=.pointer (some ⟨b1,o1 + j * 5,none⟩)) rfl rfl (fun W hW=>Kac rfl rfl (fa_rlO _ _ W)) ?_
    simp only [Act.put,sA,sZ,sS]
    refine tk 9 40 (v:=.int .i64 idl) rfl rfl (fun W hW=>Kad rfl rfl (Kae (w:=W) Tryz.underlying2 rfl (Kag hW (ltOf c1) c1))) ?_
    simp only [Act.put,sA,sZ,sS]
    refine tk 10 41 (v:=.pointer (some ⟨w.heap.size,0,none⟩)) rfl rfl (fun W hW=>Kac rfl rfl (fa_rl 0 (by omega) _ W)) ?_
    simp only [Act.put,sA,sZ,sS]
    refine tk 11 42 (v:=.int .i64 n.id) rfl rfl (fun W hW=>Kad rfl rfl (Kae (w:=W) Tryz.underlying2 rfl (Kag hW (ltOf c0) c0))) ?_
    simp only [Act.put,sA,sZ,sS]
    cases b2 with
    | true =>
      refine tk 12 43 (v:=.bool true) rfl rfl (fun W hW=>Kal rfl rfl rfl (hB W)) ?_
      simp only [Act.put,sA,sZ,sS]
      refine tk 13 44 (v:=.bool true) rfl rfl (fun W hW=>rfl) ?_
      simp only [Act.put,sA,sZ,sS]
      refine done (by kernel_rfl) ?_ _
      clear hA hB hi1 c0 c1 hB6 hS gz HA0 HI0 HCE HSZ
      obtain ⟨r2,hl2,hlz,hEz⟩:=HR2.out
      obtain ⟨q3,d3,hs3,hg3⟩:=hlz.rest Tryz.underlying23 Tryz.sizeOf49 (n:=j + 1) (by omega)
      have r2w : VRow RRd 49 5 V wz W2.drew (.slice p2 (l.take j ++ [n]).length d2) (l.take j ++ [n]):=r2.below (Below.refl _ W2).drew
      obtain ⟨v3,W3,a3,r3⟩:=r2w.many Kcc ga_rel hEz hg3 (by rw [hl2,List.length_drop];have:=HH.out.2.2;omega) 23
      rw [hl2] at a3
      have HS3:=yh hs3
      have HA3:=yh a3
      have HR3:=yh r3
      clear hs3 hg3 r2 r2w a3 r3 hlz hEz HR2
      go_wp2_with (first
       | ((with_reducible apply Kcv);exact HS3.out _;exact rfl;exact rfl;exact rfl;exact rfl;clear HS3)
       | ((with_reducible apply Kbg);exact HA3.out;exact rfl;exact rfl;clear HA3))
      go_ret
      obtain ⟨q,d,rfl⟩:=HR3.out.slice
      have hput : putR n l = l.take j ++ [n] ++ l.drop (j + 1):=HP2b.out (by simp)
      rw [hput]
      exact ⟨q,d,rfl,HR3.out.base (Kaa HX.out.1 HBZ.out)⟩
    | false =>
      refine tk 12 43 (v:=.bool false) rfl rfl (fun W hW=>Kal rfl rfl rfl (hB W)) ?_
      simp only [Act.put,sA,sZ,sS]
      refine tk 13 44 (v:=.bool false) rfl rfl (fun W hW=>rfl) ?_
      simp only [Act.put,sA,sZ,sS]
      refine done (by kernel_rfl) ?_ _
      clear hA hB hi1 c0 c1 hB6 hS gz HA0 HI0 HCE HSZ
      obtain ⟨r2,hl2,hlz,hEz⟩:=HR2.out
      obtain ⟨q3,d3,hs3,hg3⟩:=hlz.rest Tryz.underlying23 Tryz.sizeOf49 (n:=j) (by omega)
      have r2w : VRow RRd 49 5 V wz W2.drew (.slice p2 (l.take j ++ [n]).length d2) (l.take j ++ [n]):=r2.below (Below.refl _ W2).drew
      obtain ⟨v3,W3,a3,r3⟩:=r2w.many Kcc ga_rel hEz hg3 (by rw [hl2,List.length_drop];have:=HH.out.2.2;omega) 23
      rw [hl2] at a3
      have HS3:=yh hs3
      have HA3:=yh a3
      have HR3:=yh r3
      clear hs3 hg3 r2 r2w a3 r3 hlz hEz HR2
      go_wp2_with (first
       | ((with_reducible apply Kcv);exact HS3.out _;exact rfl;exact rfl;exact rfl;exact rfl;clear HS3)
       | ((with_reducible apply Kbg);exact HA3.out;exact rfl;exact rfl;clear HA3))
      go_ret
      obtain ⟨q,d,rfl⟩:=HR3.out.slice
      have hput : putR n l = l.take j ++ [n] ++ l.drop (j):=HP3b.out (by simp)
      rw [hput]
      exact ⟨q,d,rfl,HR3.out.base (Kaa HX.out.1 HBZ.out)⟩
  ·obtain rfl : j = l.length:=by omega
   have hkl : k = l.length:=by omega
   have hA : ∀ W' : World,(binOp .lss 3 (.int .i64 (l.length : Int)) (.int .i64 (l.length : Int))).run Tryz.prog W' = .ok (.bool false) W':=fun W'=>by rw [lss_n,decide_eq_false (by omega)]
   have HB1:=HI
   have hB0 : Below wr.heap.size wr wr.drew:=(Below.refl _ wr).drew
   have HY:=yh (And.intro hA hB0)
   clear hA hB0
   go_wp2
   obtain ⟨hA,hB0⟩:=HY.out
   refine Kaf (fun W=>Below wr.heap.size wr W) (by kernel_rfl) hB0 (fun hS=>?_)
   refine tk 0 7 (v:=.int .i64 (l.length : Int)) rfl rfl (fun W hW=>Kab rfl rfl) ?_
   simp only [Act.put,sA,sZ,sS]
   refine tk 1 8 (v:=.slice p l.length c) rfl rfl (fun W hW=>Kab rfl rfl) ?_
   simp only [Act.put,sA,sZ,sS]
   refine tk 2 9 (v:=.int .i64 (l.length : Int)) rfl rfl (fun W hW=>Kdz rfl rfl) ?_
   simp only [Act.put,sA,sZ,sS]
   refine tk 3 10 (v:=.bool false) rfl rfl (fun W hW=>Kal rfl rfl rfl (hA W)) ?_
   simp only [Act.put,sA,sZ,sS]
   refine tk 4 11 (v:=.bool false) rfl rfl (fun W hW=>Kab rfl rfl) ?_
   simp only [Act.put,sA,sZ,sS]
   refine tn 5 12 rfl rfl ?_
   simp only [Act.put,sA,sZ,sS]
   refine tn 6 13 rfl rfl ?_
   simp only [Act.put,sA,sZ,sS]
   refine tn 7 14 rfl rfl ?_
   simp only [Act.put,sA,sZ,sS]
   refine tn 8 15 rfl rfl ?_
   simp only [Act.put,sA,sZ,sS]
   refine tn 9 16 rfl rfl ?_
   simp only [Act.put,sA,sZ,sS]
   refine tn 10 17 rfl rfl ?_
   simp only [Act.put,sA,sZ,sS]
   refine tn 11 18 rfl rfl ?_
   simp only [Act.put,sA,sZ,sS]
   refine tn 12 19 rfl rfl ?_
   simp only [Act.put,sA,sZ,sS]
   refine tk 13 20 (v:=.bool false) rfl rfl (fun W hW=>rfl) ?_
   simp only [Act.put,sA,sZ,sS]
   refine done (by kernel_rfl) ?_ _
   have HBZ:=yh (Kaa HB1.out hS)
   have HA0:=yh hA
   clear hA hB0 hS HY
   clear HB1
   generalize hwz : wr.drew = wz at *
   clear hwz
   have hlz:=HV.out.2.1
   have hnz:=HV.out.2.2
   have hEz : Ext V wz:=HV.out.1.trans (Ext.of_below (Kaa HX.out.1 HBZ.out))
   obtain ⟨q1,hs1,hg1⟩:=hlz.cut Tryz.underlying23 Tryz.sizeOf49 (n:=l.length) (Nat.le_refl _)
   have hl1 : (l.take l.length).length = l.length:=by rw [List.length_take];omega
   have hA0 : VRow RRd 49 5 V wz wz (.slice none 0 0) ([] : List RelD):=.nil (Below.refl _ _)
   obtain ⟨v1,W1,a1,r1⟩:=hA0.many Kcc ga_rel hEz hg1 (by simp only [List.length_nil,hl1];have:=HH.out.2.2;omega) 23
   rw [hl1] at a1
   rw [List.nil_append] at r1
   obtain ⟨p1,d1,rfl⟩:=r1.slice
   rw [hl1] at a1
   have hbx:=Kak (Kaa HBZ.out r1.b) (Array.getElem?_eq_some_iff.1 HX.out.2).1 HX.out.2
   have HLD:=yh (StT.get (P:=Tryz.prog) Kbv (Kcc.size HH.out.2.1) hbx)
   have hbs1:=Kas (P:=Tryz.prog) (w:=W1) (v:=.agg x) Tryz.underlying23 Tryz.sizeOf49 Tryz.zeroValue49 (Kcc.size HH.out.2.1) (by omega) (by omega)
   obtain ⟨v2,W2,a2,r2⟩:=r1.one Kcc ga_rel hnz (by rw [hl1];have:=HH.out.2.2;omega) 23
   obtain ⟨p2,d2,rfl⟩:=r2.slice
   have hl2 : (l.take l.length ++ [n]).length = l.length + 1:=by rw [List.length_append,hl1];rfl
   rw [hl2] at a2
   rw [hl1] at a2
   have HS1:=yh hs1
   have HA1:=yh a1
   have HBS:=yh hbs1
   have HA2:=yh a2
   have HR2:=yh (And.intro r2 (And.intro hl2 (And.intro hlz hEz)))
   clear hlz hEz hnz hs1 hg1 hA0 a1 r1 hbx hbs1 a2 r2 HI
   go_wp2_with (first
    | ((with_reducible apply Kcv);exact HS1.out _;exact rfl;exact rfl;exact rfl;exact rfl;clear HS1)
    | ((with_reducible apply Kap);exact HLD.out;exact rfl;clear HLD)
    | ((with_reducible apply op_bs1);exact HBS.out;exact rfl;clear HBS)
    | ((with_reducible apply Kbg);exact HA1.out;exact rfl;exact rfl;clear HA1)
    | ((with_reducible apply Kbg);exact HA2.out;exact rfl;exact rfl;clear HA2))
   have hA:=HA0.out
   have hB6 : Below W2.heap.size W2 W2.drew:=(Below.refl _ W2).drew
   refine Kaf (fun W=>Below W2.heap.size W2 W) (by kernel_rfl) hB6 (fun hS=>?_)
   refine tk 0 31 (v:=.int .i64 (l.length : Int)) rfl rfl (fun W hW=>Kab rfl rfl) ?_
   simp only [Act.put,sA,sZ,sS]
   refine tk 1 32 (v:=.slice p l.length c) rfl rfl (fun W hW=>Kab rfl rfl) ?_
   simp only [Act.put,sA,sZ,sS]
   refine tk 2 33 (v:=.int .i64 (l.length : Int)) rfl rfl (fun W hW=>Kdz rfl rfl) ?_
   simp only [Act.put,sA,sZ,sS]
   refine tk 3 34 (v:=.bool false) rfl rfl (fun W hW=>Kal rfl rfl rfl (hA W)) ?_
   simp only [Act.put,sA,sZ,sS]
   refine tk 4 35 (v:=.bool false) rfl rfl (fun W hW=>Kab rfl rfl) ?_
   simp only [Act.put,sA,sZ,sS]
   refine tn 5 36 rfl rfl ?_
   simp only [Act.put,sA,sZ,sS]
   refine tn 6 37 rfl rfl ?_
   simp only [Act.put,sA,sZ,sS]
   refine tn 7 38 rfl rfl ?_
   simp only [Act.put,sA,sZ,sS]
   refine tn 8 39 rfl rfl ?_
   simp only [Act.put,sA,sZ,sS]
   refine tn 9 40 rfl rfl ?_
   simp only [Act.put,sA,sZ,sS]
   refine tn 10 41 rfl rfl ?_
   simp only [Act.put,sA,sZ,sS]
   refine tn 11 42 rfl rfl ?_
   simp only [Act.put,sA,sZ,sS]
   refine tn 12 43 rfl rfl ?_
   simp only [Act.put,sA,sZ,sS]
   refine tk 13 44 (v:=.bool false) rfl rfl (fun W hW=>rfl) ?_
   simp only [Act.put,sA,sZ,sS]
   refine done (by kernel_rfl) ?_ _
   clear hA hB6 hS HA0
   have hkl2 : k = l.length:=hkl
   obtain ⟨r2,hl2,hlz,hEz⟩:=HR2.out
   obtain ⟨q3,d3,hs3,hg3⟩:=hlz.rest Tryz.underlying23 Tryz.sizeOf49 (n:=l.length) (by omega)
   have r2w : VRow RRd 49 5 V wz W2.drew (.slice p2 (l.take l.length ++ [n]).length d2) (l.take l.length ++ [n]):=r2.below (Below.refl _ W2).drew
   obtain ⟨v3,W3,a3,r3⟩:=r2w.many Kcc ga_rel hEz hg3 (by rw [hl2,List.length_drop];have:=HH.out.2.2;omega) 23
   rw [hl2] at a3
   have HS3:=yh hs3
   have HA3:=yh a3
   have HR3:=yh r3
   clear hs3 hg3 r2 r2w a3 r3 hlz hEz HR2
   go_wp2_with (first
    | ((with_reducible apply Kcv);exact HS3.out _;exact rfl;exact rfl;exact rfl;exact rfl;clear HS3)
    | ((with_reducible apply Kbg);exact HA3.out;exact rfl;exact rfl;clear HA3))
   go_ret
   obtain ⟨q,d,rfl⟩:=HR3.out.slice
   have hput : putR n l = l.take l.length ++ [n] ++ l.drop (l.length):=by rw [HP1.out hkl,List.take_length,List.drop_length,List.append_nil]
   rw [hput]
   exact ⟨q,d,rfl,HR3.out.base (Kaa HX.out.1 HBZ.out)⟩
theorem withoutN_any {V w : World} (hV : Ext V w) {p : Option Addr} {c : Nat} {l : List NodeD} {i : Int} (h : GRd NRd 3 V p c l) (hl : l.length ≤ 1100000) : Calls Tryz.prog 58 #[.slice p l.length c,.int .i64 i] w fun e w'=>∃ q d,e = .returned (.slice q (l.filter fun n=>!(n.id == i)).length d) ∧ VRow NRd 45 3 V w w' (.slice q (l.filter fun n=>!(n.id == i)).length d) (l.filter fun n=>!(n.id == i)):=by
 have z1 : (l.length : Int) ≤ 1100000:=by omega
 have HH:=yh (And.intro h hl)
 have HV:=yh (And.intro hV (GRd.ext hV (fun h=>NRd.ext hV h) h))
 clear h hl hV
 go_enter Tryz.func58,Tryz.ntmps58
 go_wp2
 go_loopw [5,6] (fun o k W=>∃ (j : Nat) (q : Option Addr) (d : Nat),j ≤ l.length ∧ k = .int .i64 (j : Int) ∧ o = .slice q ((l.take j).filter fun n=>!(n.id == i)).length d ∧ Hid (VRow NRd 45 3 V w W (.slice q ((l.take j).filter fun n=>!(n.id == i)).length d) ((l.take j).filter fun n=>!(n.id == i)))) (fun _ k _=>l.length - (intOf k).toNat)
 case atStart=>exact ⟨0,none,0,Nat.zero_le _,rfl,rfl,yh (.nil (Below.refl _ _))⟩
 case round =>
  obtain ⟨j,q,d,hj,rfl,rfl,HI⟩:=hrel
  by_cases hlt : j < l.length
  ·have hlt1 : j + 1 ≤ l.length:=hlt
   have hb:=HI.out.b
   obtain ⟨b1,o1,cs,rfl,hsz,hcc,hv⟩:=(HV.out.2.below (fun h=>h.below hb) hb).get hlt
   obtain ⟨b1',o1',cs',e1,hsz',hcc',hv'⟩:=HH.out.1.get hlt
   cases e1
   have hcs : cs' = cs:=by
    apply Array.ext (by rw [hsz,hsz'])
    intro k h1 h2
    have g1:=hcc' k _ (Array.getElem?_eq_getElem h1)
    have g2:=hcc k _ (Array.getElem?_eq_getElem h2)
    have g3:=Ext.of_below hb _ _ (HV.out.1 _ _ g1)
    exact Option.some.inj (g3.symm.trans g2)
   subst hcs
   have HLD:=yh (StT.load (P:=Tryz.prog) (W:=wr) Ka7 hsz fun i u hu=>hcc i u hu)
   have hvv:=hv
   obtain ⟨pl,cl,pp,cp,ecs,hls,hps⟩:=hv
   have c1 : wr.cell? ⟨b1,o1 + j * 3,none⟩ = some (.int .i64 l[j].id):=hcc 0 _ (by rw [ecs];rfl)
   have hfl : ((l.take (j + 1)).filter fun n=>!(n.id == i)) = ((l.take j).filter fun n=>!(n.id == i)) ++ (if l[j].id = i then [] else [l[j]]):=by
    rw [List.take_succ_eq_append_getElem hlt,List.filter_append]
    congr 1
    by_cases e : l[j].id = i
    ·simp [e]
    ·simp [e]
   have hlen : ((l.take j).filter fun n=>!(n.id == i)).length ≤ 1100000:=by
    have h1:=List.length_filter_le (fun n : NodeD=>!(n.id == i)) (l.take j)
    have h2:=HH.out.2
    rw [List.length_take] at h1;omega
   by_cases he : l[j].id = i
   ·rw [if_pos he,List.append_nil] at hfl
    have HN:=yh (show VRow NRd 45 3 V w wr (.slice q ((l.take (j + 1)).filter fun n=>!(n.id == i)).length d) ((l.take (j + 1)).filter fun n=>!(n.id == i)) by rw [hfl];exact HI.out)
    have hll : ((l.take (j + 1)).filter fun n=>!(n.id == i)).length = ((l.take j).filter fun n=>!(n.id == i)).length:=by rw [hfl]
    have HLL:=yh hll
    have hne : (l[j].id == i) = true:=by rw [beq_iff_eq];exact he
    have hne2 : (l[j].id != i) = false:=by simp [he]
    clear hcc hcc' hvv hls hps ecs hfl hlen hll hb hv' hsz hsz' he
    generalize l[j].id = idl at *
    go_wp2
    go_roundw
    case rel=>exact ⟨j + 1,q,d,hlt1,by go_num,by rw [HLL.out],HN⟩
    case measure=>simp [intOf];omega
   ·rw [if_neg he] at hfl
    have hbs1:=Kas (P:=Tryz.prog) (w:=wr) (v:=.agg cs') Tryz.underlying22 Tryz.sizeOf45 Tryz.zeroValue45 hsz (by omega) (by omega)
    obtain ⟨v2,W2,a2,r2⟩:=HI.out.one Kbo ga_node hv' hlen 22
    rw [← hfl] at r2
    obtain ⟨p2,d2,rfl⟩:=r2.slice
    have HBS:=yh hbs1
    have HA2:=yh a2
    have HR2:=yh r2
    have hne : (l[j].id == i) = false:=by rw [beq_eq_false_iff_ne];exact he
    have hne2 : (l[j].id != i) = true:=by simp [he]
    clear hcc hcc' hvv hls hps ecs hfl hlen hb hv' hsz hsz' he hbs1 a2 r2
    generalize l[j].id = idl at *
    go_wp2_with (first
     | ((with_reducible apply Kap);exact HLD.out;exact rfl;clear HLD)
     | ((with_reducible apply op_bs1);exact HBS.out;exact rfl;clear HBS)
     | ((with_reducible apply Kbg);exact HA2.out;exact rfl;exact rfl;clear HA2))
    go_roundw
    case rel=>exact ⟨j + 1,p2,d2,hlt1,by go_num,rfl,HR2⟩
    case measure=>simp [intOf];omega
  ·obtain rfl : j = l.length:=by omega
   go_wp2
   go_ret
   have hr:=HI.out
   rw [List.take_length] at hr ⊢
   exact ⟨q,d,rfl,hr⟩
theorem withoutR_any {V w : World} (hV : Ext V w) {p : Option Addr} {c : Nat} {l : List RelD} {i : Int} (h : GRd RRd 5 V p c l) (hl : l.length ≤ 1100000) : Calls Tryz.prog 59 #[.slice p l.length c,.int .i64 i] w fun e w'=>∃ q d,e = .returned (.slice q (l.filter fun n=>!(n.id == i)).length d) ∧ VRow RRd 49 5 V w w' (.slice q (l.filter fun n=>!(n.id == i)).length d) (l.filter fun n=>!(n.id == i)):=by
 have z1 : (l.length : Int) ≤ 1100000:=by omega
 have HH:=yh (And.intro h hl)
 have HV:=yh (And.intro hV (GRd.ext hV (fun h=>RRd.ext hV h) h))
 clear h hl hV
 go_enter Tryz.func59,Tryz.ntmps59
 go_wp2
 go_loopw [5,6] (fun o k W=>∃ (j : Nat) (q : Option Addr) (d : Nat),j ≤ l.length ∧ k = .int .i64 (j : Int) ∧ o = .slice q ((l.take j).filter fun n=>!(n.id == i)).length d ∧ Hid (VRow RRd 49 5 V w W (.slice q ((l.take j).filter fun n=>!(n.id == i)).length d) ((l.take j).filter fun n=>!(n.id == i)))) (fun _ k _=>l.length - (intOf k).toNat)
 case atStart=>exact ⟨0,none,0,Nat.zero_le _,rfl,rfl,yh (.nil (Below.refl _ _))⟩
 case round =>
  obtain ⟨j,q,d,hj,rfl,rfl,HI⟩:=hrel
  by_cases hlt : j < l.length
  ·have hlt1 : j + 1 ≤ l.length:=hlt
   have hb:=HI.out.b
   obtain ⟨b1,o1,cs,rfl,hsz,hcc,hv⟩:=(HV.out.2.below (fun h=>h.below hb) hb).get hlt
   obtain ⟨b1',o1',cs',e1,hsz',hcc',hv'⟩:=HH.out.1.get hlt
   cases e1
   have hcs : cs' = cs:=by
    apply Array.ext (by rw [hsz,hsz'])
    intro k h1 h2
    have g1:=hcc' k _ (Array.getElem?_eq_getElem h1)
    have g2:=hcc k _ (Array.getElem?_eq_getElem h2)
    have g3:=Ext.of_below hb _ _ (HV.out.1 _ _ g1)
    exact Option.some.inj (g3.symm.trans g2)
   subst hcs
   have HLD:=yh (StT.load (P:=Tryz.prog) (W:=wr) Kbv hsz fun i u hu=>hcc i u hu)
   have hvv:=hv
   obtain ⟨pp,cp,ecs,hty,hps⟩:=hv
   have c1 : wr.cell? ⟨b1,o1 + j * 5,none⟩ = some (.int .i64 l[j].id):=hcc 0 _ (by rw [ecs];rfl)
   have hfl : ((l.take (j + 1)).filter fun n=>!(n.id == i)) = ((l.take j).filter fun n=>!(n.id == i)) ++ (if l[j].id = i then [] else [l[j]]):=by
    rw [List.take_succ_eq_append_getElem hlt,List.filter_append]
    congr 1
    by_cases e : l[j].id = i
    ·simp [e]
    ·simp [e]
   have hlen : ((l.take j).filter fun n=>!(n.id == i)).length ≤ 1100000:=by
    have h1:=List.length_filter_le (fun n : RelD=>!(n.id == i)) (l.take j)
    have h2:=HH.out.2
    rw [List.length_take] at h1;omega
   by_cases he : l[j].id = i
   ·rw [if_pos he,List.append_nil] at hfl
    have HN:=yh (show VRow RRd 49 5 V w wr (.slice q ((l.take (j + 1)).filter fun n=>!(n.id == i)).length d) ((l.take (j + 1)).filter fun n=>!(n.id == i)) by rw [hfl];exact HI.out)
    have hll : ((l.take (j + 1)).filter fun n=>!(n.id == i)).length = ((l.take j).filter fun n=>!(n.id == i)).length:=by rw [hfl]
    have HLL:=yh hll
    have hne : (l[j].id == i) = true:=by rw [beq_iff_eq];exact he
    have hne2 : (l[j].id != i) = false:=by simp [he]
    clear hcc hcc' hvv hty hps ecs hfl hlen hll hb hv' hsz hsz' he
    generalize l[j].id = idl at *
    go_wp2
    go_roundw
    case rel=>exact ⟨j + 1,q,d,hlt1,by go_num,by rw [HLL.out],HN⟩
    case measure=>simp [intOf];omega
   ·rw [if_neg he] at hfl
    have hbs1:=Kas (P:=Tryz.prog) (w:=wr) (v:=.agg cs') Tryz.underlying23 Tryz.sizeOf49 Tryz.zeroValue49 hsz (by omega) (by omega)
    obtain ⟨v2,W2,a2,r2⟩:=HI.out.one Kcc ga_rel hv' hlen 23
    rw [← hfl] at r2
    obtain ⟨p2,d2,rfl⟩:=r2.slice
    have HBS:=yh hbs1
    have HA2:=yh a2
    have HR2:=yh r2
    have hne : (l[j].id == i) = false:=by rw [beq_eq_false_iff_ne];exact he
    have hne2 : (l[j].id != i) = true:=by simp [he]
    clear hcc hcc' hvv hty hps ecs hfl hlen hb hv' hsz hsz' he hbs1 a2 r2
    generalize l[j].id = idl at *
    go_wp2_with (first
     | ((with_reducible apply Kap);exact HLD.out;exact rfl;clear HLD)
     | ((with_reducible apply op_bs1);exact HBS.out;exact rfl;clear HBS)
     | ((with_reducible apply Kbg);exact HA2.out;exact rfl;exact rfl;clear HA2))
    go_roundw
    case rel=>exact ⟨j + 1,p2,d2,hlt1,by go_num,rfl,HR2⟩
    case measure=>simp [intOf];omega
  ·obtain rfl : j = l.length:=by omega
   go_wp2
   go_ret
   have hr:=HI.out
   rw [List.take_length] at hr ⊢
   exact ⟨q,d,rfl,hr⟩
def two (n : Nat) : Nat → Prop:=fun b=>b = n ∨ b = n + 1
structure AP (w W : World) (h : GraphD) : Prop where
 bx : ∃ xh,W.heap[w.heap.size]? = some (.cells xh 25 (0,0)) ∧ GrRd (mask (two w.heap.size) W) h xh
 re : W.heap[w.heap.size + 1]? = some (.cells grZ 25 (0,0))
 b : Below w.heap.size w W
section
variable {w W W' : World} {h : GraphD}
theorem AP.lt (a : AP w W h) : w.heap.size + 1 < W.heap.size:=(Array.getElem?_eq_some_iff.1 a.re).1
theorem AP.below (a : AP w W h) (g : Below W.heap.size W W') : AP w W' h:=by
 obtain ⟨xh,h1,h2⟩:=a.bx
 exact ⟨⟨xh,Kak g (Array.getElem?_eq_some_iff.1 h1).1 h1,h2.ext (mask_below g)⟩,Kak g a.lt a.re,Kaa a.b g⟩
theorem AP.start {x : Array Value} (hx : GrRd w h x) : AP w ((w.alloc (.cells x 25)).alloc (.cells grZ 25)) h:=by
 have b1:=Kai (w:=w) (.cells x 25)
 have b2:=Kai (w:=w.alloc (.cells x 25)) (.cells grZ 25)
 have hb:=Kaa b1 b2
 have e2:=heap_alloc_new (w.alloc (.cells x 25)) (.cells grZ 25)
 rw [World.size_alloc] at e2
 exact ⟨⟨x,Kak b2 (by simp) (heap_alloc_new w _),hx.ext (mask_of hb fun b hb=>by rcases hb with rfl | rfl <;> omega)⟩,e2,hb⟩
theorem AP.rd (a : AP w W h) : ∃ xh,(loadVar 25 ⟨w.heap.size,0,none⟩).run Tryz.prog W = .ok (.agg xh) W ∧ GrRd W h xh:=by
 obtain ⟨xh,h1,h2⟩:=a.bx
 have h3:=h2.ext (mask_ext _ _)
 exact ⟨xh,StT.get Kay (Kbs.size h3) h1,h3⟩
theorem AP.open (a : AP w W h) : ∃ pn cn pr cr,W.heap[w.heap.size]? = some (.cells #[.slice pn h.nodes.length cn,.slice pr h.rels.length cr,.int .i64 h.nextNode,.int .i64 h.nextRel] 25 (0,0)) ∧ GRd NRd 3 (mask (two w.heap.size) W) pn cn h.nodes ∧ GRd RRd 5 (mask (two w.heap.size) W) pr cr h.rels:=by
 obtain ⟨xh,h1,pn,cn,pr,cr,rfl,h2,h3⟩:=a.bx
 exact ⟨pn,cn,pr,cr,h1,h2,h3⟩
theorem AP.set (a : AP w W h) (i : Nat) (u : Value) {h' : GraphD} {x' : Array Value} (e : ∀ xh,GrRd (mask (two w.heap.size) W) h xh → W.heap[w.heap.size]? = some (.cells xh 25 (0,0)) → x' = xh.setIfInBounds i u) (hx : GrRd (mask (two w.heap.size) (W.setCell ⟨w.heap.size,i,none⟩ u)) h' x') : AP w (W.setCell ⟨w.heap.size,i,none⟩ u) h':=by
 obtain ⟨xh,h1,h2⟩:=a.bx
 refine ⟨⟨x',?_,hx⟩,?_,Kco a.b (Nat.le_refl _) u⟩
 ·rw [e xh h2 h1];exact Kb7 u h1
 ·exact (Below.heap_setCell _ ⟨w.heap.size,i,none⟩ _ _ (by show w.heap.size + 1 ≠ w.heap.size;omega)).trans a.re
theorem mask_row {n : Nat} {S : Nat → Prop} {b o : Nat} {u : Value} (hS : S n) : Ext (mask S W) (mask S (W.setCell ⟨n,o,none⟩ u)):=mask_touch ((Touch.refl S W).setCell (.inl hS) u)
theorem AP.setN (a : AP w W h) {q : Option Addr} {d : Nat} {ns : List NodeD} (r : VRow NRd 45 3 (mask (two w.heap.size) W) W W' (.slice q ns.length d) ns) (hn : ns.length ≤ 140737488355328) :
 (storeVar 22 ⟨w.heap.size,0,none⟩ (.slice q ns.length d)).run Tryz.prog W' = .ok () (W'.setCell ⟨w.heap.size,0,none⟩ (.slice q ns.length d)) ∧ AP w (W'.setCell ⟨w.heap.size,0,none⟩ (.slice q ns.length d)) ⟨ns,h.rels,h.nextNode,h.nextRel⟩:=by
 have a':=a.below r.b
 obtain ⟨pn,cn,pr,cr,h1,h2,h3⟩:=a.open
 obtain ⟨xh',h1',-⟩:=a'.bx
 have e1:=Kak r.b (Array.getElem?_eq_some_iff.1 h1).1 h1
 have hx1 : Ext (mask (two w.heap.size) W) (mask (two w.heap.size) (W'.setCell ⟨w.heap.size,0,none⟩ (.slice q ns.length d))):=(mask_below r.b).trans (mask_row (b:=0) (.inl rfl))
 have hlt:=a.lt
 refine ⟨put_nodesT (Kah (o:=0) e1 rfl) (Kbk (o:=0) e1),a'.set 0 _ (x':=#[.slice q ns.length d,.slice pr h.rels.length cr,.int .i64 h.nextNode,.int .i64 h.nextRel]) ?_ ?_⟩
 ·intro xh _ hxh
  rw [e1] at hxh
  cases hxh
  simp
 ·obtain ⟨p',c',e,hg⟩:=r.rd Kbo (U:=mask (two w.heap.size) (W'.setCell ⟨w.heap.size,0,none⟩ (.slice q ns.length d))) (fun h=>NRd.ext hx1 h) (fun b h1 h2=>by
   rw [mask_off (fun k=>by rcases k with rfl | rfl <;> omega)]
   exact Below.heap_setCell _ ⟨w.heap.size,0,none⟩ _ _ (by show b ≠ w.heap.size;omega)) hn
  cases e
  exact ⟨_,_,_,_,rfl,hg,GRd.ext hx1 (fun h=>RRd.ext hx1 h) h3⟩
theorem AP.setR (a : AP w W h) {q : Option Addr} {d : Nat} {ns : List RelD} (r : VRow RRd 49 5 (mask (two w.heap.size) W) W W' (.slice q ns.length d) ns) (hn : ns.length ≤ 140737488355328) :
 (storeVar 23 ⟨w.heap.size,1,none⟩ (.slice q ns.length d)).run Tryz.prog W' = .ok () (W'.setCell ⟨w.heap.size,1,none⟩ (.slice q ns.length d)) ∧ AP w (W'.setCell ⟨w.heap.size,1,none⟩ (.slice q ns.length d)) ⟨h.nodes,ns,h.nextNode,h.nextRel⟩:=by
 have a':=a.below r.b
 obtain ⟨pn,cn,pr,cr,h1,h2,h3⟩:=a.open
 have e1:=Kak r.b (Array.getElem?_eq_some_iff.1 h1).1 h1
 have hx1 : Ext (mask (two w.heap.size) W) (mask (two w.heap.size) (W'.setCell ⟨w.heap.size,1,none⟩ (.slice q ns.length d))):=(mask_below r.b).trans (mask_row (b:=0) (.inl rfl))
 have hlt:=a.lt
 refine ⟨put_relsT (Kah (o:=1) e1 rfl) (Kbk (o:=1) e1),a'.set 1 _ (x':=#[.slice pn h.nodes.length cn,.slice q ns.length d,.int .i64 h.nextNode,.int .i64 h.nextRel]) ?_ ?_⟩
 ·intro xh _ hxh
  rw [e1] at hxh
  cases hxh
  simp
 ·obtain ⟨p',c',e,hg⟩:=r.rd Kcc (U:=mask (two w.heap.size) (W'.setCell ⟨w.heap.size,1,none⟩ (.slice q ns.length d))) (fun h=>RRd.ext hx1 h) (fun b h1 h2=>by
   rw [mask_off (fun k=>by rcases k with rfl | rfl <;> omega)]
   exact Below.heap_setCell _ ⟨w.heap.size,1,none⟩ _ _ (by show b ≠ w.heap.size;omega)) hn
  cases e
  exact ⟨_,_,_,_,rfl,GRd.ext hx1 (fun h=>NRd.ext hx1 h) h2,hg⟩
theorem AP.nums (a : AP w W h) (n m : Int) : ∃ W1 W2,(storeVar 2 ⟨w.heap.size,2,none⟩ (.int .i64 n)).run Tryz.prog W = .ok () W1 ∧ (storeVar 2 ⟨w.heap.size,3,none⟩ (.int .i64 m)).run Tryz.prog W1 = .ok () W2 ∧ (∀ b,b ≠ w.heap.size → W1.heap[b]? = W.heap[b]?) ∧ AP w W2 ⟨h.nodes,h.rels,n,m⟩:=by
 obtain ⟨pn,cn,pr,cr,h1,h2,h3⟩:=a.open
 have e1:=put_i64 (n:=n) (Kah (o:=2) h1 rfl) (Kbk (o:=2) h1)
 have h4:=Kb7 (k:=2) (.int .i64 n) h1
 have e2:=put_i64 (n:=m) (Kah (o:=3) h4 rfl) (Kbk (o:=3) h4)
 have x1 : Ext (mask (two w.heap.size) W) (mask (two w.heap.size) (W.setCell ⟨w.heap.size,2,none⟩ (.int .i64 n))):=mask_row (b:=0) (.inl rfl)
 have x2 : Ext (mask (two w.heap.size) (W.setCell ⟨w.heap.size,2,none⟩ (.int .i64 n))) (mask (two w.heap.size) ((W.setCell ⟨w.heap.size,2,none⟩ (.int .i64 n)).setCell ⟨w.heap.size,3,none⟩ (.int .i64 m))):=mask_row (b:=0) (.inl rfl)
 have a1 : AP w (W.setCell ⟨w.heap.size,2,none⟩ (.int .i64 n)) ⟨h.nodes,h.rels,n,h.nextRel⟩:=a.set 2 _ (x':=#[.slice pn h.nodes.length cn,.slice pr h.rels.length cr,.int .i64 n,.int .i64 h.nextRel]) (fun xh _ hxh=>by rw [h1] at hxh;cases hxh;simp) ⟨_,_,_,_,rfl,GRd.ext x1 (fun h=>NRd.ext x1 h) h2,GRd.ext x1 (fun h=>RRd.ext x1 h) h3⟩
 exact ⟨_,_,e1,e2,fun b hb=>Below.heap_setCell _ ⟨w.heap.size,2,none⟩ _ b hb,a1.set 3 _ (x':=#[.slice pn h.nodes.length cn,.slice pr h.rels.length cr,.int .i64 n,.int .i64 m]) (fun xh _ hxh=>by rw [h4] at hxh;cases hxh;simp) ⟨_,_,_,_,rfl,GRd.ext (x1.trans x2) (fun h=>NRd.ext (x1.trans x2) h) h2,GRd.ext (x1.trans x2) (fun h=>RRd.ext (x1.trans x2) h) h3⟩⟩
theorem AP.put (a : AP w W h) {g : GraphD} {y : Array Value} (hy : GrRd (mask (two w.heap.size) W) g y) :
 ∃ W3,(storeVar 25 ⟨w.heap.size + 1,0,none⟩ (.agg y)).run Tryz.prog W = .ok () W3 ∧ (loadVar 25 ⟨w.heap.size + 1,0,none⟩).run Tryz.prog W3 = .ok (.agg y) W3 ∧ GrRd W3 g y ∧ Below w.heap.size w W3:=by
 have hs:=Kbs.size hy
 refine ⟨_,StT.put (P:=Tryz.prog) Kay hs (Kbs.ones hy) a.re rfl,StT.get (P:=Tryz.prog) Kay hs (setRow_heap W _ _ _ _ _ a.re),?_,Kdp a.b (Nat.le_succ _) _⟩
 have ht : Touch (two w.heap.size) W (W.setRow (w.heap.size + 1) y):=⟨rfl,rfl,rfl,by rw [show (W.setRow (w.heap.size + 1) y).heap.size = W.heap.size by simp [World.setRow]];exact Nat.le_refl _,fun b _ hb=>setRow_other W _ b _ fun e=>hb (.inr e)⟩
 exact (hy.ext (mask_touch ht)).ext (mask_ext _ _)
theorem AP.done (a : AP w W h) : ∃ y W3,(loadVar 25 ⟨w.heap.size,0,none⟩).run Tryz.prog W = .ok (.agg y) W ∧ (storeVar 25 ⟨w.heap.size + 1,0,none⟩ (.agg y)).run Tryz.prog W = .ok () W3 ∧ (loadVar 25 ⟨w.heap.size + 1,0,none⟩).run Tryz.prog W3 = .ok (.agg y) W3 ∧ GrRd W3 h y ∧ Below w.heap.size w W3:=by
 obtain ⟨xh,h1,h2⟩:=a.bx
 obtain ⟨W3,h3⟩:=a.put h2
 exact ⟨xh,W3,StT.get Kay (Kbs.size h2) h1,h3⟩
theorem graph0_rd (V : World) : GrRd V Kbu grZ:=⟨none,0,none,0,rfl,GRd.none _ _ _,GRd.none _ _ _⟩
theorem AP.zero (a : AP w W h) : ∃ W3,(storeVar 25 ⟨w.heap.size + 1,0,none⟩ (.agg grZ)).run Tryz.prog W = .ok () W3 ∧ (loadVar 25 ⟨w.heap.size + 1,0,none⟩).run Tryz.prog W3 = .ok (.agg grZ) W3 ∧ GrRd W3 Kbu grZ ∧ Below w.heap.size w W3:=a.put (graph0_rd _)
end
end Go.Proofs.YtihfnegakcghiaaGreatDoor
