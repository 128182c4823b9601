/- Texts that the proof shares (each declaration is a lemma of this layer). -/
import Derived.Test.YtihfnegakcghiaaGreatDoorZGdiffa
import Derived.Test.YtihfnegakcghiaaGreatDoorZGdiffb
import Derived.Test.YtihfnegakcghiaaGreatDoorZGdiffc
import Derived.Shelf.SortM.Plain
import Derived.Shelf.SortM.SortNone
import Derived.Shelf.Slices.CompactS
import Derived.Shelf.SlicesE.Delete
import Derived.Lib.AppendZeros
set_option linter.unusedSimpArgs false
set_option linter.unusedVariables false
set_option linter.unnecessarySimpa false
set_option maxRecDepth 100000
set_option maxHeartbeats 64000000
namespace Go.Proofs.YtihfnegakcghiaaGreatDoor
open Go.RowKit Go.Sort
theorem lt_ltB (a b : List UInt8) : decide (a < b) = ltB a b:=by rw [← bytesLess_eq,less_eq]
theorem le_ltB {a b : List UInt8} (h : decide (a ≤ b) = true) : ltB b a = false:=by
 rw [← lt_ltB]
 rw [decide_eq_true_iff] at h
 exact decide_eq_false (List.not_lt.2 h)
theorem putCells_take {α : Type} [Inhabited α] (enc : α → Value) {cur : Array Value} {d : Array α} {n : Nat} (hd : d.size ≤ cur.size) (hn : n ≤ d.size) : (putCells enc 0 d cur).toList.take n = (d.toList.map enc).take n:=by
 apply List.ext_getElem?
 intro t
 rw [List.getElem?_take,List.getElem?_take]
 by_cases h : t < n
 ·rw [if_pos h,if_pos h]
  unfold putCells
  rw [Array.getElem?_toList,Array.getElem?_mapIdx,Array.getElem?_eq_getElem (by omega),Option.map_some,if_pos ⟨Nat.zero_le _,by omega⟩,List.getElem?_map,Array.getElem?_toList,Array.getElem?_eq_getElem (by omega),Option.map_some,Nat.sub_zero,getElem!_pos d t (by omega)]
 ·rw [if_neg h,if_neg h]
theorem putCells_size {α : Type} [Inhabited α] (enc : α → Value) (cur : Array Value) (d : Array α) : (putCells enc 0 d cur).size = cur.size:=by unfold putCells;simp
section
variable {w : World} {P : Nat → Prop} {vl : Value} {l : List (List UInt8)}
theorem owns_holds {g cap : Nat} (h : OwnsP w P 9 1 (.slice (some ⟨g,0,none⟩) l.length cap) l.length (l.map strV)) {cur : Array Value} (hg : w.heap[g]? = some (.cells cur 9 (0,0))) : Holds encStr w g 0 l.toArray:=by
 intro j hj
 have hj2 : j < l.length:=by simpa using hj
 refine ⟨?_,by rw [Nat.zero_add];exact Kbs hg⟩
 have:=h.1.cells (g:=g) rfl j (strV l[j]) (by simp [hj2])
 rw [Kau] at this
 rw [getElem!_pos _ j hj]
 simpa [strV,strB] using this
theorem owns_sorted {g cap n q : Nat} {os : Array Obj} {d : Array (List UInt8)} (h : OwnsP w P 9 1 (.slice (some ⟨g,0,none⟩) l.length cap) l.length (l.map strV)) (hd : d.size = l.length) (hn : n ≤ d.size) {m : List (List UInt8)} (hm : (d.toList).take n = m) (hml : m.length = n) :
 OwnsP (sortWorld encStr w g 0 q d os) P 9 1 (.slice (some ⟨g,0,none⟩) n cap) n (m.map strV) ∧ Touch (fun b=>b = g) w (sortWorld encStr w g 0 q d os):=by
 refine ⟨?_,Kdn encStr w g q d os⟩
 rcases h.1.2 with ⟨e,_⟩ | ⟨g',cap',cur,e,_,hg,hnc,hcm,hcs,htake⟩
 ·cases e
 ·cases e
  have hrow:=Ken encStr w g q d os hg
  refine ⟨⟨by simp [hml],.inr ⟨g,cap,_,rfl,Nat.zero_le _,hrow,by omega,hcm,?_,?_⟩⟩,fun b hb=>h.2 b (by cases hb;rfl)⟩
  ·rw [putCells_size];exact hcs
  ·rw [Nat.mul_one,putCells_take encStr (by rw [hcs,Nat.mul_one];omega) hn,← hm,List.map_take]
   rfl
theorem sortS_any (h : OwnsP w P 9 1 vl l.length (l.map strV)) (hn : l.length ≤ 1100000) : Calls Tryz.prog 45 #[vl] w fun e w'=>e = .returned (.tuple #[]) ∧
 ∃ l' : List (List UInt8),l'.Perm l ∧ (l'.Pairwise fun a b=>ltB b a = false) ∧ OwnsP w' P 9 1 vl l'.length (l'.map strV) ∧ Touch (fun b=>vl.ownBlock = some b) w w':=by
 rcases h.1.2 with ⟨rfl,e⟩ | ⟨g,cap,cur,rfl,_,hg,hnc,hcm,hcs,htake⟩
 ·have : l = []:=List.eq_nil_of_length_eq_zero e
  subst this
  refine (AnyM.slices_Sort_string_none Tryz.sortS none 0 w).mono ?_
  rintro e w' ⟨rfl,rfl⟩
  exact ⟨rfl,[],.refl _,.nil,h,Touch.refl _ _⟩
 ·refine (AnyM.slices_Sort_string Tryz.sortS g 0 cap l w (owns_holds h hg) (Array.getElem?_eq_some_iff.1 hg).1 (by omega)).mono ?_
  rintro e w' ⟨rfl,q,os,rfl⟩
  have hp:=List.mergeSort_perm l (fun x y=>decide (x ≤ y))
  have hs:=List.pairwise_mergeSort (le:=fun x y : List UInt8=>decide (x ≤ y)) (fun a b c h1 h2=>by simp only [decide_eq_true_iff] at *;exact List.le_trans h1 h2) (fun a b=>by simp only [Bool.or_eq_true,decide_eq_true_iff];exact List.le_total a b) l
  have hlen : (l.mergeSort fun x y=>decide (x ≤ y)).length = l.length:=hp.length_eq
  obtain ⟨h1,h2⟩:=owns_sorted (q:=q) (os:=os) (n:=l.length) (d:=(l.mergeSort fun x y=>decide (x ≤ y)).toArray) h (by simp) (by simp [hlen]) (m:=l.mergeSort fun x y=>decide (x ≤ y)) (by simp only;rw [← hlen,List.take_length]) hlen
  refine ⟨rfl,_,hp,hs.imp fun h=>le_ltB h,?_,h2.mono fun b _ hb=>by rw [hb];rfl⟩
  rw [hlen]
  exact h1
end
theorem compact_upto {l : List (List UInt8)} (hs : l.Pairwise fun a b=>ltB b a = false) : ∀ m,m ≤ l.length → RiseB id (Lib.compactUpTo l.toArray m) ∧ ∀ x,x ∈ Lib.compactUpTo l.toArray m ↔ x ∈ l.take m:=by
 intro m
 induction m with
 | zero=>intro _;exact ⟨List.Pairwise.nil,fun x=>by simp [Lib.compactUpTo]⟩
 | succ m ih =>
   intro hm
   obtain ⟨h1,h2⟩:=ih (by omega)
   have hlt : m < l.length:=by omega
   have hg : l.toArray[m]! = l[m]:=by rw [getElem!_pos _ m (by simpa using hlt)];simp
   have hp:=List.pairwise_iff_getElem.1 hs
   rw [Lib.compactUpTo_succ,hg,List.take_succ_eq_append_getElem hlt]
   by_cases hk : Lib.keeps l.toArray m = true
   ·rw [if_pos hk]
    refine ⟨?_,fun x=>by rw [List.mem_append,List.mem_append,h2]⟩
    unfold RiseB at h1 ⊢
    rw [List.pairwise_append]
    refine ⟨h1,List.pairwise_singleton _ _,fun y hy x hx=>?_⟩
    rw [List.mem_singleton.1 hx]
    have hy2:=(h2 y).1 hy
    obtain ⟨i,hi,rfl⟩:=List.getElem_of_mem hy2
    rw [List.length_take] at hi
    rw [List.getElem_take]
    have hi2 : i < m:=by omega
    refine Kdq (hp i m (by omega) hlt hi2) fun e=>?_
    have e : l[m] = l[i]:=e
    have hm0 : m ≠ 0:=by omega
    have hne : l[m] ≠ l[m - 1]:=by
     unfold Lib.keeps at hk
     rw [decide_eq_true_iff] at hk
     rcases hk with h | h
     ·exact absurd h hm0
     ·rw [hg,getElem!_pos _ (m - 1) (by simp;omega)] at h
      simpa using h
    by_cases hi3 : i = m - 1
    ·subst hi3;exact hne e
    ·have a1:=hp i (m - 1) (by omega) (by omega) (by omega)
     have a2:=hp (m - 1) m (by omega) hlt (by omega)
     rw [← e] at a1
     have a3:=Kdq a1 fun e2=>hne e2.symm
     rw [a3] at a2;cases a2
   ·have hk' : Lib.keeps l.toArray m = false:=by simpa using hk
    rw [hk',if_neg (by simp)]
    refine ⟨by rw [List.append_nil];exact h1,fun x=>?_⟩
    rw [List.append_nil,h2,List.mem_append]
    refine ⟨.inl,fun h=>h.elim id fun h=>?_⟩
    rw [List.mem_singleton.1 h]
    unfold Lib.keeps at hk'
    rw [decide_eq_false_iff_not] at hk'
    have hm0 : m ≠ 0:=fun e=>hk' (.inl e)
    have he : l.toArray[m]! = l.toArray[m - 1]!:=by
     by_cases e : l.toArray[m]! = l.toArray[m - 1]!
     ·exact e
     ·exact absurd (.inr e) hk'
    rw [hg,getElem!_pos _ (m - 1) (by simp;omega)] at he
    simp only [List.getElem_toArray] at he
    rw [he,List.mem_take_iff_getElem]
    exact ⟨m - 1,by omega,rfl⟩
theorem Kel {l l' : List (List UInt8)} (hp : l'.Perm l) (hs : l'.Pairwise fun a b=>ltB b a = false) : Lib.compact l' = Kcf id l []:=by
 obtain ⟨h1,h2⟩:=compact_upto hs l'.length (Nat.le_refl _)
 refine riseB_eq id h1 (rise_insAllB id l List.Pairwise.nil) fun x=>?_
 have h3:=h2 x
 rw [List.take_length,hp.mem_iff] at h3
 rw [mem_texts l List.Pairwise.nil x,show (x ∈ Lib.compact l' ↔ x ∈ l) from h3]
 simp
theorem Keg (l : List (List UInt8)) : (Lib.compact l).length ≤ l.length:=by
 unfold Lib.compact Lib.compactUpTo
 rw [List.length_map]
 exact Nat.le_trans (List.length_filter_le _ _) (by simp)
theorem Kd1 {w : World} {P : Nat → Prop} {vl : Value} {l : List (List UInt8)} (h : OwnsP w P 9 1 vl l.length (l.map strV)) (hn : l.length ≤ 1100000) : Calls Tryz.prog 46 #[vl] w fun e w'=>∃ vl',e = .returned vl' ∧
 OwnsP w' P 9 1 vl' (Lib.compact l).length ((Lib.compact l).map strV) ∧ Touch (fun b=>vl.ownBlock = some b) w w':=by
 rcases h.1.2 with ⟨rfl,e⟩ | ⟨g,cap,cur,rfl,_,hg,hnc,hcm,hcs,htake⟩
 ·have : l = []:=List.eq_nil_of_length_eq_zero e
  subst this
  refine (Tryz.slices_Compact_string_empty none 0 w).mono ?_
  rintro e w' ⟨rfl,rfl⟩
  exact ⟨_,rfl,h,Touch.refl _ _⟩
 ·refine (Tryz.slices_Compact_string g 0 cap l w (owns_holds h hg) (by omega) hnc).mono ?_
  rintro e w' ⟨rfl,q,rfl⟩
  have hlen:=Keg l
  obtain ⟨h1,h2⟩:=owns_sorted (q:=q) (os:=#[]) (n:=(Lib.compact l).length) (d:=(Lib.compact l ++ List.replicate (l.length - (Lib.compact l).length) []).toArray) h (by simp;omega) (by simp) (m:=Lib.compact l) (by simp) rfl
  have e0 : sortWorld encStr w g 0 q (Lib.compact l ++ List.replicate (l.length - (Lib.compact l).length) []).toArray #[] = putRow encStr (Sort.ahead w q) g 0 (Lib.compact l ++ List.replicate (l.length - (Lib.compact l).length) []).toArray:=by
   unfold sortWorld grow
   rw [Array.append_empty]
  rw [e0] at h1 h2
  exact ⟨_,rfl,h1,h2.mono fun b _ hb=>by rw [hb];rfl⟩
end Go.Proofs.YtihfnegakcghiaaGreatDoor
namespace Go.Proofs.YtihfnegakcghiaaGreatDoor
open Go.RowKit
theorem badName2_any {w : World} (hE : Env w) (s : List UInt8) (hs : s.length ≤ 140737488355328) : Calls Tryz.prog 48 #[.string (strB s)] w fun e w'=>e = .returned (.bool (!okNm s)) ∧ Below w.heap.size w w':=by
 have HV:=yh (Kce hE s hs)
 clear hE
 generalize okNm s = r at *
 go_enter Tryz.func48,Tryz.ntmps48
 go_wp2_with (go_at_call 49;refine HV.out.mono ?_;rintro e W1 ⟨rfl,hb⟩;have HB:=yh hb;clear hb)
 go_ret
 exact ⟨rfl,HB.out⟩
theorem badIdx2_any {w : World} (hE : Env w) {p : Option Addr} {c : Nat} {l : List (List UInt8)} (h : RdS w p c l) : Calls Tryz.prog 108 #[.slice p l.length c,.func (.func 48) #[] #[]] w fun e w'=>e = .returned (.int .i64 (badAt l)) ∧ Below w.heap.size w w':=by
 have z1 : (l.length : Int) ≤ 140737488355328:=by have:=h.2.1.1;omega
 have H:=yh h
 have HE:=yh hE
 clear h hE
 go_enter Tryz.func108,Tryz.ntmps108
 go_wp2
 go_loopw [8] (fun i W=>∃ j : Nat,j ≤ l.length ∧ i = .int .i64 (j : Int) ∧ Hid ((l.take j).all okNm = true ∧ Below w.heap.size w W)) (fun i _=>l.length - (intOf i).toNat)
 case atStart=>exact ⟨0,Nat.zero_le _,rfl,yh ⟨by simp,Below.refl _ _⟩⟩
 case round =>
  obtain ⟨j,hj,rfl,HI⟩:=hrel
  by_cases hlt : j < l.length
  ·have hlt1 : j + 1 ≤ l.length:=hlt
   obtain ⟨b,of,rfl,hc,hcl⟩:=(H.out.below HI.out.2).get hlt
   have hone:=badName2_any (HE.out.b HI.out.2) l[j] hcl
   have hst : ∀ r,okNm l[j] = r → (l.take (j + 1)).all okNm = r:=fun r hr=>by
    rw [List.take_succ_eq_append_getElem hlt,List.all_append,HI.out.1];simp [hr]
   have hbd:=badAt_hit hlt HI.out.1
   generalize l[j] = s at *
   have HC:=yh hone
   have HB:=yh HI.out.2
   cases hok : okNm s with
   | true =>
     have HN:=yh (hst true hok)
     rw [hok] at HC
     clear hone hst hbd hok HI
     go_wp2_with (go_at_call 48;refine HC.out.mono ?_;rintro e W2 ⟨rfl,hb⟩;have HB2:=yh (Kaa HB.out hb);clear hb)
     go_roundw
     case rel=>exact ⟨j + 1,hlt1,by go_num,yh ⟨HN.out,HB2.out⟩⟩
     case measure=>simp [intOf];omega
   | false =>
     have HN:=yh (hbd hok)
     rw [hok] at HC
     clear hone hst hbd hok HI
     go_wp2_with (go_at_call 48;refine HC.out.mono ?_;rintro e W2 ⟨rfl,hb⟩;have HB2:=yh (Kaa HB.out hb);clear hb)
     go_ret
     exact ⟨by rw [HN.out];rfl,HB2.out⟩
  ·obtain rfl : j = l.length:=by omega
   have hall:=HI.out.1
   rw [List.take_length] at hall
   have HF:=yh (And.intro (badAt_none hall) HI.out.2)
   clear HI hall
   go_wp2
   go_ret
   exact ⟨by rw [HF.out.1];rfl,HF.out.2⟩
theorem hasBad2_any {w : World} (hE : Env w) {p : Option Addr} {c : Nat} {l : List (List UInt8)} (h : RdS w p c l) : Calls Tryz.prog 47 #[.slice p l.length c,.func (.func 48) #[] #[]] w fun e w'=>e = .returned (.bool (!(l.all okNm))) ∧ Below w.heap.size w w':=by
 have HV:=yh (badIdx2_any hE h)
 have HG:=yh (badAt_ge l)
 generalize l.all okNm = r at *
 clear hE h
 go_enter Tryz.func47,Tryz.ntmps47
 go_wp2_with (go_at_call 108;refine HV.out.mono ?_;rintro e W1 ⟨rfl,hb⟩;have HB:=yh hb;clear hb)
 go_ret
 refine ⟨?_,HB.out⟩
 rw [← HG.out];rfl
theorem exec_lenN {a : Act} {w : World} {o : Oper} {x : Operand} {b : Nat} {es : Array MapEntry} {clk : Nat} {n : Nat} (ho : o.op = .call { callee:=.builtin .len,args:=#[x],argTypes:=#[68] }) (hx : a.eval x = .map (some b)) (hb : w.heap[b]? = some (.map es clk)) (hn : es.size = n) : (execOp a.eval o).run Tryz.prog w = .ok (.value (.int .i64 (n : Int))) w:=by
 unfold execOp
 simp only [ho,resolve,invoke,builtin,Sem.run_bind,Sem.run_pure,Result.andThen_ok,List.map_toArray,List.map_cons,List.map_nil,hx]
 have hg : (getObj b).run Tryz.prog w = .ok (.map es clk) w:=by simp [getObj,Sem.run,hb]
 simp [Builtin.len_,run_underlying Tryz.underlying68,hg,goInt,Result.andThen,hn]
theorem exec_lenR {a : Act} {w : World} {o : Oper} {x : Operand} {b : Nat} {es : Array MapEntry} {clk : Nat} {n : Nat} (ho : o.op = .call { callee:=.builtin .len,args:=#[x],argTypes:=#[69] }) (hx : a.eval x = .map (some b)) (hb : w.heap[b]? = some (.map es clk)) (hn : es.size = n) : (execOp a.eval o).run Tryz.prog w = .ok (.value (.int .i64 (n : Int))) w:=by
 unfold execOp
 simp only [ho,resolve,invoke,builtin,Sem.run_bind,Sem.run_pure,Result.andThen_ok,List.map_toArray,List.map_cons,List.map_nil,hx]
 have hg : (getObj b).run Tryz.prog w = .ok (.map es clk) w:=by simp [getObj,Sem.run,hb]
 simp [Builtin.len_,run_underlying Tryz.underlying69,hg,goInt,Result.andThen,hn]
theorem add_ints {i j : Nat} (h : i + j ≤ 281474976710656) (W : World) : (binOp .add 3 (.int .i64 (i : Int)) (.int .i64 (j : Int))).run Tryz.prog W = .ok (.int .i64 ((i + j : Nat) : Int)) W:=by
 have e : IntKind.i64.wrap ((i : Int) + (j : Int)) = ((i + j : Nat) : Int):=by rw [IntKind.wrap_i64];omega
 simp [go_sem,e]
theorem geq_most {i : Nat} (W : World) : (binOp .geq 3 (.int .i64 (i : Int)) (.int .i64 65536)).run Tryz.prog W = .ok (.bool (decide (65536 ≤ i))) W:=by
 have e : decide ((65536 : Int) ≤ (i : Int)) = decide (65536 ≤ i):=by rw [Bool.eq_iff_iff];simp;omega
 simp [go_sem,e]
theorem geq_next {n : Int} (W : World) : (binOp .geq 2 (.int .i64 n) (.int .i64 4611686018427387904)).run Tryz.prog W = .ok (.bool (decide (4611686018427387904 ≤ n))) W:=by
 simp [go_sem]
theorem full_any {S : Nat → Prop} {w : World} {B : GB} {ma : Int → Option Value} {s : GS} (h : GM S w B ma s) (hl : s.nodes.length + s.rels.length ≤ 1100000) (next : Int) : Calls Tryz.prog 50 #[.pointer (some ⟨B.gx,0,none⟩),.int .i64 next] w fun e w'=>e = .returned (.bool (fullD s.graph next)) ∧ Below w.heap.size w w':=by
 obtain ⟨e1,c1,hn,hn2⟩:=h.nodes.entries
 obtain ⟨e2,c2,hr,hr2⟩:=h.rels.entries
 have hadd:=add_ints (i:=s.nodes.length) (j:=s.rels.length) (by omega)
 have hge:=geq_most (i:=s.nodes.length + s.rels.length)
 have hgn:=geq_next (n:=next)
 have hF : fullD s.graph next = (decide (65536 ≤ s.nodes.length + s.rels.length) || decide (4611686018427387904 ≤ next)):=rfl
 have hS0 : w.heap[B.gx]? = some (.cells (gBoxV B s) 72 (0,0)) ∧ w.heap[B.bn]? = some (.map e1 c1) ∧ w.heap[B.br]? = some (.map e2 c2):=⟨h.box,hn,hr⟩
 have HX:=yh (And.intro hadd (And.intro hge (And.intro hgn (And.intro hn2 (And.intro hr2 hS0)))))
 have HF:=yh hF
 clear h hn hr hadd hge hgn hn2 hr2 hS0 hF
 go_enter Tryz.func50,Tryz.ntmps50
 go_wp2
 obtain ⟨hadd,hge,hgn,hn2,hr2,hS0⟩:=HX.out
 cases hc : decide (65536 ≤ s.nodes.length + s.rels.length) with
 | true =>
   rw [hc] at hge
   refine Kag (fun W=>W.heap[B.gx]? = some (.cells (gBoxV B s) 72 (0,0)) ∧ W.heap[B.bn]? = some (.map e1 c1) ∧ W.heap[B.br]? = some (.map e2 c2)) (by kernel_rfl) hS0 (fun hS=>?_)
   refine tm 0 5 (v:=.pointer (some ⟨B.gx,0,none⟩)) rfl rfl rfl ?_;simp only [zP]
   refine tk 1 6 (v:=.pointer (some ⟨B.gx,0,none⟩)) rfl rfl (fun W hW=>rfl) ?_;simp only [zP]
   refine tk 2 7 (v:=.pointer (some ⟨B.gx,0,none⟩)) rfl rfl (fun W hW=>Kab rfl rfl (Kbi 0 (by omega) _ W)) ?_;simp only [zP]
   refine tk 3 8 (v:=.map (some B.bn)) rfl rfl (fun W hW=>Kac rfl rfl (Kaf (w:=W) Tryz.underlying68 rfl (Kae (o:=0) hW.1 rfl))) ?_;simp only [zP]
   refine tk 4 9 (v:=.int .i64 (s.nodes.length : Int)) rfl rfl (fun W hW=>exec_lenN rfl rfl hW.2.1 hn2) ?_;simp only [zP]
   refine tm 5 10 (v:=.pointer (some ⟨B.gx,0,none⟩)) rfl rfl rfl ?_;simp only [zP]
   refine tk 6 11 (v:=.pointer (some ⟨B.gx,0,none⟩)) rfl rfl (fun W hW=>rfl) ?_;simp only [zP]
   refine tk 7 12 (v:=.pointer (some ⟨B.gx,1,none⟩)) rfl rfl (fun W hW=>Kab rfl rfl (Kbi 1 (by omega) _ W)) ?_;simp only [zP]
   refine tk 8 13 (v:=.map (some B.br)) rfl rfl (fun W hW=>Kac rfl rfl (Kaf (w:=W) Tryz.underlying69 rfl (Kae (o:=1) hW.1 rfl))) ?_;simp only [zP]
   refine tk 9 14 (v:=.int .i64 (s.rels.length : Int)) rfl rfl (fun W hW=>exec_lenR rfl rfl hW.2.2 hr2) ?_;simp only [zP]
   refine tk 10 15 (v:=.int .i64 ((s.nodes.length + s.rels.length : Nat) : Int)) rfl rfl (fun W hW=>Kal rfl rfl rfl (hadd W)) ?_;simp only [zP]
   refine tk 11 16 (v:=.bool true) rfl rfl (fun W hW=>Kal rfl rfl rfl (hge W)) ?_;simp only [zP]
   refine tm 12 17 (v:=.bool true) rfl rfl rfl ?_;simp only [zP]
   refine tx 13 18 ?_;simp only [zP]
   refine tx 14 19 ?_;simp only [zP]
   refine tk 15 20 (v:=.bool true) rfl rfl (fun W hW=>rfl) ?_;simp only [zP]
   refine tk 16 4 (v:=.bool true) rfl rfl (fun W hW=>Kaw rfl rfl) ?_;simp only [zP]
   refine done (by kernel_rfl) ?_ _
   clear hadd hge hgn hn2 hr2 hS0 hS HX
   go_wp2
   go_ret
   exact ⟨by rw [HF.out,hc];rfl,(Below.refl _ w).drew⟩
 | false =>
   rw [hc] at hge
   refine Kag (fun W=>W.heap[B.gx]? = some (.cells (gBoxV B s) 72 (0,0)) ∧ W.heap[B.bn]? = some (.map e1 c1) ∧ W.heap[B.br]? = some (.map e2 c2)) (by kernel_rfl) hS0 (fun hS=>?_)
   refine tm 0 5 (v:=.pointer (some ⟨B.gx,0,none⟩)) rfl rfl rfl ?_;simp only [zP]
   refine tk 1 6 (v:=.pointer (some ⟨B.gx,0,none⟩)) rfl rfl (fun W hW=>rfl) ?_;simp only [zP]
   refine tk 2 7 (v:=.pointer (some ⟨B.gx,0,none⟩)) rfl rfl (fun W hW=>Kab rfl rfl (Kbi 0 (by omega) _ W)) ?_;simp only [zP]
   refine tk 3 8 (v:=.map (some B.bn)) rfl rfl (fun W hW=>Kac rfl rfl (Kaf (w:=W) Tryz.underlying68 rfl (Kae (o:=0) hW.1 rfl))) ?_;simp only [zP]
   refine tk 4 9 (v:=.int .i64 (s.nodes.length : Int)) rfl rfl (fun W hW=>exec_lenN rfl rfl hW.2.1 hn2) ?_;simp only [zP]
   refine tm 5 10 (v:=.pointer (some ⟨B.gx,0,none⟩)) rfl rfl rfl ?_;simp only [zP]
   refine tk 6 11 (v:=.pointer (some ⟨B.gx,0,none⟩)) rfl rfl (fun W hW=>rfl) ?_;simp only [zP]
   refine tk 7 12 (v:=.pointer (some ⟨B.gx,1,none⟩)) rfl rfl (fun W hW=>Kab rfl rfl (Kbi 1 (by omega) _ W)) ?_;simp only [zP]
   refine tk 8 13 (v:=.map (some B.br)) rfl rfl (fun W hW=>Kac rfl rfl (Kaf (w:=W) Tryz.underlying69 rfl (Kae (o:=1) hW.1 rfl))) ?_;simp only [zP]
   refine tk 9 14 (v:=.int .i64 (s.rels.length : Int)) rfl rfl (fun W hW=>exec_lenR rfl rfl hW.2.2 hr2) ?_;simp only [zP]
   refine tk 10 15 (v:=.int .i64 ((s.nodes.length + s.rels.length : Nat) : Int)) rfl rfl (fun W hW=>Kal rfl rfl rfl (hadd W)) ?_;simp only [zP]
   refine tk 11 16 (v:=.bool false) rfl rfl (fun W hW=>Kal rfl rfl rfl (hge W)) ?_;simp only [zP]
   refine tm 12 17 (v:=.bool false) rfl rfl rfl ?_;simp only [zP]
   refine tm 13 18 (v:=.int .i64 next) rfl rfl rfl ?_;simp only [zP]
   refine tk 14 19 (v:=.bool (decide (4611686018427387904 ≤ next))) rfl rfl (fun W hW=>Kal rfl rfl rfl (hgn W)) ?_;simp only [zP]
   refine tk 15 20 (v:=.bool (decide (4611686018427387904 ≤ next))) rfl rfl (fun W hW=>rfl) ?_;simp only [zP]
   refine tk 16 4 (v:=.bool (decide (4611686018427387904 ≤ next))) rfl rfl (fun W hW=>Kaw rfl rfl) ?_;simp only [zP]
   refine done (by kernel_rfl) ?_ _
   clear hadd hge hgn hn2 hr2 hS0 hS HX
   go_wp2
   go_ret
   exact ⟨by rw [HF.out,hc];rfl,(Below.refl _ w).drew⟩
theorem all_texts (l : List (List UInt8)) : (Kcf id l []).all okNm = l.all okNm:=by
 rw [Bool.eq_iff_iff,List.all_eq_true,List.all_eq_true]
 have h:=mem_texts l List.Pairwise.nil
 exact ⟨fun g x hx=>g x ((h x).2 (.inl hx)),fun g x hx=>g x (by simpa using (h x).1 hx)⟩
def GDone (S : Nat → Prop) (w w' : World) (B : GB) (ma : Int → Option Value) (s : GS) : Prop:=GM S w' B ma s ∧ Touch S w w'
theorem GDone.below {S : Nat → Prop} {w w' : World} {B : GB} {ma : Int → Option Value} {s : GS} (h : GM S w B ma s) (g : Below w.heap.size w w') : GDone S w w' B ma s:=⟨h.below g,Kat g⟩
theorem GDone.then {S : Nat → Prop} {w w1 w2 : World} {B : GB} {ma : Int → Option Value} {s : GS} (h : GDone S w w1 B ma s) (g : Below w1.heap.size w1 w2) : GDone S w w2 B ma s:=⟨h.1.below g,h.2.grow g⟩
theorem addNode_any {S : Nat → Prop} {w : World} {B : GB} {ma : Int → Option Value} {s : GS} (hE : Env w) (h : GM S w B ma s) (hS : ∀ b,w.heap.size ≤ b → S b) (hok : okG s.graph = true) {pl : Option Addr} {cl : Nat} {labels : List (List UInt8)} (hl : RdS w pl cl labels) (hl1 : labels.length ≤ 1100000) {pp : Option Addr} {cp : Nat} {props : List PropD} (hp : GRd PRd 7 w pp cp props) (hp1 : PsOk props) :
 Calls Tryz.prog 15 #[.pointer (some ⟨B.gx,0,none⟩),.slice pl labels.length cl,.slice pp props.length cp] w fun e w'=>e = .returned (.tuple #[.int .i64 (Kb7 s.graph labels props).2.1,.int .i64 (Kb7 s.graph labels props).2.2]) ∧ GDone S w w' B ma (sOf (Kb7 s.graph labels props).1 s.adj):=by
 obtain ⟨⟨k1,k2,k3,k4,k5⟩,k6,k7,k8,k9⟩:=(Kch _).1 hok
 have hsz : s.nodes.length + s.rels.length ≤ 1100000:=Nat.le_trans k1 (by decide)
 have hn0 : 0 ≤ s.nn:=k2
 have hn1 : s.nn ≤ 4611686018427387904:=k3
 have hlast : ∀ n : NodeD,n.id = s.nn → putBy NodeD.id n s.nodes = s.nodes ++ [n]:=fun n e=>putBy_end NodeD.id fun a ha=>by rw [e];exact (k6 a ha).2
 have HST:=yh (stored_any hE hp hp1)
 have HNO:=yh (none_no h.box)
 have HCL:=yh (fun W (g : Below w.heap.size w W)=>clone_any (hl.below g) hl1)
 have hstr : ∀ x ∈ labels,x.length ≤ 140737488355328:=hl.2.2.2.1
 have HX:=yh (And.intro hE (And.intro h (And.intro hS (And.intro hsz (And.intro hlast (And.intro hl1 hstr))))))
 have hD : Kb7 s.graph labels props = if labels.all okNm = false ∨ Kby props = false then (s.graph,0,2) else if fullD s.graph s.nn = true then (s.graph,0,151) else (⟨s.nodes ++ [⟨s.nn,Kcf id labels [],Kbn props⟩],s.rels,s.nn + 1,s.nr⟩,s.nn,0):=rfl
 have HD:=yh hD
 clear hok k1 k2 k3 k4 k5 k6 k7 k8 k9 hl hp hp1 hE h hS hsz hlast hD hl1 hstr
 cases hms : Kby props with
 | false =>
   have hr : Kb7 s.graph labels props = (s.graph,0,2):=by rw [HD.out,if_pos (.inr hms)]
   rw [hr]
   have HMS:=yh hms
   clear hms hr HD
   go_enter Tryz.func15,Tryz.ntmps15
   go_wp2_with (first
    | (go_at_call 42;refine HNO.out.mono ?_;rintro e w0 ⟨rfl,hw0⟩;have hw0:=hw0.symm;subst hw0)
    | (go_at_call 43
       (
        refine HST.out.mono ?_
        rintro e w1 ⟨hb,h1,_⟩
        obtain rfl:=h1 HMS.out
        have HB1:=yh hb
        clear hb h1))
    | (go_at_call 44
       (
        refine (HCL.out _ HB1.out).mono ?_
        rintro e w2 ⟨v,rfl,ho,hb⟩
        obtain ⟨pv,cv,rfl⟩:=Kbt ho
        have HO2:=yh ho
        have HB2:=yh hb
        clear ho hb))
    | (go_at_call 45
       (
        refine (sortS_any HO2.out HX.out.2.2.2.2.2.1).mono ?_
        rintro e w3 ⟨rfl,l3,hp3,hs3,ho3,hT3⟩
        have hb3 : Below w1.heap.size w1 w3:=hT3.below HB2.out (fun b hb e=>by have:=HO2.out.2 b e;omega) HB2.out.size
        have hl3 : l3.length ≤ 1100000:=by rw [hp3.length_eq];exact HX.out.2.2.2.2.2.1
        have HO3:=yh (And.intro ho3 (And.intro hl3 hb3))
        clear hp3 hs3 ho3 hT3 hb3 hl3))
    | (go_at_call 46
       (
        refine (Kd1 HO3.out.1 HO3.out.2.1).mono ?_
        rintro e w4 ⟨v4,rfl,ho4,hT4⟩
        have hb4 : Below w1.heap.size w1 w4:=hT4.below HO3.out.2.2 (fun b hb e=>by have:=HO3.out.1.2 b e;omega) HO3.out.2.2.size
        have HB4:=yh (Kaa HB1.out hb4)
        clear ho4 hT4 hb4)))
   go_ret2
   exact ⟨rfl,GDone.below HX.out.2.1 HB4.out⟩
 | true =>
   have HMS:=yh hms
   cases hall : labels.all okNm with
   | false =>
     have hr : Kb7 s.graph labels props = (s.graph,0,2):=by rw [HD.out,if_pos (.inl hall)]
     rw [hr]
     have HALL:=yh (show (Kcf id labels []).all okNm = false by rw [all_texts];exact hall)
     clear hms hall hr HD
     go_enter Tryz.func15,Tryz.ntmps15
     go_wp2_with (first
      | (go_at_call 42;refine HNO.out.mono ?_;rintro e w0 ⟨rfl,hw0⟩;have hw0:=hw0.symm;subst hw0)
      | (go_at_call 43
         (
          refine HST.out.mono ?_
          rintro e w1 ⟨hb,_,h1⟩
          obtain ⟨v1,rfl,ho1⟩:=h1 HMS.out
          obtain ⟨pv1,cv1,rfl⟩:=ho1.slice
          have HO1:=yh ho1
          have HB1:=yh hb
          clear hb h1 ho1))
      | (go_at_call 44
         (
          refine (HCL.out _ HB1.out).mono ?_
          rintro e w2 ⟨v,rfl,ho,hb⟩
          obtain ⟨pv,cv,rfl⟩:=Kbt ho
          have HO2:=yh ho
          have HB2:=yh hb
          clear ho hb))
      | (go_at_call 45
         (
          refine (sortS_any HO2.out HX.out.2.2.2.2.2.1).mono ?_
          rintro e w3 ⟨rfl,l3,hp3,hs3,ho3,hT3⟩
          have hb3 : Below w1.heap.size w1 w3:=hT3.below HB2.out (fun b hb e=>by have:=HO2.out.2 b e;omega) HB2.out.size
          have hl3 : l3.length ≤ 1100000:=by rw [hp3.length_eq];exact HX.out.2.2.2.2.2.1
          have hcp:=Kel hp3 hs3
          have HO3:=yh (And.intro ho3 (And.intro hl3 (And.intro hb3 hcp)))
          clear hp3 hs3 ho3 hT3 hb3 hl3 hcp))
      | (go_at_call 46
         (
          have hcc:=Kd1 HO3.out.1 HO3.out.2.1
          rw [HO3.out.2.2.2] at hcc
          refine hcc.mono ?_
          rintro e w4 ⟨v4,rfl,ho4,hT4⟩
          have hb4 : Below w1.heap.size w1 w4:=hT4.below HO3.out.2.2.1 (fun b hb e=>by have:=HO3.out.1.2 b e;omega) HO3.out.2.2.1.size
          have hlen4:=Keg l3
          rw [HO3.out.2.2.2] at hlen4
          obtain ⟨p4,c4,rfl,hrd4⟩:=Kdo ho4 (by have:=HO3.out.2.1;omega) (fun x hx=>HX.out.2.2.2.2.2.2 x (by simpa using (mem_texts labels List.Pairwise.nil x).1 hx))
          have HN4:=yh (And.intro ((ho4.imp (P':=fun b=>w.heap.size ≤ b) fun b _ hb=>by have:=HB1.out.size;omega)) (HO1.out.below Ka2 hb4))
          have HR4:=yh hrd4
          have HB4:=yh (Kaa HB1.out hb4)
          clear ho4 hT4 hb4 hlen4 hrd4 hcc))
      | (go_at_call 47
         (
          have hcb:=hasBad2_any (HX.out.1.b HB4.out) HR4.out
          rw [HALL.out] at hcb
          refine hcb.mono ?_
          rintro e w5 ⟨rfl,hb⟩
          have HB5:=yh (Kaa HB4.out hb)
          clear hb hcb)))
     go_ret2
     exact ⟨rfl,GDone.below HX.out.2.1 HB5.out⟩
   | true =>
     have HALL:=yh (show (Kcf id labels []).all okNm = true by rw [all_texts];exact hall)
     have hr0 : ¬ (labels.all okNm = false ∨ Kby props = false):=by rw [hall,hms];simp
     cases hfl : fullD s.graph s.nn with
     | true =>
       have hr : Kb7 s.graph labels props = (s.graph,0,151):=by rw [HD.out,if_neg hr0,if_pos hfl]
       rw [hr]
       have HFL:=yh hfl
       clear hms hall hr HD hr0 hfl
       go_enter Tryz.func15,Tryz.ntmps15
       go_wp2_with (first
        | (go_at_call 42;refine HNO.out.mono ?_;rintro e w0 ⟨rfl,hw0⟩;have hw0:=hw0.symm;subst hw0)
        | (go_at_call 43
           (
            refine HST.out.mono ?_
            rintro e w1 ⟨hb,_,h1⟩
            obtain ⟨v1,rfl,ho1⟩:=h1 HMS.out
            obtain ⟨pv1,cv1,rfl⟩:=ho1.slice
            have HO1:=yh ho1
            have HB1:=yh hb
            clear hb h1 ho1))
        | (go_at_call 44
           (
            refine (HCL.out _ HB1.out).mono ?_
            rintro e w2 ⟨v,rfl,ho,hb⟩
            obtain ⟨pv,cv,rfl⟩:=Kbt ho
            have HO2:=yh ho
            have HB2:=yh hb
            clear ho hb))
        | (go_at_call 45
           (
            refine (sortS_any HO2.out HX.out.2.2.2.2.2.1).mono ?_
            rintro e w3 ⟨rfl,l3,hp3,hs3,ho3,hT3⟩
            have hb3 : Below w1.heap.size w1 w3:=hT3.below HB2.out (fun b hb e=>by have:=HO2.out.2 b e;omega) HB2.out.size
            have hl3 : l3.length ≤ 1100000:=by rw [hp3.length_eq];exact HX.out.2.2.2.2.2.1
            have hcp:=Kel hp3 hs3
            have HO3:=yh (And.intro ho3 (And.intro hl3 (And.intro hb3 hcp)))
            clear hp3 hs3 ho3 hT3 hb3 hl3 hcp))
        | (go_at_call 46
           (
            have hcc:=Kd1 HO3.out.1 HO3.out.2.1
            rw [HO3.out.2.2.2] at hcc
            refine hcc.mono ?_
            rintro e w4 ⟨v4,rfl,ho4,hT4⟩
            have hb4 : Below w1.heap.size w1 w4:=hT4.below HO3.out.2.2.1 (fun b hb e=>by have:=HO3.out.1.2 b e;omega) HO3.out.2.2.1.size
            have hlen4:=Keg l3
            rw [HO3.out.2.2.2] at hlen4
            obtain ⟨p4,c4,rfl,hrd4⟩:=Kdo ho4 (by have:=HO3.out.2.1;omega) (fun x hx=>HX.out.2.2.2.2.2.2 x (by simpa using (mem_texts labels List.Pairwise.nil x).1 hx))
            have HN4:=yh (And.intro ((ho4.imp (P':=fun b=>w.heap.size ≤ b) fun b _ hb=>by have:=HB1.out.size;omega)) (HO1.out.below Ka2 hb4))
            have HR4:=yh hrd4
            have HB4:=yh (Kaa HB1.out hb4)
            clear ho4 hT4 hb4 hlen4 hrd4 hcc))
        | (go_at_call 47
           (
            have hcb:=hasBad2_any (HX.out.1.b HB4.out) HR4.out
            rw [HALL.out] at hcb
            refine hcb.mono ?_
            rintro e w5 ⟨rfl,hb⟩
            have HB5:=yh (Kaa HB4.out hb)
            have p3 : w5.cell? ⟨B.gx,3,none⟩ = some (.int .i64 s.nn):=Kae (o:=3) (HX.out.2.1.below HB5.out).box rfl
            clear hb hcb))
        | (go_at_call 50
           (
            have hfu:=full_any (HX.out.2.1.below HB5.out) HX.out.2.2.2.1 s.nn
            rw [HFL.out] at hfu
            refine hfu.mono ?_
            rintro e w6 ⟨rfl,hb⟩
            have HB6:=yh (Kaa HB5.out hb)
            clear hb hfu)))
       go_ret2
       exact ⟨rfl,GDone.below HX.out.2.1 HB6.out⟩
     | false =>
       have hr : Kb7 s.graph labels props = (⟨s.nodes ++ [⟨s.nn,Kcf id labels [],Kbn props⟩],s.rels,s.nn + 1,s.nr⟩,s.nn,0):=by rw [HD.out,if_neg hr0,hfl,if_neg (by simp)]
       rw [hr]
       have HFL:=yh hfl
       have hnl : s.nn < 4611686018427387904:=by
        unfold fullD at hfl
        simp only [Bool.or_eq_false_iff,decide_eq_false_iff_not] at hfl
        omega
       have hw1 : IntKind.i64.wrap (s.nn + 1) = s.nn + 1:=by rw [IntKind.wrap_i64];omega
       have HNN:=yh (show i64R s.nn by unfold i64R;omega)
       clear hms hall hr HD hr0 hfl hnl hn0 hn1
       go_enter Tryz.func15,Tryz.ntmps15
       go_wp2_with (first
        | (go_at_call 42;refine HNO.out.mono ?_;rintro e w0 ⟨rfl,hw0⟩;have hw0:=hw0.symm;subst hw0)
        | (go_at_call 43
           (
            refine HST.out.mono ?_
            rintro e w1 ⟨hb,_,h1⟩
            obtain ⟨v1,rfl,ho1⟩:=h1 HMS.out
            obtain ⟨pv1,cv1,rfl⟩:=ho1.slice
            have HO1:=yh ho1
            have HB1:=yh hb
            clear hb h1 ho1))
        | (go_at_call 44
           (
            refine (HCL.out _ HB1.out).mono ?_
            rintro e w2 ⟨v,rfl,ho,hb⟩
            obtain ⟨pv,cv,rfl⟩:=Kbt ho
            have HO2:=yh ho
            have HB2:=yh hb
            clear ho hb))
        | (go_at_call 45
           (
            refine (sortS_any HO2.out HX.out.2.2.2.2.2.1).mono ?_
            rintro e w3 ⟨rfl,l3,hp3,hs3,ho3,hT3⟩
            have hb3 : Below w1.heap.size w1 w3:=hT3.below HB2.out (fun b hb e=>by have:=HO2.out.2 b e;omega) HB2.out.size
            have hl3 : l3.length ≤ 1100000:=by rw [hp3.length_eq];exact HX.out.2.2.2.2.2.1
            have hcp:=Kel hp3 hs3
            have HO3:=yh (And.intro ho3 (And.intro hl3 (And.intro hb3 hcp)))
            clear hp3 hs3 ho3 hT3 hb3 hl3 hcp))
        | (go_at_call 46
           (
            have hcc:=Kd1 HO3.out.1 HO3.out.2.1
            rw [HO3.out.2.2.2] at hcc
            refine hcc.mono ?_
            rintro e w4 ⟨v4,rfl,ho4,hT4⟩
            have hb4 : Below w1.heap.size w1 w4:=hT4.below HO3.out.2.2.1 (fun b hb e=>by have:=HO3.out.1.2 b e;omega) HO3.out.2.2.1.size
            have hlen4:=Keg l3
            rw [HO3.out.2.2.2] at hlen4
            obtain ⟨p4,c4,rfl,hrd4⟩:=Kdo ho4 (by have:=HO3.out.2.1;omega) (fun x hx=>HX.out.2.2.2.2.2.2 x (by simpa using (mem_texts labels List.Pairwise.nil x).1 hx))
            have HN4:=yh (And.intro ((ho4.imp (P':=fun b=>w.heap.size ≤ b) fun b _ hb=>by have:=HB1.out.size;omega)) (HO1.out.below Ka2 hb4))
            have HR4:=yh hrd4
            have HB4:=yh (Kaa HB1.out hb4)
            clear ho4 hT4 hb4 hlen4 hrd4 hcc))
        | (go_at_call 47
           (
            have hcb:=hasBad2_any (HX.out.1.b HB4.out) HR4.out
            rw [HALL.out] at hcb
            refine hcb.mono ?_
            rintro e w5 ⟨rfl,hb⟩
            have HB5:=yh (Kaa HB4.out hb)
            have HB45:=yh hb
            have p3 : w5.cell? ⟨B.gx,3,none⟩ = some (.int .i64 s.nn):=Kae (o:=3) (HX.out.2.1.below HB5.out).box rfl
            clear hb hcb))
        | (go_at_call 50
           (
            have hfu:=full_any (HX.out.2.1.below HB5.out) HX.out.2.2.2.1 s.nn
            rw [HFL.out] at hfu
            refine hfu.mono ?_
            rintro e w6 ⟨rfl,hb⟩
            have hb6:=Kaa HB5.out hb
            have hg6:=HX.out.2.1.below hb6
            have p36 : w6.cell? ⟨B.gx,3,none⟩ = some (.int .i64 s.nn):=Kae (o:=3) hg6.box rfl
            have p06 : w6.cell? ⟨B.gx,0,none⟩ = some (.map (some B.bn)):=Kae (o:=0) hg6.box rfl
            have hb46:=Kaa HB45.out hb
            have hx : NOwn w6 (fun b=>w.heap.size ≤ b) ⟨s.nn,Kcf id labels [],Kbn props⟩ #[.int .i64 s.nn,.slice p4 (Kcf id labels []).length c4,.slice pv1 (Kbn props).length cv1]:=⟨_,_,rfl,(HN4.out.1.keep fun b _ hb=>hb46.block b hb).imp fun b _ hb=>hb,HN4.out.2.below Ka2 hb46⟩
            obtain ⟨w7,r1,r2,r3,r4⟩:=HX.out.2.1.putNode HX.out.2.2.1 hb6 hx HNN.out
            obtain ⟨w8,q1,q2,q3,q4⟩:=r2.setNN (s.nn + 1)
            have p37 : w7.cell? ⟨B.gx,3,none⟩ = some (.int .i64 s.nn):=Kae (o:=3) r2.box rfl
            have HU:=yh r1
            have HST2:=yh q1
            have HF:=yh (And.intro q2 (Touch.pre hb6 ((r3.mono (S':=S) fun b _ e=>by rw [e];exact HX.out.2.1.own.2.1).step (q3.mono (S':=S) fun b _ e=>by rw [e];exact HX.out.2.1.own.1) fun b _ hs=>hs)))
            clear hb hfu hb6 hg6 hb46 hx r1 r2 r3 r4 q1 q2 q3 q4))
        | ((with_reducible apply Kb4);exact HU.out;exact rfl;exact rfl;exact rfl;clear HU)
        | ((with_reducible apply Kaq);exact HST2.out;exact rfl;exact rfl;clear HST2))
       go_ret2
       refine ⟨rfl,?_,HF.out.2⟩
       have:=HF.out.1
       rw [HX.out.2.2.2.2.1 _ rfl] at this
       exact this
def nodeZ : Array Value:=#[.int .i64 0,.slice none 0 0,.slice none 0 0]
theorem GM.look {S : Nat → Prop} {W : World} {B : GB} {ma : Int → Option Value} {s : GS} (h : GM S W B ma s) (k : Int) :
 ∃ x,x.size = 3 ∧ (∀ u ∈ x.toList,u.oneCell' = true) ∧ (∀ W' : World,W'.heap[B.bn]? = W.heap[B.bn]? → (Instr.lookup 68 (.map (some B.bn)) (.int .i64 k) true).run Tryz.prog W' = .ok (.tuple #[.agg x,.bool (hasN s.graph k)]) W') ∧ (∀ a ∈ s.nodes,a.id = k → NOwn W (fun b=>S b ∧ ¬ GSp B ma b) a x) ∧ (hasN s.graph k = false → x = nodeZ):=by
 obtain ⟨x,h1,h2,h3⟩:=h.nodes.get2 (P:=Tryz.prog) Tryz.underlying68 Tryz.underlying2 (z:=nodeZ) (fun w=>Tryz.zeroValue45 w) k
 have hh : hasN s.graph k = s.nodes.any fun a=>a.id == k:=rfl
 rw [← hh] at h1 h3
 refine ⟨x,?_,?_,h1,h2,h3⟩
 ·cases hf : hasN s.graph k with
  | false=>rw [h3 hf];rfl
  | true =>
    rw [hh,List.any_eq_true] at hf
    obtain ⟨a,ha,e⟩:=hf
    exact Ka0.size (h2 a ha (by simpa using e))
 ·cases hf : hasN s.graph k with
  | false=>rw [h3 hf];simp [nodeZ,Value.oneCell']
  | true =>
    rw [hh,List.any_eq_true] at hf
    obtain ⟨a,ha,e⟩:=hf
    exact Ka0.ones (h2 a ha (by simpa using e))
theorem addRel_any {S : Nat → Prop} {w : World} {B : GB} {g : GraphD} (hE : Env w) (hg : GG S w B g) (hS : ∀ b,w.heap.size ≤ b → S b) (hok : okG g = true) (src dst : Int) {type : List UInt8} (hty : type.length ≤ 140737488355328) {pp : Option Addr} {cp : Nat} {props : List PropD} (hp : GRd PRd 7 w pp cp props) (hp1 : PsOk props) :
 Calls Tryz.prog 37 #[.pointer (some ⟨B.gx,0,none⟩),.int .i64 src,.int .i64 dst,.string (strB type),.slice pp props.length cp] w fun e w'=>e = .returned (.tuple #[.int .i64 (addRelD g src dst type props).2.1,.int .i64 (addRelD g src dst type props).2.2]) ∧ GG S w' B (addRelD g src dst type props).1 ∧ Touch S w w':=by
 obtain ⟨ma,h⟩:=hg
 obtain ⟨⟨k1,k2,k3,k4,k5⟩,k6,k7,k8,k9⟩:=(Kch _).1 hok
 have hsz : (gsOf g).nodes.length + (gsOf g).rels.length ≤ 1100000:=Nat.le_trans k1 (by decide)
 have hlast : ∀ n : RelD,n.id = g.nextRel → putBy RelD.id n g.rels = g.rels ++ [n]:=fun n e=>putBy_end RelD.id fun a ha=>by rw [e];exact (k8 a ha).2.1
 have hadj : ∀ r : RelD,r.id = g.nextRel → (⟨g.nodes,g.rels ++ [r],linkK (linkK (Kbu g.rels) r.src r.id) r.dst r.id,g.nextNode,g.nextRel⟩ : GS) = gsOf ⟨g.nodes,g.rels ++ [r],g.nextNode,g.nextRel⟩:=fun r e =>
  gsOf_eq (adj_link (s:=gsOf g) (fun j=>rfl) (Kbj _ k9) (fun x hx=>by rw [e];exact (k8 x hx).2.1))
 have hfew : ∀ k,(Kbu g.rels k).length + 3 ≤ 1100000:=fun k=>by have:=touchD_len g.rels k;omega
 have HST:=yh (stored_any hE hp hp1)
 have HNO:=yh (none_no h.box)
 obtain ⟨xa,hza,hoa,hlka,_,_⟩:=h.look src
 obtain ⟨xb,hzb,hob,hlkb,_,_⟩:=h.look dst
 have HX:=yh (And.intro hE (And.intro h (And.intro hS (And.intro hsz (And.intro hlast (And.intro hadj hfew))))))
 have hgr : (gsOf g).graph = g:=rfl
 rw [hgr] at hlka hlkb
 have HD:=yh (show addRelD g src dst type props = if Kby props = false ∨ okNm type = false then (g,0,2) else if hasN g src = false ∨ hasN g dst = false then (g,0,5) else if fullD g g.nextRel = true then (g,0,151) else (⟨g.nodes,g.rels ++ [⟨g.nextRel,src,dst,type,Kbn props⟩],g.nextNode,g.nextRel + 1⟩,g.nextRel,0) from rfl)
 have HG:=yh (show GG S w B g from ⟨ma,h⟩)
 have HNR:=yh (And.intro k4 k5)
 clear hok k1 k2 k3 k4 k5 k6 k7 k8 k9 hp hp1 hE h hS hsz hlast hadj hfew hgr
 cases hms : Kby props with
 | false =>
   rw [HD.out,if_pos (.inl hms)]
   have HMS:=yh hms
   clear hms HD hlka hlkb hza hoa hzb hob
   go_enter Tryz.func37,Tryz.ntmps37
   go_wp2_with (first
    | (go_at_call 42;refine HNO.out.mono ?_;rintro e w0 ⟨rfl,hw0⟩;have hw0:=hw0.symm;subst hw0)
    | (go_at_call 43
       (
        refine HST.out.mono ?_
        rintro e w1 ⟨hb,h1,_⟩
        obtain rfl:=h1 HMS.out
        have HB1:=yh hb
        clear hb h1)))
   go_ret2
   exact ⟨rfl,HG.out.below HB1.out,Kat HB1.out⟩
 | true =>
   have HMS:=yh hms
   cases hnm : okNm type with
   | false =>
     rw [HD.out,if_pos (.inr hnm)]
     have HNM:=yh hnm
     clear hms hnm HD hlka hlkb hza hoa hzb hob
     go_enter Tryz.func37,Tryz.ntmps37
     go_wp2_with (first
      | (go_at_call 42;refine HNO.out.mono ?_;rintro e w0 ⟨rfl,hw0⟩;have hw0:=hw0.symm;subst hw0)
      | (go_at_call 43
         (
          refine HST.out.mono ?_
          rintro e w1 ⟨hb,_,h1⟩
          obtain ⟨v1,rfl,ho1⟩:=h1 HMS.out
          obtain ⟨pv1,cv1,rfl⟩:=ho1.slice
          have HO1:=yh ho1
          have HB1:=yh hb
          clear hb h1 ho1))
      | (go_at_call 49
         (
          have hnm:=Kce (HX.out.1.b HB1.out) type hty
          rw [HNM.out] at hnm
          refine hnm.mono ?_
          rintro e w2 ⟨rfl,hb⟩
          have HB2:=yh (Kaa HB1.out hb)
          have HB12:=yh hb
          clear hb hnm)))
     go_ret2
     exact ⟨rfl,HG.out.below HB2.out,Kat HB2.out⟩
   | true =>
     have HNM:=yh hnm
     have hr0 : ¬ (Kby props = false ∨ okNm type = false):=by rw [hms,hnm];simp
     have HR0:=yh hr0
     clear hms hnm hr0
     cases hfa : hasN g src with
     | false =>
       rw [HD.out,if_neg HR0.out,if_pos (.inl hfa)]
       rw [hfa] at hlka
       generalize hasN g dst = fb at *
       clear HD hfa
       go_enter Tryz.func37,Tryz.ntmps37
       go_wp2_with (first
        | (go_at_call 42;refine HNO.out.mono ?_;rintro e w0 ⟨rfl,hw0⟩;have hw0:=hw0.symm;subst hw0)
        | (go_at_call 43
           (
            refine HST.out.mono ?_
            rintro e w1 ⟨hb,_,h1⟩
            obtain ⟨v1,rfl,ho1⟩:=h1 HMS.out
            obtain ⟨pv1,cv1,rfl⟩:=ho1.slice
            have HO1:=yh ho1
            have HB1:=yh hb
            clear hb h1 ho1))
        | (go_at_call 49
           (
            have hnm:=Kce (HX.out.1.b HB1.out) type hty
            rw [HNM.out] at hnm
            refine hnm.mono ?_
            rintro e w2 ⟨rfl,hb⟩
            have HB2:=yh (Kaa HB1.out hb)
            have HB12:=yh hb
            have hg2:=HX.out.2.1.below HB2.out
            have p02 : w2.cell? ⟨B.gx,0,none⟩ = some (.map (some B.bn)):=Kae (o:=0) hg2.box rfl
            have HLKA:=yh (hlka w2 (HB2.out.block _ HX.out.2.1.lts.2.1))
            have HSTA:=yh (StT.fresh (P:=Tryz.prog) (W:=w2) Kay hza hoa nodeZ rfl)
            have hn3:=Kah (w:=w2) (.cells xa 45)
            have p03 : (w2.alloc (.cells xa 45)).cell? ⟨B.gx,0,none⟩ = some (.map (some B.bn)):=Kae (o:=0) (hg2.below hn3).box rfl
            have HLKB:=yh (hlkb (w2.alloc (.cells xa 45)) ((hn3.block _ hg2.lts.2.1).trans (HB2.out.block _ HX.out.2.1.lts.2.1)))
            have hstb:=StT.fresh (P:=Tryz.prog) (W:=w2.alloc (.cells xa 45)) Kay hzb hob nodeZ rfl
            simp only [World.size_alloc] at hstb
            have HSTB:=yh hstb
            clear hstb
            have hb4 : Below w2.heap.size w2 ((w2.alloc (.cells xa 45)).alloc (.cells xb 45)):=Kaa hn3 (Kah _)
            have hg4:=hg2.below hb4
            have p44 : ((w2.alloc (.cells xa 45)).alloc (.cells xb 45)).cell? ⟨B.gx,4,none⟩ = some (.int .i64 g.nextRel):=Kae (o:=4) hg4.box rfl
            have HBw4:=yh (Kaa HB2.out hb4)
            have HB14:=yh (Kaa HB12.out hb4)
            clear hg2 hn3 hb4 hg4
            clear hb hnm))
        | ((with_reducible apply Kaz);exact HLKA.out;exact rfl;exact rfl;clear HLKA)
        | ((with_reducible apply Kaz);exact HLKB.out;exact rfl;exact rfl;clear HLKB)
        | ((with_reducible apply Kaq);exact HSTA.out;exact rfl;exact rfl;clear HSTA)
        | ((with_reducible apply Kaq);exact HSTB.out;exact rfl;exact rfl;clear HSTB))
       go_ret2
       exact ⟨rfl,HG.out.below HBw4.out,Kat HBw4.out⟩
     | true =>
       cases hfb : hasN g dst with
       | false =>
         rw [HD.out,if_neg HR0.out,if_pos (.inr hfb)]
         rw [hfa] at hlka
         rw [hfb] at hlkb
         clear HD hfa hfb
         go_enter Tryz.func37,Tryz.ntmps37
         go_wp2_with (first
          | (go_at_call 42;refine HNO.out.mono ?_;rintro e w0 ⟨rfl,hw0⟩;have hw0:=hw0.symm;subst hw0)
          | (go_at_call 43
             (
              refine HST.out.mono ?_
              rintro e w1 ⟨hb,_,h1⟩
              obtain ⟨v1,rfl,ho1⟩:=h1 HMS.out
              obtain ⟨pv1,cv1,rfl⟩:=ho1.slice
              have HO1:=yh ho1
              have HB1:=yh hb
              clear hb h1 ho1))
          | (go_at_call 49
             (
              have hnm:=Kce (HX.out.1.b HB1.out) type hty
              rw [HNM.out] at hnm
              refine hnm.mono ?_
              rintro e w2 ⟨rfl,hb⟩
              have HB2:=yh (Kaa HB1.out hb)
              have HB12:=yh hb
              have hg2:=HX.out.2.1.below HB2.out
              have p02 : w2.cell? ⟨B.gx,0,none⟩ = some (.map (some B.bn)):=Kae (o:=0) hg2.box rfl
              have HLKA:=yh (hlka w2 (HB2.out.block _ HX.out.2.1.lts.2.1))
              have HSTA:=yh (StT.fresh (P:=Tryz.prog) (W:=w2) Kay hza hoa nodeZ rfl)
              have hn3:=Kah (w:=w2) (.cells xa 45)
              have p03 : (w2.alloc (.cells xa 45)).cell? ⟨B.gx,0,none⟩ = some (.map (some B.bn)):=Kae (o:=0) (hg2.below hn3).box rfl
              have HLKB:=yh (hlkb (w2.alloc (.cells xa 45)) ((hn3.block _ hg2.lts.2.1).trans (HB2.out.block _ HX.out.2.1.lts.2.1)))
              have hstb:=StT.fresh (P:=Tryz.prog) (W:=w2.alloc (.cells xa 45)) Kay hzb hob nodeZ rfl
              simp only [World.size_alloc] at hstb
              have HSTB:=yh hstb
              clear hstb
              have hb4 : Below w2.heap.size w2 ((w2.alloc (.cells xa 45)).alloc (.cells xb 45)):=Kaa hn3 (Kah _)
              have hg4:=hg2.below hb4
              have p44 : ((w2.alloc (.cells xa 45)).alloc (.cells xb 45)).cell? ⟨B.gx,4,none⟩ = some (.int .i64 g.nextRel):=Kae (o:=4) hg4.box rfl
              have HBw4:=yh (Kaa HB2.out hb4)
              have HB14:=yh (Kaa HB12.out hb4)
              clear hg2 hn3 hb4 hg4
              clear hb hnm))
          | ((with_reducible apply Kaz);exact HLKA.out;exact rfl;exact rfl;clear HLKA)
          | ((with_reducible apply Kaz);exact HLKB.out;exact rfl;exact rfl;clear HLKB)
          | ((with_reducible apply Kaq);exact HSTA.out;exact rfl;exact rfl;clear HSTA)
          | ((with_reducible apply Kaq);exact HSTB.out;exact rfl;exact rfl;clear HSTB))
         go_ret2
         exact ⟨rfl,HG.out.below HBw4.out,Kat HBw4.out⟩
       | true =>
         have hr1 : ¬ (hasN g src = false ∨ hasN g dst = false):=by rw [hfa,hfb];simp
         rw [hfa] at hlka
         rw [hfb] at hlkb
         rw [HD.out,if_neg HR0.out,if_neg hr1]
         clear HD hfa hfb hr1
         cases hfl : fullD g g.nextRel with
         | true =>
           rw [if_pos rfl]
           have HFL:=yh hfl
           clear hfl
           go_enter Tryz.func37,Tryz.ntmps37
           go_wp2_with (first
            | (go_at_call 42;refine HNO.out.mono ?_;rintro e w0 ⟨rfl,hw0⟩;have hw0:=hw0.symm;subst hw0)
            | (go_at_call 43
               (
                refine HST.out.mono ?_
                rintro e w1 ⟨hb,_,h1⟩
                obtain ⟨v1,rfl,ho1⟩:=h1 HMS.out
                obtain ⟨pv1,cv1,rfl⟩:=ho1.slice
                have HO1:=yh ho1
                have HB1:=yh hb
                clear hb h1 ho1))
            | (go_at_call 49
               (
                have hnm:=Kce (HX.out.1.b HB1.out) type hty
                rw [HNM.out] at hnm
                refine hnm.mono ?_
                rintro e w2 ⟨rfl,hb⟩
                have HB2:=yh (Kaa HB1.out hb)
                have HB12:=yh hb
                have hg2:=HX.out.2.1.below HB2.out
                have p02 : w2.cell? ⟨B.gx,0,none⟩ = some (.map (some B.bn)):=Kae (o:=0) hg2.box rfl
                have HLKA:=yh (hlka w2 (HB2.out.block _ HX.out.2.1.lts.2.1))
                have HSTA:=yh (StT.fresh (P:=Tryz.prog) (W:=w2) Kay hza hoa nodeZ rfl)
                have hn3:=Kah (w:=w2) (.cells xa 45)
                have p03 : (w2.alloc (.cells xa 45)).cell? ⟨B.gx,0,none⟩ = some (.map (some B.bn)):=Kae (o:=0) (hg2.below hn3).box rfl
                have HLKB:=yh (hlkb (w2.alloc (.cells xa 45)) ((hn3.block _ hg2.lts.2.1).trans (HB2.out.block _ HX.out.2.1.lts.2.1)))
                have hstb:=StT.fresh (P:=Tryz.prog) (W:=w2.alloc (.cells xa 45)) Kay hzb hob nodeZ rfl
                simp only [World.size_alloc] at hstb
                have HSTB:=yh hstb
                clear hstb
                have hb4 : Below w2.heap.size w2 ((w2.alloc (.cells xa 45)).alloc (.cells xb 45)):=Kaa hn3 (Kah _)
                have hg4:=hg2.below hb4
                have p44 : ((w2.alloc (.cells xa 45)).alloc (.cells xb 45)).cell? ⟨B.gx,4,none⟩ = some (.int .i64 g.nextRel):=Kae (o:=4) hg4.box rfl
                have HBw4:=yh (Kaa HB2.out hb4)
                have HB14:=yh (Kaa HB12.out hb4)
                clear hg2 hn3 hb4 hg4
                clear hb hnm))
            | ((with_reducible apply Kaz);exact HLKA.out;exact rfl;exact rfl;clear HLKA)
            | ((with_reducible apply Kaz);exact HLKB.out;exact rfl;exact rfl;clear HLKB)
            | ((with_reducible apply Kaq);exact HSTA.out;exact rfl;exact rfl;clear HSTA)
            | ((with_reducible apply Kaq);exact HSTB.out;exact rfl;exact rfl;clear HSTB)
            | (go_at_call 50
               (
                have hfu:=full_any (HX.out.2.1.below HBw4.out) HX.out.2.2.2.1 g.nextRel
                rw [show (gsOf g).graph = g from rfl,HFL.out] at hfu
                refine hfu.mono ?_
                rintro e w6 ⟨rfl,hb⟩
                have HB6:=yh (Kaa HBw4.out hb)
                clear hb hfu)))
           go_ret2
           exact ⟨rfl,HG.out.below HB6.out,Kat HB6.out⟩
         | false =>
           rw [if_neg (by simp)]
           have HFL:=yh hfl
           have hnl : g.nextRel < 4611686018427387904:=by
            unfold fullD at hfl
            simp only [Bool.or_eq_false_iff,decide_eq_false_iff_not] at hfl
            omega
           have hw1 : IntKind.i64.wrap (g.nextRel + 1) = g.nextRel + 1:=by rw [IntKind.wrap_i64];have:=HNR.out.1;omega
           have hir : i64R g.nextRel:=by have:=HNR.out.1;unfold i64R;omega
           have HIR:=yh hir
           clear hfl hnl hir
           go_enter Tryz.func37,Tryz.ntmps37
           go_wp2_with (first
            | (go_at_call 42;refine HNO.out.mono ?_;rintro e w0 ⟨rfl,hw0⟩;have hw0:=hw0.symm;subst hw0)
            | (go_at_call 43
               (
                refine HST.out.mono ?_
                rintro e w1 ⟨hb,_,h1⟩
                obtain ⟨v1,rfl,ho1⟩:=h1 HMS.out
                obtain ⟨pv1,cv1,rfl⟩:=ho1.slice
                have HO1:=yh ho1
                have HB1:=yh hb
                clear hb h1 ho1))
            | (go_at_call 49
               (
                have hnm:=Kce (HX.out.1.b HB1.out) type hty
                rw [HNM.out] at hnm
                refine hnm.mono ?_
                rintro e w2 ⟨rfl,hb⟩
                have HB2:=yh (Kaa HB1.out hb)
                have HB12:=yh hb
                have hg2:=HX.out.2.1.below HB2.out
                have p02 : w2.cell? ⟨B.gx,0,none⟩ = some (.map (some B.bn)):=Kae (o:=0) hg2.box rfl
                have HLKA:=yh (hlka w2 (HB2.out.block _ HX.out.2.1.lts.2.1))
                have HSTA:=yh (StT.fresh (P:=Tryz.prog) (W:=w2) Kay hza hoa nodeZ rfl)
                have hn3:=Kah (w:=w2) (.cells xa 45)
                have p03 : (w2.alloc (.cells xa 45)).cell? ⟨B.gx,0,none⟩ = some (.map (some B.bn)):=Kae (o:=0) (hg2.below hn3).box rfl
                have HLKB:=yh (hlkb (w2.alloc (.cells xa 45)) ((hn3.block _ hg2.lts.2.1).trans (HB2.out.block _ HX.out.2.1.lts.2.1)))
                have hstb:=StT.fresh (P:=Tryz.prog) (W:=w2.alloc (.cells xa 45)) Kay hzb hob nodeZ rfl
                simp only [World.size_alloc] at hstb
                have HSTB:=yh hstb
                clear hstb
                have hb4 : Below w2.heap.size w2 ((w2.alloc (.cells xa 45)).alloc (.cells xb 45)):=Kaa hn3 (Kah _)
                have hg4:=hg2.below hb4
                have p44 : ((w2.alloc (.cells xa 45)).alloc (.cells xb 45)).cell? ⟨B.gx,4,none⟩ = some (.int .i64 g.nextRel):=Kae (o:=4) hg4.box rfl
                have HBw4:=yh (Kaa HB2.out hb4)
                have HB14:=yh (Kaa HB12.out hb4)
                clear hg2 hn3 hb4 hg4
                clear hb hnm))
            | ((with_reducible apply Kaz);exact HLKA.out;exact rfl;exact rfl;clear HLKA)
            | ((with_reducible apply Kaz);exact HLKB.out;exact rfl;exact rfl;clear HLKB)
            | ((with_reducible apply Kaq);exact HSTA.out;exact rfl;exact rfl;clear HSTA)
            | ((with_reducible apply Kaq);exact HSTB.out;exact rfl;exact rfl;clear HSTB)
            | (go_at_call 50
               (
                have hfu:=full_any (HX.out.2.1.below HBw4.out) HX.out.2.2.2.1 g.nextRel
                rw [show (gsOf g).graph = g from rfl,HFL.out] at hfu
                refine hfu.mono ?_
                rintro e w6 ⟨rfl,hb⟩
                have hb6:=Kaa HBw4.out hb
                have hg6:=HX.out.2.1.below hb6
                have p46 : w6.cell? ⟨B.gx,4,none⟩ = some (.int .i64 g.nextRel):=Kae (o:=4) hg6.box rfl
                have hb7:=Kah (w:=w6) (.cells (Ka7 ⟨g.nextRel,src,dst,type,Kbn props⟩ pv1 cv1) 49)
                have hx7:=heap_alloc_new w6 (.cells (Ka7 ⟨g.nextRel,src,dst,type,Kbn props⟩ pv1 cv1) 49)
                have hbw7:=Kaa hb6 hb7
                have hx : ROwn (w6.alloc (.cells (Ka7 ⟨g.nextRel,src,dst,type,Kbn props⟩ pv1 cv1) 49)).drew (fun b=>w.heap.size ≤ b) ⟨g.nextRel,src,dst,type,Kbn props⟩ (Ka7 ⟨g.nextRel,src,dst,type,Kbn props⟩ pv1 cv1):=⟨_,rfl,HO1.out.below Ka2 (Kaa HB14.out (Kaa hb hb7.drew))⟩
                obtain ⟨w8,r1,r2,r3,r4⟩:=HX.out.2.1.putRel HX.out.2.2.1 hbw7.drew hx HIR.out
                have HU:=yh r1
                have hfr:=StT.fresh (P:=Tryz.prog) (W:=w6) Kbb (show (Ka7 ⟨g.nextRel,src,dst,type,Kbn props⟩ pv1 cv1).size = 5 from rfl) (by simp [Ka7,Value.oneCell'])
                have HFR:=yh hfr
                have HY:=yh (And.intro hg6 (And.intro hb7 (And.intro hx7 (And.intro hbw7 (And.intro r2 (And.intro r3 r4))))))
                clear hb hfu hb6 hg6 hb7 hx7 hbw7 hx r1 r2 r3 r4 hfr))
            | ((with_reducible apply Kaq);exact HFR.out _ rfl;exact rfl;exact rfl;clear HFR))
           obtain ⟨hg6,hb7,hx7,hbw7,r2,r3,r4⟩:=HY.out
           have hg7:=hg6.below hb7
           have hw6 : (w6.alloc (.cells (Ka7 ⟨g.nextRel,src,dst,type,Kbn props⟩ pv1 cv1) 49)).heap.size = w6.heap.size + 1:=by simp
           have hS0 : (w6.alloc (.cells (Ka7 ⟨g.nextRel,src,dst,type,Kbn props⟩ pv1 cv1) 49)).drew.heap[B.gx]? = some (.cells (gBoxV B (gsOf g)) 72 (0,0)) ∧ (w6.alloc (.cells (Ka7 ⟨g.nextRel,src,dst,type,Kbn props⟩ pv1 cv1) 49)).drew.heap[w6.heap.size]? = some (.cells (Ka7 ⟨g.nextRel,src,dst,type,Kbn props⟩ pv1 cv1) 49 (0,0)):=⟨hg7.box,hx7⟩
           refine Kag (fun W=>W.heap[B.gx]? = some (.cells (gBoxV B (gsOf g)) 72 (0,0)) ∧ W.heap[w6.heap.size]? = some (.cells (Ka7 ⟨g.nextRel,src,dst,type,Kbn props⟩ pv1 cv1) 49 (0,0))) (by kernel_rfl) hS0 (fun hS=>?_)
           refine tm 0 72 (v:=.pointer (some ⟨B.gx,0,none⟩)) rfl rfl rfl ?_;simp only [zP]
           refine tk 1 73 (v:=.pointer (some ⟨B.gx,0,none⟩)) rfl rfl (fun W hW=>rfl) ?_;simp only [zP]
           refine tk 2 74 (v:=.pointer (some ⟨B.gx,1,none⟩)) rfl rfl (fun W hW=>Kab rfl rfl (Kbi 1 (by omega) _ W)) ?_;simp only [zP]
           refine tk 3 75 (v:=.map (some B.br)) rfl rfl (fun W hW=>Kac rfl rfl (Kaf (w:=W) Tryz.underlying69 rfl (Kae (o:=1) hW.1 rfl))) ?_;simp only [zP]
           refine tk 4 76 (v:=.pointer (some ⟨w6.heap.size,0,none⟩)) rfl rfl (fun W hW=>Kab rfl rfl (fa_rel0 _ W)) ?_;simp only [zP]
           refine tk 5 77 (v:=.int .i64 g.nextRel) rfl rfl (fun W hW=>Kac rfl rfl (Kaf (w:=W) Tryz.underlying2 rfl (Kae (o:=0) hW.2 rfl))) ?_;simp only [zP]
           refine tk 6 78 (v:=.agg (Ka7 ⟨g.nextRel,src,dst,type,Kbn props⟩ pv1 cv1)) rfl rfl (fun W hW=>Kac rfl rfl (Kbb.get (P:=Tryz.prog) rfl hW.2)) ?_;simp only [zP]
           refine Kbx 7 rfl rfl (by kernel_rfl) rfl (Ka9 rfl rfl rfl rfl HU.out) (.inl (by kernel_rfl)) ?_
           refine done (by kernel_rfl) ?_ _
           have hx8 : w8.heap[w6.heap.size]? = some (.cells (Ka7 ⟨g.nextRel,src,dst,type,Kbn props⟩ pv1 cv1) 49 (0,0)):=(r3.block _ (by show w6.heap.size < (w6.alloc (.cells (Ka7 ⟨g.nextRel,src,dst,type,Kbn props⟩ pv1 cv1) 49)).heap.size;omega) (by have:=hg6.lts.2.2.1;omega)).trans hx7
           have hS8 : ∀ b,w8.heap.size ≤ b → S b:=fun b hb=>HX.out.2.2.1 b (by have:=hbw7.size;have r4' : w8.heap.size = (w6.alloc (.cells (Ka7 ⟨g.nextRel,src,dst,type,Kbn props⟩ pv1 cv1) 49)).heap.size:=r4;omega)
           have hlk:=link_any r2.box r2.adj hS8 ⟨g.nextRel,src,dst,type,Kbn props⟩ pv1 cv1 HX.out.2.2.2.2.2.2
           have HLD:=yh (Kbb.get (P:=Tryz.prog) (W:=w8) rfl hx8)
           have HLK:=yh hlk
           have hT8 : Touch S w w8:=Touch.pre hbw7.drew (r3.mono fun b _ e=>by rw [e];exact HX.out.2.1.own.2.2)
           have HZ:=yh (And.intro r2 (And.intro hx8 (And.intro hT8 (show w6.heap.size < w8.heap.size by have r4' : w8.heap.size = (w6.alloc (.cells (Ka7 ⟨g.nextRel,src,dst,type,Kbn props⟩ pv1 cv1) 49)).heap.size:=r4;omega))))
           have HG6:=yh hg6
           clear hg6 hb7 hx7 hbw7 r2 r3 r4 hg7 hw6 hS0 hS hx8 hS8 hlk hT8 HY HU
           go_wp2_with (first
            | ((with_reducible apply Kao);exact HLD.out;exact rfl;clear HLD)
            | ((with_reducible apply Kaq);exact HSR.out;exact rfl;exact rfl;clear HSR)
            | (go_at_call 41
               (
                refine HLK.out.mono ?_
                rintro e w9 ⟨rfl,hl9⟩
                obtain ⟨ma9,l1,l2,l3⟩:=hl9
                have hg9:=HZ.out.1.linked l1 l2 l3
                have hT9 : Touch S w w9:=HZ.out.2.2.1.step (l3.mono fun b _ e=>e.elim (fun e=>by rw [e];exact HZ.out.1.adj.own) fun e=>(HZ.out.1.adj.block e).2.1) fun b _ hs=>hs
                have hx9 : w9.heap[w6.heap.size]? = some (.cells (Ka7 ⟨g.nextRel,src,dst,type,Kbn props⟩ pv1 cv1) 49 (0,0)):=(l3.block _ HZ.out.2.2.2 (fun e=>by
                 have hlt:=HG6.out.lts
                 rcases e with e | e
                 ·omega
                 ·exact (HZ.out.1.adj.other HZ.out.2.1 (by decide)).2 e)).trans HZ.out.2.1
                obtain ⟨w10,q1,q2,q3,q4⟩:=hg9.setNR (g.nextRel + 1)
                have p49 : w9.cell? ⟨B.gx,4,none⟩ = some (.int .i64 g.nextRel):=Kae (o:=4) hg9.box rfl
                have p010 : w10.cell? ⟨w6.heap.size,0,none⟩ = some (.int .i64 g.nextRel):=Kae (o:=0) ((q3.block _ (Array.getElem?_eq_some_iff.1 hx9).1 (fun e=>by have:=HG6.out.lts.1;omega)).trans hx9) rfl
                have HSR:=yh q1
                have HF:=yh (And.intro q2 (hT9.step (q3.mono (S':=S) fun b _ e=>by rw [e];exact hg9.own.1) fun b _ hs=>hs))
                clear l1 l2 l3 hg9 hT9 hx9 q1 q2 q3 q4)))
           go_ret2
           refine ⟨rfl,⟨ma9,?_⟩,HF.out.2⟩
           have:=HF.out.1
           have e1:=HX.out.2.2.2.2.1 ⟨g.nextRel,src,dst,type,Kbn props⟩ rfl
           have e2:=HX.out.2.2.2.2.2.1 ⟨g.nextRel,src,dst,type,Kbn props⟩ rfl
           have e3 : ({ nodes:=g.nodes,rels:=putBy RelD.id ⟨g.nextRel,src,dst,type,Kbn props⟩ g.rels,adj:=linkK (linkK (Kbu g.rels) src g.nextRel) dst g.nextRel,nn:=g.nextNode,nr:=g.nextRel + 1 } : GS) = gsOf ⟨g.nodes,g.rels ++ [⟨g.nextRel,src,dst,type,Kbn props⟩],g.nextNode,g.nextRel + 1⟩:=by
            rw [e1]
            have:=congrArg (fun s : GS=>{ s with nr:=g.nextRel + 1 }) e2
            exact this
           rw [← e3]
           exact this
end Go.Proofs.YtihfnegakcghiaaGreatDoor
namespace Go.Proofs.YtihfnegakcghiaaGreatDoor
open Go.RowKit Go.Sort
theorem row_sorted {α : Type} [Inhabited α] (enc : α → Value) {t : TypeId} {w : World} {l : List α} {g cap n q : Nat} {os : Array Obj} {d : Array α} (h : w.ownsRow 0 t 1 (.slice (some ⟨g,0,none⟩) l.length cap) l.length (l.map enc)) (hd : d.size = l.length) (hn : n ≤ d.size) {m : List α} (hm : (d.toList).take n = m) (hml : m.length = n) :
 (sortWorld enc w g 0 q d os).ownsRow 0 t 1 (.slice (some ⟨g,0,none⟩) n cap) n (m.map enc) ∧ Touch (fun b=>b = g) w (sortWorld enc w g 0 q d os):=by
 refine ⟨?_,Kdn enc w g q d os⟩
 rcases h.2 with ⟨e,_⟩ | ⟨g',cap',cur,e,_,hg,hnc,hcm,hcs,htake⟩
 ·cases e
 ·cases e
  have hrow:=Ken enc w g q d os hg
  refine ⟨by simp [hml],.inr ⟨g,cap,_,rfl,Nat.zero_le _,hrow,by omega,hcm,?_,?_⟩⟩
  ·rw [putCells_size];exact hcs
  ·rw [Nat.mul_one,putCells_take enc (by rw [hcs,Nat.mul_one];omega) hn,← hm,List.map_take]
theorem delI_any {w : World} {v : Value} {n i : Nat} {l : List Int} (hown : w.ownsRow 0 2 1 v n (l.map (Value.int .i64))) (hi : i < n) :
 Calls Tryz.prog 97 #[v,.int .i64 (i : Int),.int .i64 ((i : Int) + 1)] w fun e w'=>∃ v',e = .returned v' ∧ w'.ownsRow 0 2 1 v' (n - 1) ((l.eraseIdx i).map (Value.int .i64)) ∧ Touch (fun b=>v.ownBlock = some b) w w' ∧ v'.ownBlock = v.ownBlock:=by
 have hl : l.length = n:=by have:=hown.1;simpa using this
 rcases hown.2 with ⟨rfl,rfl⟩ | ⟨g,cap,cur,rfl,_,hg,hnc,hcm,hcs,ht⟩
 ·omega
 ·have hh : Holds (Value.int .i64) w g 0 l.toArray:=by
   intro j hj
   have hj2 : j < l.length:=by simpa using hj
   refine ⟨?_,by rw [Nat.zero_add];exact Kbs hg⟩
   have:=hown.cells (g:=g) rfl j (.int .i64 l[j]) (by simp [hj2])
   rw [Kau] at this
   rw [getElem!_pos _ j hj]
   simpa using this
  obtain ⟨i0,e1,e2,e3,e4⟩:=info_i64
  have h0:=AnyE.slices_Delete Tryz.deleteI (Value.int .i64) (fun _=>rfl) 0 (fun w=>Tryz.zeroValue2 w) i0 e1 e3 g 0 cap i (i + 1) l.toArray w hh (by simpa [hl] using hnc) (by unfold maxLen at hcm;omega) (by omega) (by simp [hl];omega)
  have hsz : l.toArray.size = n:=by simpa using hl
  have hii : ((i + 1 : Nat) : Int) = (i : Int) + 1:=by omega
  rw [hsz,hii] at h0
  have h1 : n - (i + 1 - i) = n - 1:=by omega
  rw [h1] at h0
  refine h0.mono ?_
  rintro e w' ⟨rfl,q,rfl⟩
  have he : l.toArray.toList.take i ++ l.toArray.toList.drop (i + 1) = l.eraseIdx i:=by simp [List.eraseIdx_eq_take_drop_succ]
  have hlen : (l.eraseIdx i).length = n - 1:=by rw [List.length_eraseIdx_of_lt (by omega),hl]
  rw [he]
  subst hl
  obtain ⟨r1,r2⟩:=row_sorted (Value.int .i64) (q:=q) (os:=#[]) (n:=l.length - 1) (d:=(l.eraseIdx i ++ List.replicate (i + 1 - i) 0).toArray) hown (by simp [hlen];omega) (by simp [hlen]) (m:=l.eraseIdx i) (by simp only;rw [← hlen];simp) hlen
  have e0 : sortWorld (Value.int .i64) w g 0 q (l.eraseIdx i ++ List.replicate (i + 1 - i) 0).toArray #[] = putRow (Value.int .i64) (Sort.ahead w q) g 0 (l.eraseIdx i ++ List.replicate (i + 1 - i) 0).toArray:=by
   unfold sortWorld grow
   rw [Array.append_empty]
  rw [e0] at r1 r2
  exact ⟨_,rfl,r1,r2.mono fun b _ hb=>by rw [hb];rfl,rfl⟩
theorem erase_rise {x : Int} : ∀ {l : List Int},l.Pairwise (· < ·) → x ∈ l → l.eraseIdx (l.countP (· < x)) = l.filter fun y=>!decide (y = x)
 | [],_,h=>by simp at h
 | a :: l,h,hx=>by
   have h2:=List.pairwise_cons.1 h
   by_cases ha : a < x
   ·rw [List.countP_cons_of_pos (by simpa using ha),List.eraseIdx_cons_succ,List.filter_cons_of_pos (by simp;omega)]
    rcases List.mem_cons.1 hx with rfl | hx
    ·omega
    ·rw [erase_rise h2.2 hx]
   ·have hax : a = x:=by
     rcases List.mem_cons.1 hx with e | hx
     ·exact e.symm
     ·have:=h2.1 x hx;omega
    subst hax
    have h0 : l.countP (· < a) = 0:=by
     rw [List.countP_eq_zero]
     intro b hb
     have:=h2.1 b hb
     simp;omega
    rw [List.countP_cons_of_neg (by simp),h0,List.eraseIdx_cons_zero,List.filter_cons_of_neg (by simp)]
    exact (List.filter_eq_self.2 fun b hb=>by have:=h2.1 b hb;simp;omega).symm
theorem cutK_none {f : Int → List Int} {k x : Int} (h : (f k).contains x = false) : cutK f k x = f:=by
 unfold cutK
 have hx : x ∉ f k:=by simpa using h
 have : (f k).filter (fun y=>!decide (y = x)) = f k:=List.filter_eq_self.2 fun y hy=>by
  have : y ≠ x:=fun e=>hx (by rw [← e];exact hy)
  simp [this]
 rw [this,setI_id]
theorem row_cut {S : Nat → Prop} {w1 W : World} {ba : Nat} {ma maj : Int → Option Value} {f : Int → List Int} {k x : Int} (hA : AtM S W ba maj f) (hsub : ∀ b,b < w1.heap.size → Rows maj b → Rows ma b) (hT : Touch (fun b=>b = ba ∨ Rows ma b) w1 W) (hS : ∀ b,W.heap.size ≤ b → S b) (hc : (f k).contains x = true) :
 Calls Tryz.prog 97 #[rowAt maj k,.int .i64 (((f k).countP (· < x) : Nat) : Int),.int .i64 ((((f k).countP (· < x) : Nat) : Int) + 1)] W.drew fun e W15=>∃ v',e = .returned v' ∧ (∀ b,b < W.heap.size → ¬ Rows maj b → W15.heap[b]? = W.heap[b]?) ∧
  ∃ W16,(Instr.mapUpdate 70 (.map (some ba)) (.int .i64 k) v').run Tryz.prog W15 = .ok () W16 ∧ LInv S w1 W16 ba ma (cutK f k x):=by
 have hAc:=hA.below (Below.refl _ W).drew
 have hrow:=hAc.row k
 have hRW : ∀ b,(rowAt maj k).ownBlock = some b → Rows maj b:=fun b hb=>by
  unfold rowAt at hb
  cases e : maj k with
  | none=>rw [e] at hb;simp [Value.ownBlock] at hb
  | some u=>rw [e] at hb;exact ⟨k,u,e,hb⟩
 have hx : x ∈ f k:=by simpa using hc
 have hlt : (f k).countP (· < x) < (f k).length:=by
  have h1 : (f k).countP (· < x) ≤ (f k).length:=List.countP_le_length
  rcases Nat.lt_or_eq_of_le h1 with h | h
  ·exact h
  ·rw [List.countP_eq_length] at h
   have:=h x hx
   simp at this
 refine (delI_any hrow.1 hlt).mono ?_
 rintro e W15 ⟨v',rfl,i1,i2,i3⟩
 rw [erase_rise (hA.rise k) hx] at i1
 have hlen : (f k).length - 1 = ((f k).filter fun y=>!decide (y = x)).length:=by
  have:=i1.1
  simpa using this.symm
 rw [hlen] at i1
 refine ⟨v',rfl,fun b hb hn=>i2.block b hb fun e=>hn (hRW b e),?_⟩
 obtain ⟨W16,m1,m2,m3,m4⟩:=hAc.set (P:=Tryz.prog) (fun b hb=>hS b hb) Tryz.underlying70 Tryz.underlying2 i2 i1 (.inl i3) (List.Pairwise.sublist List.filter_sublist (hA.rise k)) (Nat.le_trans (List.length_filter_le _ _) (hA.few k))
 have hTC : Touch (fun b=>b = ba ∨ Rows ma b) w1 W.drew:=hT.grow (Below.refl _ W).drew
 refine ⟨W16,m1,_,m2,fun b hb hr=>hsub b hb (m3 b (Nat.lt_of_lt_of_le hb hTC.size) hr),hTC.step m4 fun b hb e=>?_⟩
 rcases e with e | e
 ·exact .inl e
 ·exact .inr (hsub b hb e)
def cutJ (f : Int → List Int) (src dst r : Int) (j : Nat) : Int → List Int:=([src,dst].take j).foldl (fun f k=>cutK f k r) f
theorem cutJ_succ (f : Int → List Int) {src dst r : Int} {j : Nat} {k : Int} (h : [src,dst][j]? = some k) : cutJ f src dst r (j + 1) = cutK (cutJ f src dst r j) k r:=by
 unfold cutJ
 rw [List.take_add_one,h]
 simp
theorem cutJ_two (f : Int → List Int) (src dst r : Int) : cutJ f src dst r 2 = cutK (cutK f src r) dst r:=rfl
section
variable {P : Program} {ops : Array Oper} {rest : List Oper} {Q : Exit → Act → World → Prop} {a : Act} {w w' : World} {ty : TypeId} {pos : String} {af : Array Edge} {t u : TypeId} {x y : Operand} {v m k : Value}
theorem op_delete (hr : (Builtin.delete_ #[t,u] ty #[m,k]).run P w = .ok v w') (hx : a.eval x = m) (hy : a.eval y = k) (h : wpList P ops Q rest a w') :
 wpList P ops Q (⟨none,.call { callee:=.builtin .delete,args:=#[x,y],argTypes:=#[t,u] },ty,pos,af,none⟩ :: rest) a w:=Kca rfl (exec_delete rfl hx hy hr) h
end
end Go.Proofs.YtihfnegakcghiaaGreatDoor
namespace Go.Proofs.YtihfnegakcghiaaGreatDoor
open Go.RowKit
def relZ : Array Value:=#[.int .i64 0,.int .i64 0,.int .i64 0,.string ⟨#[]⟩,.slice none 0 0]
def hasR (g : GraphD) (k : Int) : Bool:=g.rels.any fun r=>r.id == k
theorem GM.lookR {S : Nat → Prop} {W : World} {B : GB} {ma : Int → Option Value} {s : GS} (h : GM S W B ma s) (k : Int) :
 ∃ x,x.size = 5 ∧ (∀ u ∈ x.toList,u.oneCell' = true) ∧ (∀ W' : World,W'.heap[B.br]? = W.heap[B.br]? → (Instr.lookup 69 (.map (some B.br)) (.int .i64 k) true).run Tryz.prog W' = .ok (.tuple #[.agg x,.bool (hasR s.graph k)]) W') ∧ (∀ a ∈ s.rels,a.id = k → ROwn W (fun b=>S b ∧ ¬ GSp B ma b) a x) ∧ (hasR s.graph k = false → x = relZ):=by
 obtain ⟨x,h1,h2,h3⟩:=h.rels.get2 (P:=Tryz.prog) Tryz.underlying69 Tryz.underlying2 (z:=relZ) (fun w=>Tryz.zeroValue49 w) k
 have hh : hasR s.graph k = s.rels.any fun a=>a.id == k:=rfl
 rw [← hh] at h1 h3
 refine ⟨x,?_,?_,h1,h2,h3⟩
 ·cases hf : hasR s.graph k with
  | false=>rw [h3 hf];rfl
  | true =>
    rw [hh,List.any_eq_true] at hf
    obtain ⟨a,ha,e⟩:=hf
    exact Ka8.size (h2 a ha (by simpa using e))
 ·cases hf : hasR s.graph k with
  | false=>rw [h3 hf];simp [relZ,Value.oneCell']
  | true =>
    rw [hh,List.any_eq_true] at hf
    obtain ⟨a,ha,e⟩:=hf
    exact Ka8.ones (h2 a ha (by simpa using e))
theorem dropD_rel (g : GraphD) (i : Int) : dropD g true i = if hasR g i = false then (g,5) else (⟨g.nodes,g.rels.filter fun r=>!(r.id == i),g.nextNode,g.nextRel⟩,0):=by
 unfold dropD hasR
 simp only [if_true]
 cases g.rels.any fun r=>r.id == i <;> rfl
theorem dropD_node (g : GraphD) (i : Int) : dropD g false i = if hasN g i = false then (g,5) else if Kbu g.rels i ≠ [] then (g,150) else (⟨g.nodes.filter fun n=>!(n.id == i),g.rels,g.nextNode,g.nextRel⟩,0):=by
 unfold dropD
 rw [if_neg (by simp)]
theorem dropN_any {S : Nat → Prop} {w : World} {B : GB} {g : GraphD} (hg : GG S w B g) (hS : ∀ b,w.heap.size ≤ b → S b) (hok : okG g = true) (i : Int) :
 Calls Tryz.prog 38 #[.pointer (some ⟨B.gx,0,none⟩),.bool false,.int .i64 i] w fun e w'=>e = .returned (.int .i64 (dropD g false i).2) ∧ GG S w' B (dropD g false i).1 ∧ Touch S w w':=by
 have HG:=yh hg
 obtain ⟨ma,h⟩:=hg
 obtain ⟨⟨k1,_⟩,_⟩:=(Kch _).1 hok
 have HNO:=yh (none_no h.box)
 obtain ⟨xa,hza,hoa,hlka,_,_⟩:=h.look i
 have hgr : (gsOf g).graph = g:=rfl
 rw [hgr] at hlka
 have hlk0:=hlka w rfl
 have hb1:=Kah (w:=w) (.cells xa 45)
 have h1:=h.below hb1
 have HSTA:=yh (StT.fresh (P:=Tryz.prog) (W:=w) Kay hza hoa nodeZ rfl)
 have p0 : w.cell? ⟨B.gx,0,none⟩ = some (.map (some B.bn)):=Kae (o:=0) h.box rfl
 rw [dropD_node]
 have hrl:=touchD_len g.rels i
 cases hfa : hasN g i with
 | false =>
   rw [hfa] at hlk0
   have HLKA:=yh hlk0
   have HB1:=yh hb1
   rw [if_pos rfl]
   clear hlk0 hlka h h1 hb1 hgr hza hoa k1 hok hfa hrl
   go_enter Tryz.func38,Tryz.ntmps38
   go_wp2_with (first
    | (go_at_call 42;refine HNO.out.mono ?_;rintro e w0 ⟨rfl,hw0⟩;have hw0:=hw0.symm;subst hw0)
    | ((with_reducible apply Kaz);exact HLKA.out;exact rfl;exact rfl;clear HLKA)
    | ((with_reducible apply Kaq);exact HSTA.out;exact rfl;exact rfl;clear HSTA))
   go_ret
   exact ⟨rfl,HG.out.below HB1.out,Kat HB1.out⟩
 | true =>
   rw [hfa] at hlk0
   have HLKA:=yh hlk0
   rw [if_neg (by simp)]
   have p01 : (w.alloc (.cells xa 45)).cell? ⟨B.gx,0,none⟩ = some (.map (some B.bn)):=Kae (o:=0) h1.box rfl
   have p21 : (w.alloc (.cells xa 45)).cell? ⟨B.gx,2,none⟩ = some (.map (some B.ba)):=Kae (o:=2) h1.box rfl
   have hrw:=h1.adj.row i
   obtain ⟨pr,cr,hre⟩:=Kbt hrw
   have hlr : (Instr.lookup 70 (.map (some B.ba)) (.int .i64 i) false).run Tryz.prog (w.alloc (.cells xa 45)) = .ok (.slice pr (Kbu g.rels i).length cr) (w.alloc (.cells xa 45)):=by rw [look_row h1.adj.map i,hre];rfl
   have HLKR:=yh hlr
   by_cases ht : Kbu g.rels i = []
   ·rw [if_neg (by simp [ht])]
    have hz : (Kbu g.rels i).length = 0:=by rw [ht];rfl
    rw [hz] at HLKR
    obtain ⟨w2,d1,d2,d3,d4⟩:=h1.delNode i 45 0
    have hdel:=fun T2 ty=>h1.delNode i T2 ty
    have HDEL:=yh (fun T2 ty=>h1.delNode i T2 ty)
    have HH:=yh (And.intro h hb1)
    have HT:=yh ht
    clear hlk0 hlka h h1 hb1 hgr hza hoa k1 hok hfa hrw hre hlr hz ht d1 d2 d3 d4 hdel hrl w2
    obtain ⟨TN,hTN⟩ : ∃ T : TypeId,T = 2:=⟨_,rfl⟩
    obtain ⟨w2,d1,d2,d3,d4⟩:=HDEL.out 2 0
    have p22 : w2.cell? ⟨B.gx,2,none⟩ = some (.map (some B.ba)):=Kae (o:=2) d2.box rfl
    obtain ⟨w3,ma3,q1,q2,q3,q4,q5⟩:=d2.delRow i 2 0
    have HD1:=yh d1
    have HD2:=yh q1
    have HF:=yh (And.intro q2 (And.intro (d3.mono (S':=S) fun b _ e=>by rw [e];exact HH.out.1.own.2.1) (q4.mono (S':=S) fun b _ e=>by rw [e];exact HH.out.1.adj.own)))
    clear d1 d2 d3 d4 q1 q2 q3 q4 q5 hTN
    go_enter Tryz.func38,Tryz.ntmps38
    go_wp2_with (first
     | (go_at_call 42;refine HNO.out.mono ?_;rintro e w0 ⟨rfl,hw0⟩;have hw0:=hw0.symm;subst hw0)
     | ((with_reducible apply Kaz);exact HLKA.out;exact rfl;exact rfl;clear HLKA)
     | ((with_reducible apply Kaq);exact HSTA.out;exact rfl;exact rfl;clear HSTA)
     | ((with_reducible apply Kaz);exact HLKR.out;exact rfl;exact rfl;clear HLKR)
     | ((with_reducible apply op_delete);exact HD1.out;exact rfl;exact rfl;clear HD1)
     | ((with_reducible apply op_delete);exact HD2.out;exact rfl;exact rfl;clear HD2))
    go_ret
    refine ⟨rfl,⟨ma3,?_⟩,Touch.pre HH.out.2 (HF.out.2.1.step HF.out.2.2 fun b _ hs=>hs)⟩
    have hq:=HF.out.1
    have e : setI (gsOf g).adj i [] = Kbu g.rels:=by
     funext j
     unfold setI
     split
     ·rename_i e;rw [e,HT.out]
     ·rfl
    rw [e] at hq
    exact hq
   ·rw [if_pos ht]
    have hz : (0 : Int) < ((Kbu g.rels i).length : Int):=by
     cases hl : Kbu g.rels i with
     | nil=>exact absurd hl ht
     | cons a r=>simp
    have HB1:=yh hb1
    generalize (Kbu g.rels i).length = tn at *
    clear hlk0 hlka h h1 hb1 hgr hza hoa k1 hok hfa hrw hre hlr ht
    go_enter Tryz.func38,Tryz.ntmps38
    go_wp2_with (first
     | (go_at_call 42;refine HNO.out.mono ?_;rintro e w0 ⟨rfl,hw0⟩;have hw0:=hw0.symm;subst hw0)
     | ((with_reducible apply Kaz);exact HLKA.out;exact rfl;exact rfl;clear HLKA)
     | ((with_reducible apply Kaq);exact HSTA.out;exact rfl;exact rfl;clear HSTA)
     | ((with_reducible apply Kaz);exact HLKR.out;exact rfl;exact rfl;clear HLKR))
    go_ret
    exact ⟨rfl,HG.out.below HB1.out,Kat HB1.out⟩
theorem dropR_any {S : Nat → Prop} {w : World} {B : GB} {g : GraphD} (hg : GG S w B g) (hS : ∀ b,w.heap.size ≤ b → S b) (hok : okG g = true) (i : Int) :
 Calls Tryz.prog 38 #[.pointer (some ⟨B.gx,0,none⟩),.bool true,.int .i64 i] w fun e w'=>e = .returned (.int .i64 (dropD g true i).2) ∧ GG S w' B (dropD g true i).1 ∧ Touch S w w':=by
 have HG:=yh hg
 obtain ⟨ma,h⟩:=hg
 obtain ⟨⟨k1,_⟩,_,_,_,k9⟩:=(Kch _).1 hok
 have HNO:=yh (none_no h.box)
 obtain ⟨xa,hza,hoa,hlka,hown,_⟩:=h.lookR i
 have hgr : (gsOf g).graph = g:=rfl
 rw [hgr] at hlka
 have hlk0:=hlka w rfl
 have p0 : w.cell? ⟨B.gx,1,none⟩ = some (.map (some B.br)):=Kae (o:=1) h.box rfl
 rw [dropD_rel]
 cases hfa : hasR g i with
 | false =>
   rw [hfa] at hlk0
   have HLKA:=yh hlk0
   have HB1:=yh (Kah (w:=w) (.cells xa 49))
   have HSTA:=yh (StT.fresh (P:=Tryz.prog) (W:=w) Kbb hza hoa relZ rfl)
   rw [if_pos rfl]
   clear hlk0 hlka h hgr hza hoa k1 k9 hok hfa hown
   go_enter Tryz.func38,Tryz.ntmps38
   go_wp2_with (first
    | (go_at_call 42;refine HNO.out.mono ?_;rintro e w0 ⟨rfl,hw0⟩;have hw0:=hw0.symm;subst hw0)
    | ((with_reducible apply Kaz);exact HLKA.out;exact rfl;exact rfl;clear HLKA)
    | ((with_reducible apply Kaq);exact HSTA.out;exact rfl;exact rfl;clear HSTA))
   go_ret
   exact ⟨rfl,HG.out.below HB1.out,Kat HB1.out⟩
 | true =>
   rw [hfa] at hlk0
   have HLKA:=yh hlk0
   rw [if_neg (by simp)]
   obtain ⟨r,hr,hri⟩ : ∃ r ∈ g.rels,r.id = i:=by
    unfold hasR at hfa
    rw [List.any_eq_true] at hfa
    obtain ⟨r,hr,e⟩:=hfa
    exact ⟨r,hr,by simpa using e⟩
   obtain ⟨vp,exa,hvp⟩:=hown r hr hri
   obtain ⟨pp,cp,rfl⟩:=hvp.slice
   have exa2 : xa = Ka7 r pp cp:=exa
   rw [exa2] at HLKA
   obtain ⟨w1,hbs,hg1,hr1,hp1,hs1,hbc,hL1⟩:=link_start h.box h.adj r pp cp
   have HSTA:=yh (StT.fresh (P:=Tryz.prog) (W:=w) Kbb (show (Ka7 r pp cp).size = 5 from rfl) (by simp [Ka7,Value.oneCell']) relZ rfl)
   have hx8:=heap_alloc_new w (.cells (Ka7 r pp cp) 49)
   have p1 : (w.alloc (.cells (Ka7 r pp cp) 49)).cell? ⟨w.heap.size,1,none⟩ = some (.int .i64 r.src):=Kae (o:=1) hx8 rfl
   have p2 : (w.alloc (.cells (Ka7 r pp cp) 49)).cell? ⟨w.heap.size,2,none⟩ = some (.int .i64 r.dst):=Kae (o:=2) hx8 rfl
   have HBS:=yh hbs
   have HH:=yh (And.intro h hbc)
   have HB0:=yh h.adj
   have HG1:=yh hg1
   have HG0:=yh h.box
   have HP:=yh hp1
   have HS1:=yh hs1
   have HS:=yh hS
   have HL1:=yh hL1
   have HADJ:=yh (adj_drop (s:=gsOf g) (fun j=>rfl) (Kbj _ k9) hr)
   have HRI:=yh hri
   clear hlk0 hlka h hgr hza hoa k1 k9 hok hfa hown hr hvp exa exa2 hbs hg1 hr1 hp1 hs1 hbc hL1 hx8 hS hri
   go_enter Tryz.func38,Tryz.ntmps38
   go_wp2_with (first
    | (go_at_call 42;refine HNO.out.mono ?_;rintro e w0 ⟨rfl,hw0⟩;have hw0:=hw0.symm;subst hw0)
    | ((with_reducible apply Kaz);exact HLKA.out;exact rfl;exact rfl;clear HLKA)
    | ((with_reducible apply Kaq);exact HSTA.out;exact rfl;exact rfl;clear HSTA)
    | ((with_reducible apply op_bs2);exact HBS.out;exact rfl;exact rfl;clear HBS))
   clear p0 p1 p2
   go_loopw [65] (fun i wr=>∃ j : Nat,j ≤ 2 ∧ i = .int .i64 (j : Int) ∧ Hid (LInv S w1 wr B.ba ma (cutJ (Kbu g.rels) r.src r.dst r.id j))) (fun i _=>2 - (intOf i).toNat)
   case atStart=>exact ⟨0,Nat.zero_le _,rfl,HL1⟩
   case round =>
    obtain ⟨j,hj,rfl,HJ⟩:=hrel
    by_cases hlt : j < 2
    ·obtain ⟨maj,hA,hsub,hT⟩:=HJ.out
     obtain ⟨k,hk⟩ : ∃ k,[r.src,r.dst][j]? = some k:=⟨_,List.getElem?_eq_getElem (by simpa using hlt)⟩
     have hnx:=cutJ_succ (Kbu g.rels) (r:=r.id) hk
     have hs1:=HS1.out
     have hgx : wr.heap[B.gx]? = some (.cells (gBoxV B (gsOf g)) 72 (0,0)):=HJ.out.box HB0.out HG0.out HG1.out
     have hpb : wr.heap[w.heap.size + 1]? = some (.cells #[.int .i64 r.src,.int .i64 r.dst] 2 (0,0)):=(HJ.out.far HB0.out (by omega) (by omega)).trans HP.out
     have HC:=yh (Kaf (w:=wr) (ad:=⟨w.heap.size + 1,j,none⟩) Tryz.underlying2 rfl (Kae (o:=j) hpb (by
      have : (#[Value.int .i64 r.src,.int .i64 r.dst] : Array Value)[j]? = ([r.src,r.dst][j]?).map (Value.int .i64):=by
       match j,hlt with
       | 0,_=>rfl
       | 1,_=>rfl
      rw [this,hk];rfl)))
     have hsea : ∀ W,Below wr.heap.size wr W → Calls Tryz.prog 96 #[rowAt maj k,.int .i64 r.id] W fun e w'=>e = .returned (.tuple #[.int .i64 (((cutJ (Kbu g.rels) r.src r.dst r.id j k).countP (· < r.id) : Nat) : Int),.bool ((cutJ (Kbu g.rels) r.src r.dst r.id j k).contains r.id)]) ∧ Below W.heap.size W w':=fun W g=>by
      have hA2:=hA.below g
      have h2:=hA2.row k
      refine (search_any r.id h2.1 (hA2.rise k) (hA2.few k)).mono ?_
      rintro e w' ⟨rfl,q,rfl⟩
      exact ⟨rfl,below_drewN _ q⟩
     have hfew:=hA.few k
     have hSw : ∀ b,wr.heap.size ≤ b → S b:=fun b hb=>HS.out b (by have:=hT.size;omega)
     have hgn:=hA.other hgx (by decide)
     have hlt1:=Nat.succ_le_of_lt hlt
     have hcut:=fun W8 (hA8 : AtM S W8 B.ba maj (cutJ (Kbu g.rels) r.src r.dst r.id j)) (hT8 : Touch (fun b=>b = B.ba ∨ Rows ma b) w1 W8) (hS8 : ∀ b,W8.heap.size ≤ b → S b) hc=>row_cut (k:=k) (x:=r.id) hA8 hsub hT8 hS8 hc
     have hcno:=fun hc=>cutK_none (f:=cutJ (Kbu g.rels) r.src r.dst r.id j) (k:=k) (x:=r.id) hc
     have hcp : (cutJ (Kbu g.rels) r.src r.dst r.id j k).countP (· < r.id) ≤ 1100000:=Nat.le_trans List.countP_le_length hfew
     have HRI2:=HRI.out
     rw [HRI.out] at hsea hcut hcno hcp hnx
     generalize hfj : cutJ (Kbu g.rels) r.src r.dst i j = fj at *
     have hri3 : cutJ (Kbu g.rels) r.src r.dst r.id j = fj:=by rw [HRI.out];exact hfj
     rw [hri3] at hA
     obtain ⟨rv,hrv⟩ : ∃ rv,rv = rowAt maj k:=⟨_,rfl⟩
     obtain ⟨pp2,hpp⟩ : ∃ pp,pp = (fj k).countP (· < i):=⟨_,rfl⟩
     obtain ⟨bb,hbb⟩ : ∃ bb,bb = (fj k).contains i:=⟨_,rfl⟩
     simp only [← hrv,← hpp,← hbb,hri3] at hsea
     rw [← hpp] at hcp
     have hlk : ∀ W : World,IntMap W B.ba maj → (Instr.lookup 70 (.map (some B.ba)) (.int .i64 k) false).run Tryz.prog W = .ok rv W:=fun W hW=>by rw [hrv];exact look_row hW k
     have p20 : wr.cell? ⟨B.gx,2,none⟩ = some (.map (some B.ba)):=Kae (o:=2) hgx rfl
     have HLK:=yh (hlk wr hA.map)
     have HSEA:=yh (hsea wr (Below.refl _ _))
     have HX:=yh (And.intro hA (And.intro hsub (And.intro hT (And.intro hnx (And.intro hgx (And.intro hSw (And.intro hgn (And.intro hlk (And.intro hrv (And.intro hpp (And.intro hbb hri3)))))))))))
     have HCUT:=yh (And.intro hcut hcno)
     clear hA hsub hT hnx hs1 hgx hpb hsea hSw hgn hlk hrv hpp hk hfj hcut hcno hfew hri3 HRI2
     cases bb with
     | false =>
       have HBB:=yh hbb
       clear hbb hcp
       go_wp2_with (first
        | ((with_reducible apply Kao);exact HC.out;exact rfl;clear HC)
        | ((with_reducible apply Kaz);exact HLK.out;exact rfl;exact rfl;clear HLK)
        | (go_at_call 96;refine HSEA.out.mono ?_;rintro e W8 ⟨rfl,hb⟩;have HB8:=yh hb;clear hb))
       go_roundw
       case rel =>
        refine ⟨j + 1,hlt1,by go_num,yh ?_⟩
        obtain ⟨hA,hsub,hT,hnx,_⟩:=HX.out
        rw [HRI.out,hnx,HCUT.out.2 HBB.out.symm]
        exact ⟨maj,hA.below HB8.out,hsub,hT.grow HB8.out⟩
       case measure=>simp [intOf];omega
     | true =>
       have HBB:=yh hbb
       have hw1 : IntKind.i64.wrap ((pp2 : Int) + 1) = (pp2 : Int) + 1:=by rw [IntKind.wrap_i64];omega
       have hadd1 : ∀ W : World,(binOp .add 3 (.int .i64 (pp2 : Int)) (.int .i64 1)).run Tryz.prog W = .ok (.int .i64 ((pp2 : Int) + 1)) W:=fun W=>by simp [go_sem,hw1]
       have HADD:=yh hadd1
       clear hbb hcp hw1 hadd1
       go_wp2_with (first
        | ((with_reducible apply Kao);exact HC.out;exact rfl;clear HC)
        | ((with_reducible apply Kaz);exact HLK.out;exact rfl;exact rfl;clear HLK)
        | (go_at_call 96;refine HSEA.out.mono ?_;rintro e W8 ⟨rfl,hb⟩;have HB8:=yh hb;clear hb))
       obtain ⟨hA,hsub,hT,hnx,hgx,hSw,hgn,hlk,hrv,hpp,hbb2,hri3⟩:=HX.out
       have hA8:=hA.below HB8.out
       have hT8:=hT.grow HB8.out
       have hSw8 : ∀ b,W8.heap.size ≤ b → S b:=fun b hb=>hSw b (by have:=HB8.out.size;omega)
       have hg8 : W8.heap[B.gx]? = some (.cells (gBoxV B (gsOf g)) 72 (0,0)):=Kaj HB8.out (Array.getElem?_eq_some_iff.1 hgx).1 hgx
       have c3:=HCUT.out.1 W8 hA8 hT8 hSw8 HBB.out.symm
       have hadd:=HADD.out
       simp only [← hrv,← hpp] at c3
       have hS0 : W8.drew.heap[B.gx]? = some (.cells (gBoxV B (gsOf g)) 72 (0,0)) ∧ IntMap W8.drew B.ba maj:=⟨hg8,hA8.map.of_heap rfl⟩
       refine Kag (fun W=>W.heap[B.gx]? = some (.cells (gBoxV B (gsOf g)) 72 (0,0)) ∧ IntMap W B.ba maj) (by kernel_rfl) hS0 (fun hS=>?_)
       refine tm 0 81 (v:=.pointer (some ⟨B.gx,0,none⟩)) rfl rfl rfl ?_;simp only [zP]
       refine tk 1 82 (v:=.pointer (some ⟨B.gx,0,none⟩)) rfl rfl (fun W hW=>rfl) ?_;simp only [zP]
       refine tk 2 83 (v:=.pointer (some ⟨B.gx,2,none⟩)) rfl rfl (fun W hW=>Kab rfl rfl (Kbi 2 (by omega) _ W)) ?_;simp only [zP]
       refine tk 3 84 (v:=.map (some B.ba)) rfl rfl (fun W hW=>Kac rfl rfl (Kaf (w:=W) Tryz.underlying70 rfl (Kae (o:=2) hW.1 rfl))) ?_;simp only [zP]
       refine tm 4 85 (v:=.int .i64 k) rfl rfl rfl ?_;simp only [zP]
       refine tm 5 86 (v:=.pointer (some ⟨B.gx,0,none⟩)) rfl rfl rfl ?_;simp only [zP]
       refine tk 6 87 (v:=.pointer (some ⟨B.gx,0,none⟩)) rfl rfl (fun W hW=>rfl) ?_;simp only [zP]
       refine tk 7 88 (v:=.pointer (some ⟨B.gx,2,none⟩)) rfl rfl (fun W hW=>Kab rfl rfl (Kbi 2 (by omega) _ W)) ?_;simp only [zP]
       refine tk 8 89 (v:=.map (some B.ba)) rfl rfl (fun W hW=>Kac rfl rfl (Kaf (w:=W) Tryz.underlying70 rfl (Kae (o:=2) hW.1 rfl))) ?_;simp only [zP]
       refine tm 9 90 (v:=.int .i64 k) rfl rfl rfl ?_;simp only [zP]
       refine tk 10 91 (v:=rv) rfl rfl (fun W hW=>Kcm rfl rfl rfl (hlk W hW.2)) ?_;simp only [zP]
       refine tm 11 92 (v:=.int .i64 (pp2 : Int)) rfl rfl rfl ?_;simp only [zP]
       refine tm 12 93 (v:=.int .i64 (pp2 : Int)) rfl rfl rfl ?_;simp only [zP]
       refine tk 13 94 (v:=.int .i64 ((pp2 : Int) + 1)) rfl rfl (fun W hW=>Kal rfl rfl rfl (hadd W)) ?_;simp only [zP]
       refine Kan 14 95 rfl rfl (by kernel_rfl) rfl (Kam [rv,.int .i64 (pp2 : Int),.int .i64 ((pp2 : Int) + 1)] rfl rfl Tryz.func97 (by kernel_rfl) (by kernel_rfl)) ?_
       refine c3.mono ?_
       rintro e W15 ⟨v15,rfl,m0,W16,m1,m2⟩
       have hS15 : W15.heap[B.gx]? = some (.cells (gBoxV B (gsOf g)) 72 (0,0)) ∧ IntMap W15 B.ba maj:=⟨(m0 _ (Array.getElem?_eq_some_iff.1 hg8).1 hgn.2).trans hg8,hA8.map.of_heap (m0 _ hA8.map.lt hA8.ne)⟩
       refine ⟨_,rfl,.inr hS15,?_⟩;simp only [zP]
       refine Kbx 15 rfl rfl (by kernel_rfl) rfl (Ka9 rfl rfl rfl rfl m1) (.inl (by kernel_rfl)) ?_
       refine done (by kernel_rfl) ?_ _
       have HN:=yh (show LInv S w1 W16 B.ba ma (cutJ (Kbu g.rels) r.src r.dst r.id (j + 1)) from by rw [HRI.out,hnx];exact m2)
       clear hA hsub hT hnx hgx hSw hgn hlk hrv hpp hbb2 hri3 hA8 hT8 hSw8 hg8 c3 hadd hS0 hS m0 m1 m2 hS15
       go_wp2
       go_roundw
       case rel=>exact ⟨j + 1,hlt1,by go_num,HN⟩
       case measure=>simp [intOf];omega
    ·obtain rfl : j = 2:=by omega
     obtain ⟨m2,h1,h2,h3⟩:=HJ.out
     have hg1:=HH.out.1.below HH.out.2
     have hg2:=hg1.linked h1 (fun b hb hr=>h2 b hb hr) h3
     obtain ⟨w9,q1,q2,q3,q4⟩:=hg2.delRel i 2 0
     have p12 : wr.cell? ⟨B.gx,1,none⟩ = some (.map (some B.br)):=Kae (o:=1) hg2.box rfl
     have HD:=yh q1
     have hTs : Touch S w w9:=(Touch.pre HH.out.2 (h3.mono (S':=S) fun b _ e=>e.elim (fun e=>by rw [e];exact HB0.out.own) fun e=>(HB0.out.block e).2.1)).step (q3.mono (S':=S) fun b _ e=>by rw [e];exact hg2.own.2.2) fun b _ hs=>hs
     have HF:=yh (And.intro q2 hTs)
     clear h1 h2 h3 hg1 hg2 q1 q2 q3 q4 hTs
     go_wp2_with ((with_reducible apply op_delete);exact HD.out;exact rfl;exact rfl;clear HD)
     go_ret
     refine ⟨rfl,⟨m2,?_⟩,HF.out.2⟩
     have hq:=HF.out.1
     have ha:=gsOf_eq HADJ.out
     rw [cutJ_two] at hq
     have e : (⟨g.nodes,g.rels.filter (fun y=>!(y.id == i)),cutK (cutK (Kbu g.rels) r.src r.id) r.dst r.id,g.nextNode,g.nextRel⟩ : GS) = gsOf ⟨g.nodes,g.rels.filter fun y=>!(y.id == i),g.nextNode,g.nextRel⟩:=by
      rw [← HRI.out]
      exact ha
     rw [← e]
     exact hq
theorem all2_of {α β : Type} {f : α → β → Bool} : ∀ {l : List α} {m : List β},l.length = m.length → (∀ i (h1 : i < l.length) (h2 : i < m.length),f l[i] m[i] = true) → all2 f l m = true
 | [],[],_,_=>rfl
 | [],_ :: _,h,_=>by simp at h
 | _ :: _,[],h,_=>by simp at h
 | a :: x,b :: y,h,g=>by
   rw [all2,Bool.and_eq_true]
   exact ⟨g 0 (by simp) (by simp),all2_of (by simpa using h) fun i h1 h2=>g (i + 1) (by simpa using h1) (by simpa using h2)⟩
theorem all2_no {α β : Type} {f : α → β → Bool} : ∀ {l : List α} {m : List β} {j : Nat} (h1 : j < l.length) (h2 : j < m.length),f l[j] m[j] = false → all2 f l m = false
 | [],_,j,h1,_,_=>by simp at h1
 | _ :: _,[],j,_,h2,_=>by simp at h2
 | a :: x,b :: y,0,_,_,h=>by rw [all2,show f a b = false from h];rfl
 | a :: x,b :: y,j + 1,h1,h2,h=>by rw [all2,all2_no (j:=j) (by simpa using h1) (by simpa using h2) h,Bool.and_false]
theorem all2_ne {α β : Type} {f : α → β → Bool} {l : List α} {m : List β} (h : l.length ≠ m.length) : all2 f l m = false:=by
 cases e : all2 f l m with
 | false=>rfl
 | true=>exact absurd (all2_len e) h
theorem eql_bytesS2 (a b : List UInt8) (W : World) : (binOp .eql 9 (.string (strB a)) (.string (strB b))).run Tryz.prog W = .ok (.bool (decide (a = b))) W:=by
 have e : (strB a = strB b) ↔ a = b:=strB_inj
 by_cases h : a = b
 ·subst h;simp [go_sem]
 ·rw [decide_eq_false h]
  simp [go_sem,Kax,h]
theorem eqfP_any {w : World} {p p2 : Option Addr} {c c2 : Nat} {l m} (h : GRd PRd 7 w p c l) (h2 : GRd PRd 7 w p2 c2 m)
 (hone : ∀ j (h1 : j < l.length) (h2 : j < m.length) W x y,Below w.heap.size w W → PRd W l[j] x → PRd W m[j] y → Calls Tryz.prog 183 #[.agg x,.agg y] W fun e w'=>e = .returned (.bool (sameP l[j] m[j])) ∧ Below W.heap.size W w') :
 Calls Tryz.prog 182 #[.slice p l.length c,.slice p2 m.length c2,.func (.func 183) #[] #[]] w fun e w'=>e = .returned (.bool (all2 sameP l m)) ∧ Below w.heap.size w w':=by
 have z1 : (l.length : Int) ≤ 140737488355328:=by have:=h.1.2.1;omega
 have z2 : (m.length : Int) ≤ 140737488355328:=by have:=h2.1.2.1;omega
 have H:=yh h
 have H2:=yh h2
 have HO:=yh hone
 clear h h2 hone
 by_cases hlen : l.length = m.length
 ·rw [hlen]
  rw [hlen] at z1
  have HLEN:=yh hlen
  clear hlen
  go_enter Tryz.func182,Tryz.ntmps182
  go_wp2
  go_loopw [17] (fun i W=>∃ j : Nat,j ≤ m.length ∧ i = .int .i64 (j : Int) ∧ Hid ((∀ i (h1 : i < l.length) (h2 : i < m.length),i < j → sameP l[i] m[i] = true) ∧ Below w.heap.size w W)) (fun i _=>m.length - (intOf i).toNat)
  case atStart=>exact ⟨0,Nat.zero_le _,rfl,yh ⟨fun i _ _ h=>by omega,Below.refl _ _⟩⟩
  case round =>
   obtain ⟨j,hj,rfl,HI⟩:=hrel
   by_cases hlt : j < m.length
   ·have hlt1 : j + 1 ≤ m.length:=hlt
    have hltl : j < l.length:=by rw [HLEN.out];exact hlt
    obtain ⟨b,of,cs,rfl,hs,hc,hv⟩:=H.out.get hltl
    obtain ⟨b2,of2,ds,rfl,hs2,hc2,hv2⟩:=H2.out.get hlt
    have hb:=Kah (w:=wr) (.cells cs 47)
    have hb2:=Kah (w:=wr.alloc (.cells cs 47)) (.cells ds 47)
    have hbb : Below w.heap.size w (wr.alloc (.cells cs 47)):=Kaa HI.out.2 hb
    have hbc : Below w.heap.size w ((wr.alloc (.cells cs 47)).alloc (.cells ds 47)):=Kaa hbb hb2
    have hx8:=Kaj hb2 (by simp) (heap_alloc_new wr (.cells cs 47))
    have hx9:=heap_alloc_new (wr.alloc (.cells cs 47)) (.cells ds 47)
    have HL1:=yh (StT.load Kc4 hs (fun i u hu=>Kad HI.out.2 (ltOf (hc i u hu)) (hc i u hu)) (W:=wr))
    have HS1:=yh (StT.fresh Kc4 hs (Kew.ones hv) (W:=wr))
    have HL2:=yh (StT.load Kc4 hs2 (fun i u hu=>Kad hbb (ltOf (hc2 i u hu)) (hc2 i u hu)) (W:=wr.alloc (.cells cs 47)))
    have hs22:=StT.fresh Kc4 hs2 (Kew.ones hv2) (W:=wr.alloc (.cells cs 47))
    have hl3:=StT.get Kc4 hs hx8
    have hl4:=StT.get Kc4 hs2 hx9
    have hcall:=HO.out j hltl hlt _ _ _ hbc (hv.below hbc) (hv2.below hbc)
    simp only [World.size_alloc] at hs22 hl3 hl4
    have hno:=all2_no (f:=sameP) hltl hlt
    have hye : sameP l[j] m[j] = true → ∀ i (h1 : i < l.length) (h2 : i < m.length),i < j + 1 → sameP l[i] m[i] = true:=fun he i h1 h2 h3=>by
     rcases Nat.lt_or_ge i j with h4 | h4
     ·exact HI.out.1 i h1 h2 h4
     ·have : i = j:=by omega
      subst this;exact he
    generalize sameP l[j] m[j] = r at *
    have HS2:=yh hs22
    have HL3:=yh hl3
    have HL4:=yh hl4
    have HC:=yh hcall
    have HX:=yh (And.intro hno (And.intro hye hbc))
    clear hb hb2 hbb hbc hx8 hx9 hs22 hl3 hl4 hcall hno hye hs hc hv hs2 hc2 hv2
    cases r
    all_goals
     go_wp2_with (first
      | ((with_reducible apply Kao);exact HL1.out;exact rfl;clear HL1)
      | ((with_reducible apply Kaq);exact HS1.out _ rfl;exact rfl;exact rfl;clear HS1)
      | ((with_reducible apply Kao);exact HL2.out;exact rfl;clear HL2)
      | ((with_reducible apply Kaq);exact HS2.out _ rfl;exact rfl;exact rfl;clear HS2)
      | ((with_reducible apply Kao);exact HL3.out;exact rfl;clear HL3)
      | ((with_reducible apply Kao);exact HL4.out;exact rfl;clear HL4)
      | (go_at_call 183;refine HC.out.mono ?_;rintro e W2 ⟨rfl,hbw⟩;have HF:=yh (Kaa HX.out.2.2 hbw);clear hbw HC))
    ·go_ret
     exact ⟨by rw [HX.out.1 (by simp)];rfl,HF.out⟩
    ·go_roundw
     case rel=>exact ⟨j + 1,hlt1,by go_num,yh ⟨HX.out.2.1 (by simp),HF.out⟩⟩
     case measure=>simp [intOf];omega
   ·obtain rfl : j = m.length:=by omega
    have HF:=yh (And.intro (all2_of (f:=sameP) HLEN.out fun i h1 h2=>HI.out.1 i h1 h2 h2) HI.out.2)
    clear HI
    go_wp2
    go_ret
    exact ⟨by rw [HF.out.1];rfl,HF.out.2⟩
 ·have hli : ¬ (l.length : Int) = (m.length : Int):=by omega
  have hlb : ((l.length : Int) != (m.length : Int)) = true:=by rw [bne_iff_ne];exact hli
  clear hli
  go_enter Tryz.func182,Tryz.ntmps182
  go_wp2
  go_ret
  exact ⟨by rw [all2_ne hlen];rfl,Below.refl _ _⟩
theorem sameP_any {w : World} (hE : Env w) {a b : PropD} {x y : Array Value} (ha : PRd w a x) (hb : PRd w b y) (ht : totV a.val ≤ 1100000) (ht2 : totV b.val ≤ 1100000) : Calls Tryz.prog 183 #[.agg x,.agg y] w fun e w'=>e = .returned (.bool (sameP a b)) ∧ Below w.heap.size w w':=by
 have hxs:=Kew.size ha
 have hys:=Kew.size hb
 have hb1:=Kah (w:=w) (.cells x 47)
 have hb2:=Kah (w:=w.alloc (.cells x 47)) (.cells y 47)
 have hbc : Below w.heap.size w ((w.alloc (.cells x 47)).alloc (.cells y 47)):=Kaa hb1 hb2
 have hx8:=Kaj hb2 (by simp) (heap_alloc_new w (.cells x 47))
 have hx9:=heap_alloc_new (w.alloc (.cells x 47)) (.cells y 47)
 obtain ⟨xv,ex,hkx,hvx⟩:=ha
 obtain ⟨yv,ey,hky,hvy⟩:=hb
 have k0 : x[0]? = some (.string (strB a.key)):=by rw [ex,Array.getElem?_append_left (by simp)];rfl
 have l0 : y[0]? = some (.string (strB b.key)):=by rw [ey,Array.getElem?_append_left (by simp)];rfl
 have k1 : ∀ (i : Nat) (u : Value),xv[i]? = some u → x[1 + i]? = some u:=fun i u hu=>by rw [ex,Array.getElem?_append_right (by simp)];simpa using hu
 have l1 : ∀ (i : Nat) (u : Value),yv[i]? = some u → y[1 + i]? = some u:=fun i u hu=>by rw [ey,Array.getElem?_append_right (by simp)];simpa using hu
 have p0:=Kae (o:=0) hx8 k0
 have q0:=Kae (o:=0) hx9 l0
 have hlx:=StT.load (P:=Tryz.prog) (g:=w.heap.size) (o:=1) Kds (Kdv.size hvx) fun i u hu=>Kae (o:=1 + i) hx8 (k1 i u hu)
 have hly:=StT.load (P:=Tryz.prog) (g:=(w.alloc (.cells x 47)).heap.size) (o:=1) Kds (Kdv.size hvy) fun i u hu=>Kae (o:=1 + i) hx9 (l1 i u hu)
 have hcall:=same_any (hE.b hbc) (hvx.below hbc) (hvy.below hbc) (by omega)
 simp only [World.size_alloc] at q0 hly
 have hes:=eql_bytesS2 a.key b.key
 have hsp : sameP a b = (decide (a.key = b.key) && (okV a.val && okV b.val && decide (cmpV a.val b.val = 0))):=rfl
 rw [hsp]
 have HLX:=yh hlx
 have HLY:=yh hly
 have HC:=yh hcall
 have HB:=yh hbc
 clear hsp ht ht2 hE hb1 hb2 hbc hx8 hx9 hlx hly hcall ex ey hvx hvy hkx hky k0 k1 l0 l1 hxs hys
 generalize strB a.key = s1 at *
 generalize strB b.key = s2 at *
 generalize (okV a.val && okV b.val && decide (cmpV a.val b.val = 0)) = r at *
 cases hk : decide (a.key = b.key)
 all_goals
  rw [hk] at hes
  go_enter Tryz.func183,Tryz.ntmps183
  go_wp2_with (first
   | (refine Kca rfl (Kcg rfl rfl rfl (hes _)) ?_)
   | ((with_reducible apply Kbl);exact HLX.out;exact rfl;exact rfl)
   | ((with_reducible apply Kbl);exact HLY.out;exact rfl;exact rfl)
   | (go_at_call 184;refine HC.out.mono ?_;rintro e W2 ⟨rfl,hbw⟩;have HF:=yh (Kaa HB.out hbw);clear hbw HC))
  go_ret
  first
   | exact ⟨by simp,HF.out⟩
   | exact ⟨by simp,HB.out⟩
theorem sameProps_any {w : World} (hE : Env w) {p p2 : Option Addr} {c c2 : Nat} {l m : List PropD} (h : GRd PRd 7 w p c l) (h2 : GRd PRd 7 w p2 c2 m) (ht : PsOk l) (ht2 : PsOk m) : Calls Tryz.prog 132 #[.slice p l.length c,.slice p2 m.length c2] w fun e w'=>e = .returned (.bool (all2 sameP l m)) ∧ Below w.heap.size w w':=by
 have HC:=yh (eqfP_any h h2 (fun j h1 h3 W x y hB hx hy=>sameP_any (hE.b hB) hx hy (ht.2 _ (List.getElem_mem h1)).2 (ht2.2 _ (List.getElem_mem h3)).2))
 clear hE h h2 ht ht2
 generalize all2 sameP l m = r at *
 go_enter Tryz.func132,Tryz.ntmps132
 go_wp2_with (go_at_call 182;refine HC.out.mono ?_;rintro e W2 ⟨rfl,hbw⟩;have HF:=yh hbw;clear hbw HC)
 go_ret
 exact ⟨rfl,HF.out⟩
theorem sameN_any {w : World} (hE : Env w) {a b : NodeD} {x y : Array Value} (ha : NRd w a x) (hb : NRd w b y) (ht : NOk a) (ht2 : NOk b) : Calls Tryz.prog 80 #[.agg x,.agg y] w fun e w'=>e = .returned (.bool (sameN a b)) ∧ Below w.heap.size w w':=by
 obtain ⟨pl,cl,pp,cp,rfl,hl,hp⟩:=ha
 obtain ⟨ql,dl,qp,dp,rfl,hl2,hp2⟩:=hb
 have hb1:=Kah (w:=w) (.cells #[.int .i64 a.id,.slice pl a.labels.length cl,.slice pp a.props.length cp] 45)
 have hb2:=Kah (w:=w.alloc (.cells #[.int .i64 a.id,.slice pl a.labels.length cl,.slice pp a.props.length cp] 45)) (.cells #[.int .i64 b.id,.slice ql b.labels.length dl,.slice qp b.props.length dp] 45)
 have hbc : Below w.heap.size w ((w.alloc (.cells #[.int .i64 a.id,.slice pl a.labels.length cl,.slice pp a.props.length cp] 45)).alloc (.cells #[.int .i64 b.id,.slice ql b.labels.length dl,.slice qp b.props.length dp] 45)):=Kaa hb1 hb2
 have hx8:=Kaj hb2 (by simp) (heap_alloc_new w (.cells #[.int .i64 a.id,.slice pl a.labels.length cl,.slice pp a.props.length cp] 45))
 have hx9:=heap_alloc_new (w.alloc (.cells #[.int .i64 a.id,.slice pl a.labels.length cl,.slice pp a.props.length cp] 45)) (.cells #[.int .i64 b.id,.slice ql b.labels.length dl,.slice qp b.props.length dp] 45)
 have hke:=fun W (g : Below w.heap.size w W)=>eqkeys_any (hl.below g) (hl2.below g)
 have hpe:=fun W (g : Below w.heap.size w W)=>sameProps_any (hE.b g) (hp.below (fun h=>h.below g) g) (hp2.below (fun h=>h.below g) g) ht.2.2 ht2.2.2
 have hsp : sameN a b = (decide (a.id = b.id) && decide (a.labels = b.labels) && all2 sameP a.props b.props):=rfl
 rw [hsp]
 have HKE:=yh hke
 have HPE:=yh hpe
 have hxx:=fun W (g : Below ((w.alloc (.cells #[.int .i64 a.id,.slice pl a.labels.length cl,.slice pp a.props.length cp] 45)).alloc (.cells #[.int .i64 b.id,.slice ql b.labels.length dl,.slice qp b.props.length dp] 45)).heap.size ((w.alloc (.cells #[.int .i64 a.id,.slice pl a.labels.length cl,.slice pp a.props.length cp] 45)).alloc (.cells #[.int .i64 b.id,.slice ql b.labels.length dl,.slice qp b.props.length dp] 45)) W)=>And.intro (Kaj g (by simp;omega) hx8) (show W.heap[w.heap.size + 1]? = some (.cells #[.int .i64 b.id,.slice ql b.labels.length dl,.slice qp b.props.length dp] 45 (0,0)) from by have h:=Kaj g (by simp) hx9;simp only [World.size_alloc] at h;exact h)
 have p0:=Kae (o:=0) hx8 rfl
 have q0:=Kae (o:=0) hx9 rfl
 have p1:=Kae (o:=1) hx8 rfl
 have q1:=Kae (o:=1) hx9 rfl
 have p2:=Kae (o:=2) hx8 rfl
 have q2:=Kae (o:=2) hx9 rfl
 simp only [World.size_alloc] at q0 q1 q2
 have HX:=yh hxx
 have HB:=yh hbc
 clear hsp ht ht2 hE hb1 hb2 hbc hx8 hx9 hke hpe hxx hl hl2 hp hp2
 generalize decide (a.labels = b.labels) = r1 at *
 generalize all2 sameP a.props b.props = r2 at *
 cases hk : decide (a.id = b.id) <;> cases r1
 all_goals
  have hki : ((a.id == b.id) : Bool) = decide (a.id = b.id):=rfl
  rw [hk] at hki
  go_enter Tryz.func80,Tryz.ntmps80
  go_wp2_with (first
   | (go_at_call 131;refine (HKE.out _ HB.out).mono ?_;rintro e W2 ⟨rfl,hbw⟩;have HF1:=yh (And.intro hbw (Kaa HB.out hbw));have p21:=Kae (o:=2) (HX.out _ hbw).1 rfl;have q21:=Kae (o:=2) (HX.out _ hbw).2 rfl;clear hbw HKE)
   | (go_at_call 132;refine (HPE.out _ HF1.out.2).mono ?_;rintro e W3 ⟨rfl,hbw⟩;have HF:=yh (Kaa HF1.out.2 hbw);clear hbw HPE))
  go_ret
  first
   | exact ⟨by simp,HF.out⟩
   | exact ⟨by simp,HF1.out.2⟩
   | exact ⟨by simp,HB.out⟩
theorem sameR_any {w : World} (hE : Env w) {a b : RelD} {x y : Array Value} (ha : RRd w a x) (hb : RRd w b y) (ht : ROk a) (ht2 : ROk b) : Calls Tryz.prog 82 #[.agg x,.agg y] w fun e w'=>e = .returned (.bool (sameR a b)) ∧ Below w.heap.size w w':=by
 obtain ⟨pp,cp,rfl,hty,hp⟩:=ha
 obtain ⟨qp,dp,rfl,hty2,hp2⟩:=hb
 have hb1:=Kah (w:=w) (.cells #[.int .i64 a.id,.int .i64 a.src,.int .i64 a.dst,.string (strB a.type),.slice pp a.props.length cp] 49)
 have hb2:=Kah (w:=w.alloc (.cells #[.int .i64 a.id,.int .i64 a.src,.int .i64 a.dst,.string (strB a.type),.slice pp a.props.length cp] 49)) (.cells #[.int .i64 b.id,.int .i64 b.src,.int .i64 b.dst,.string (strB b.type),.slice qp b.props.length dp] 49)
 have hbc : Below w.heap.size w ((w.alloc (.cells #[.int .i64 a.id,.int .i64 a.src,.int .i64 a.dst,.string (strB a.type),.slice pp a.props.length cp] 49)).alloc (.cells #[.int .i64 b.id,.int .i64 b.src,.int .i64 b.dst,.string (strB b.type),.slice qp b.props.length dp] 49)):=Kaa hb1 hb2
 have hx8:=Kaj hb2 (by simp) (heap_alloc_new w (.cells #[.int .i64 a.id,.int .i64 a.src,.int .i64 a.dst,.string (strB a.type),.slice pp a.props.length cp] 49))
 have hx9:=heap_alloc_new (w.alloc (.cells #[.int .i64 a.id,.int .i64 a.src,.int .i64 a.dst,.string (strB a.type),.slice pp a.props.length cp] 49)) (.cells #[.int .i64 b.id,.int .i64 b.src,.int .i64 b.dst,.string (strB b.type),.slice qp b.props.length dp] 49)
 have hpe:=sameProps_any (hE.b hbc) (hp.below (fun h=>h.below hbc) hbc) (hp2.below (fun h=>h.below hbc) hbc) ht.2 ht2.2
 have hes : ((strB a.type).toList == (strB b.type).toList) = decide (a.type = b.type):=by rw [Kax,Kax,Bool.eq_iff_iff];simp
 have hsp : sameR a b = (decide (a.id = b.id) && decide (a.src = b.src) && decide (a.dst = b.dst) && decide (a.type = b.type) && all2 sameP a.props b.props):=rfl
 rw [hsp]
 have HPE:=yh hpe
 have p0:=Kae (o:=0) hx8 rfl
 have q0:=Kae (o:=0) hx9 rfl
 have p1:=Kae (o:=1) hx8 rfl
 have q1:=Kae (o:=1) hx9 rfl
 have p2:=Kae (o:=2) hx8 rfl
 have q2:=Kae (o:=2) hx9 rfl
 have p3:=Kae (o:=3) hx8 rfl
 have q3:=Kae (o:=3) hx9 rfl
 have p4:=Kae (o:=4) hx8 rfl
 have q4:=Kae (o:=4) hx9 rfl
 simp only [World.size_alloc] at q0 q1 q2 q3 q4
 have HB:=yh hbc
 clear hsp ht ht2 hE hb1 hb2 hbc hx8 hx9 hpe hp hp2 hty hty2
 generalize all2 sameP a.props b.props = r2 at *
 generalize strB a.type = s1 at *
 generalize strB b.type = s2 at *
 cases hk : decide (a.id = b.id) <;> cases hk1 : decide (a.src = b.src) <;> cases hk2 : decide (a.dst = b.dst) <;> cases hk3 : decide (a.type = b.type)
 all_goals
  have hki : ((a.id == b.id) : Bool) = decide (a.id = b.id):=rfl
  have hki1 : ((a.src == b.src) : Bool) = decide (a.src = b.src):=rfl
  have hki2 : ((a.dst == b.dst) : Bool) = decide (a.dst = b.dst):=rfl
  rw [hk] at hki
  rw [hk1] at hki1
  rw [hk2] at hki2
  rw [hk3] at hes
  go_enter Tryz.func82,Tryz.ntmps82
  go_wp2_with (first
   | (go_at_call 132;refine HPE.out.mono ?_;rintro e W3 ⟨rfl,hbw⟩;have HF:=yh (Kaa HB.out hbw);clear hbw HPE))
  go_ret
  first
   | exact ⟨by simp,HF.out⟩
   | exact ⟨by simp,HB.out⟩
theorem Kdi (l m : List ChangeD) : ∀ g,Kba g (l ++ m) = (Kba g l).bind fun h=>Kba h m:=by
 induction l with
 | nil=>intro g;rfl
 | cons a l ih=>intro g;simp only [List.cons_append,Kba];cases Kcd g a with
   | none=>rfl
   | some h=>exact ih h
def lostR (a b : GraphD) : List RelD:=a.rels.filter fun r=>!(b.rels.any fun s=>s.id == r.id)
def lostN (a b : GraphD) : List NodeD:=a.nodes.filter fun r=>!(b.nodes.any fun s=>s.id == r.id)
def diffD (a b : GraphD) : List ChangeD :=
 (lostR a b).map (fun r=>⟨3,r.id,0,node0,rel0⟩) ++ ((lostN a b).map (fun n=>⟨2,n.id,0,node0,rel0⟩) ++ ((newD NodeD.id sameN a.nodes b.nodes).map (fun n=>⟨0,0,0,n,rel0⟩) ++
   ((newD RelD.id sameR a.rels b.rels).map (fun r=>⟨1,0,0,node0,r⟩) ++ (if a.nextNode = b.nextNode ∧ a.nextRel = b.nextRel then [] else [⟨4,b.nextNode,b.nextRel,node0,rel0⟩]))))
theorem apply_lostR : ∀ (l : List RelD) (g : GraphD),Kba g (l.map fun r=>⟨3,r.id,0,node0,rel0⟩) = some ⟨g.nodes,g.rels.filter (fun x=>!(l.any fun r=>x.id == r.id)),g.nextNode,g.nextRel⟩
 | [],g=>by
   simp only [List.map_nil,Kba,List.any_nil,Bool.not_false]
   rw [List.filter_eq_self.2 fun _ _=>rfl]
 | r :: l,g=>by
   rw [List.map_cons,Kba]
   show (match Kcd g ⟨3,r.id,0,node0,rel0⟩ with | none=>none | some h=>Kba h _) = _
   rw [show Kcd g ⟨3,r.id,0,node0,rel0⟩ = some ⟨g.nodes,g.rels.filter fun n=>!(n.id == r.id),g.nextNode,g.nextRel⟩ from rfl]
   simp only
   rw [apply_lostR l,List.filter_filter]
   simp only [List.any_cons,Bool.not_or]
   congr 2
   apply List.filter_congr
   intro x _
   rw [Bool.and_comm]
theorem apply_lostN : ∀ (l : List NodeD) (g : GraphD),Kba g (l.map fun r=>⟨2,r.id,0,node0,rel0⟩) = some ⟨g.nodes.filter (fun x=>!(l.any fun r=>x.id == r.id)),g.rels,g.nextNode,g.nextRel⟩
 | [],g=>by
   simp only [List.map_nil,Kba,List.any_nil,Bool.not_false]
   rw [List.filter_eq_self.2 fun _ _=>rfl]
 | r :: l,g=>by
   rw [List.map_cons,Kba]
   show (match Kcd g ⟨2,r.id,0,node0,rel0⟩ with | none=>none | some h=>Kba h _) = _
   rw [show Kcd g ⟨2,r.id,0,node0,rel0⟩ = some ⟨g.nodes.filter fun n=>!(n.id == r.id),g.rels,g.nextNode,g.nextRel⟩ from rfl]
   simp only
   rw [apply_lostN l,List.filter_filter]
   simp only [List.any_cons,Bool.not_or]
   congr 2
   apply List.filter_congr
   intro x _
   rw [Bool.and_comm]
theorem apply_newN : ∀ (l : List NodeD) (g : GraphD),Kba g (l.map fun n=>⟨0,0,0,n,rel0⟩) = some ⟨putAll NodeD.id l g.nodes,g.rels,g.nextNode,g.nextRel⟩
 | [],g=>rfl
 | n :: l,g=>by
   rw [List.map_cons,Kba]
   rw [show Kcd g ⟨0,0,0,n,rel0⟩ = some ⟨putN n g.nodes,g.rels,g.nextNode,g.nextRel⟩ from rfl]
   simp only
   rw [apply_newN l,putN_eq]
   rfl
theorem apply_newR : ∀ (l : List RelD) (g : GraphD),Kba g (l.map fun n=>⟨1,0,0,node0,n⟩) = some ⟨g.nodes,putAll RelD.id l g.rels,g.nextNode,g.nextRel⟩
 | [],g=>rfl
 | n :: l,g=>by
   rw [List.map_cons,Kba]
   rw [show Kcd g ⟨1,0,0,node0,n⟩ = some ⟨g.nodes,putR n g.rels,g.nextNode,g.nextRel⟩ from rfl]
   simp only
   rw [apply_newR l,putR_eq]
   rfl
theorem cut_both {α : Type} (id : α → Int) {a b : List α} : a.filter (fun x=>!((a.filter fun r=>!(b.any fun s=>id s == id r)).any fun r=>id x == id r)) = bothD id a b:=by
 unfold bothD
 apply List.filter_congr
 intro x hx
 cases h : b.any fun y=>id y == id x with
 | true =>
   have : ((a.filter fun r=>!(b.any fun s=>id s == id r)).any fun r=>id x == id r) = false:=by
    rw [List.any_eq_false]
    intro r hr e
    have e2 : id x = id r:=by simpa using e
    have:=(List.mem_filter.1 hr).2
    rw [← e2,h] at this
    cases this
   rw [this];rfl
 | false =>
   have : ((a.filter fun r=>!(b.any fun s=>id s == id r)).any fun r=>id x == id r) = true:=List.any_eq_true.2 ⟨x,List.mem_filter.2 ⟨hx,by rw [h];rfl⟩,by simp⟩
   rw [this];rfl
theorem apply_diff {a b : GraphD} (ha : okG a = true) (hb : okG b = true) : Kba a (diffD a b) = some b:=by
 obtain ⟨_,a6,a7,a8,a9⟩:=(Kch a).1 ha
 obtain ⟨_,b6,b7,b8,b9⟩:=(Kch b).1 hb
 have hn:=diff_rows NodeD.id (same:=sameN) (Kbj _ a7) (Kbj _ b7) fun x hx y hy=>sameN_iff (a6 x hx).1 (b6 y hy).1
 have hr:=diff_rows RelD.id (same:=sameR) (Kbj _ a9) (Kbj _ b9) fun x hx y hy=>sameR_iff (a8 x hx).1 (b8 y hy).1
 unfold diffD
 rw [Kdi,apply_lostR,Option.bind_some,Kdi,apply_lostN,Option.bind_some,Kdi,apply_newN,Option.bind_some,Kdi,apply_newR,Option.bind_some]
 simp only
 unfold lostR lostN
 rw [cut_both NodeD.id,cut_both RelD.id,hn,hr]
 split
 ·rename_i h
  rw [h.1,h.2];rfl
 ·rfl
theorem applyD_diff {a b : GraphD} (ha : okG a = true) (hb : okG b = true) : Kdx a (diffD a b) = (b,0):=by
 obtain ⟨⟨h1,_⟩,_⟩:=(Kch b).1 hb
 unfold Kdx
 rw [if_neg (by rw [ha];simp),apply_diff ha hb]
 simp only
 rw [if_neg (by omega),if_neg (by rw [hb];simp)]
theorem put_chsT {w : World} {ad : Addr} {p : Option Addr} {n c : Nat} {u : Value} (hc : w.cell? ad = some u) (hf : w.frozen? ad = false) : (storeVar 52 ad (.slice p n c)).run Tryz.prog w = .ok () (w.setCell ad (.slice p n c)):=by
 simp [storeVar,go_sem,hc,hf]
def ChIn (T : Nat → Prop) (w0 W : World) (c : Nat) (l : List ChangeD) : Prop:=T c ∧ (∀ b,T b → b < w0.heap.size) ∧ Touch T w0 W ∧ ∃ p k,W.heap[c]? = some (.cells #[.slice p l.length k] 52 (0,0)) ∧ GIn COwn 55 11 (fun b=>w0.heap.size ≤ b) W (.slice p l.length k) l
section
variable {T D : Nat → Prop} {w0 w W W' : World} {c : Nat} {l : List ChangeD}
theorem ChIn.start (hT : T c) (hl : ∀ b,T b → b < w0.heap.size) (h : Touch T w0 W) (hc : W.heap[c]? = some (.cells #[.slice none 0 0] 52 (0,0))) : ChIn T w0 W c []:=⟨hT,hl,h,none,0,hc,GIn.start⟩
theorem ChIn.lt (h : ChIn T w0 W c l) : c < W.heap.size:=by obtain ⟨_,_,_,p,k,h1,_⟩:=h;exact (Array.getElem?_eq_some_iff.1 h1).1
theorem ChIn.turn (h : ChIn T w0 W c l) (g : Touch D W W') (hD : ∀ b,D b → b < W.heap.size → T b ∧ b ≠ c) : ChIn T w0 W' c l:=by
 have hlt:=h.lt
 obtain ⟨h1,h2,h3,p,k,h4,h5⟩:=h
 refine ⟨h1,h2,h3.step g fun b hb hd=>(hD b hd (Nat.lt_of_lt_of_le hb h3.size)).1,p,k,(g.block c hlt fun hd=>(hD c hd hlt).2 rfl).trans h4,h5.kept Kcw (fun b hb hl=>g.block b hl fun hd=>by have:=h2 b (hD b hd hl).1;omega) fun b _ hb=>hb⟩
theorem ChIn.below (h : ChIn T w0 W c l) (g : Below W.heap.size W W') : ChIn T w0 W' c l:=h.turn (D:=fun _=>False) (Kat g) fun b hb=>hb.elim
def ChB (W : World) (c n : Nat) : Prop:=∀ v b,W.cell? ⟨c,0,none⟩ = some v → v.ownBlock = some b → b < n
theorem ChIn.bd (h : ChIn T w0 W c l) : ChB W c W.heap.size:=by
 obtain ⟨_,_,_,p,k,h4,h5⟩:=h
 intro v b hv hb
 rw [Kae (o:=0) h4 rfl] at hv
 cases hv
 exact (h5.lt b hb).1
theorem ChB.same {n : Nat} (h : ChB W c n) (e : W'.heap[c]? = W.heap[c]?) : ChB W' c n:=fun v b hv hb=>h v b (by rw [← World.cell?_of_block (w:=W) (a:=⟨c,0,none⟩) e];exact hv) hb
theorem ChIn.bdb (h : ChIn T w0 W c l) (g : Below W.heap.size W W') : ChB W' c W.heap.size:=h.bd.same (g.block c h.lt)
theorem ChIn.push {n : Nat} {W2 : World} {v : ChangeD} {x : Array Value} (h : ChIn T w0 W c l) (hn : ChB W c n) (hb : Below W.heap.size W W2) (hx : COwn W2 (fun b=>W.heap.size ≤ b) v x) (hm : l.length ≤ 1100000) :
 ∃ p k p' k' W3,W.heap[c]? = some (.cells #[.slice p l.length k] 52 (0,0)) ∧ (Builtin.append_ #[52,52] 52 #[.slice p l.length k,.slice (some ⟨W2.heap.size,0,none⟩) 1 1]).run Tryz.prog (W2.alloc (.cells x 55)) = .ok (.slice p' (l.length + 1) k') W3 ∧ W3.heap[c]? = some (.cells #[.slice p l.length k] 52 (0,0)) ∧
  (storeVar 52 ⟨c,0,none⟩ (.slice p' (l.length + 1) k')).run Tryz.prog W3 = .ok () (W3.setCell ⟨c,0,none⟩ (.slice p' (l.length + 1) k')) ∧ ChIn T w0 (W3.setCell ⟨c,0,none⟩ (.slice p' (l.length + 1) k')) c (l ++ [v]) ∧
  Touch (fun b=>b = c ∨ (w0.heap.size ≤ b ∧ b < n)) W2 (W3.setCell ⟨c,0,none⟩ (.slice p' (l.length + 1) k')) ∧ Touch (fun b=>w0.heap.size ≤ b ∧ b < min n W.heap.size) W2 W3:=by
 obtain ⟨h1,h2,h3,p,k,hc,hI⟩:=h
 have hcl:=h2 c h1
 have hlt:=hI.lt
 have hcW:=(Array.getElem?_eq_some_iff.1 hc).1
 have hws:=h3.size
 obtain ⟨v',W3,a1,a2,a3⟩:=hI.step (W1:=W2) (P':=fun b=>w0.heap.size ≤ b) Kcw gt_change (fun b _ h=>hb.block b h) hb.size (fun b _ h=>h) (fun b h=>by have:=hb.size;omega) (Kcw.imp (fun b _ h=>⟨h,by omega⟩) hx) hm 52
 obtain ⟨p',k',rfl⟩:=a2.slice
 rw [List.length_append,List.length_cons,List.length_nil,Nat.zero_add] at a1 a2
 have hnew : Below W2.heap.size W2 (W2.alloc (.cells x 55)):=Kah _
 have hc3 : W3.heap[c]? = some (.cells #[.slice p l.length k] 52 (0,0)):=by
  have h4:=hb.size
  rw [a3.block c (by simp;omega) (fun e=>by have:=(hlt c e).2;omega),hnew.block c (by omega),hb.block c hcW]
  exact hc
 have hst:=put_chsT (w:=W3) (ad:=⟨c,0,none⟩) (p:=p') (n:=l.length + 1) (c:=k') (Kae (o:=0) hc3 rfl) (Kbs (o:=0) hc3)
 have ho : ∀ b,b ≠ c → (W3.setCell ⟨c,0,none⟩ (.slice p' (l.length + 1) k')).heap[b]? = W3.heap[b]?:=fun b hb=>Below.heap_setCell _ ⟨c,0,none⟩ _ b hb
 have hT3 : Touch (fun b=>w0.heap.size ≤ b ∧ b < min n W.heap.size) W2 W3:=(Kat hnew).step a3 fun b h2 e=>⟨(hlt b e).2,by have:=(hlt b e).1;have:=hn _ b (Kae (o:=0) hc rfl) e;omega⟩
 have hTf:=(hT3.mono (S':=fun b=>b = c ∨ (w0.heap.size ≤ b ∧ b < n)) fun b _ h=>.inr ⟨h.1,by have:=h.2;omega⟩).setCell (b:=c) (o:=0) (.inl (.inl rfl)) (.slice p' (l.length + 1) k')
 have hbox : (W3.setCell ⟨c,0,none⟩ (.slice p' (l.length + 1) k')).heap[c]? = some (.cells #[.slice p' (l.length + 1) k'] 52 (0,0)):=Kb5 _ hc3
 refine ⟨p,k,p',k',W3,hc,a1,hc3,hst,⟨h1,h2,?_,p',k',by rw [List.length_append];exact hbox,?_⟩,hTf,hT3⟩
 ·refine (h3.grow hb).step hTf fun b hbl hd=>?_
  rcases hd with rfl | hd
  ·exact h1
  ·omega
 ·rw [List.length_append]
  exact a2.kept Kcw (fun b h4 _=>ho b (by omega)) fun b _ h=>h
end
theorem chg_node {w : World} {P : Nat → Prop} {n : NodeD} {vl vp : Value} (h : NOwn w P n #[.int .i64 n.id,vl,vp]) : COwn w P ⟨0,0,0,n,rel0⟩ #[.int .i64 0,.int .i64 0,.int .i64 0,.int .i64 n.id,vl,vp,.int .i64 0,.int .i64 0,.int .i64 0,.string ⟨#[]⟩,.slice none 0 0] :=
 ⟨_,relZ,rfl,h,.slice none 0 0,rfl,GIn.start.own Ka2⟩
theorem chg_rel {w : World} {P : Nat → Prop} {r : RelD} {vp : Value} (h : ROwn w P r #[.int .i64 r.id,.int .i64 r.src,.int .i64 r.dst,.string (strB r.type),vp]) : COwn w P ⟨1,0,0,node0,r⟩ #[.int .i64 1,.int .i64 0,.int .i64 0,.int .i64 0,.slice none 0 0,.slice none 0 0,.int .i64 r.id,.int .i64 r.src,.int .i64 r.dst,.string (strB r.type),vp] :=
 ⟨nodeZ,_,rfl,⟨.slice none 0 0,.slice none 0 0,rfl,⟨⟨rfl,.inl ⟨rfl,rfl⟩⟩,fun g hg=>by simp [Value.ownBlock] at hg⟩,GIn.start.own Ka2⟩,h⟩
theorem chg_flat (w : World) (P : Nat → Prop) (k i o : Int) : COwn w P ⟨k,i,o,node0,rel0⟩ #[.int .i64 k,.int .i64 i,.int .i64 o,.int .i64 0,.slice none 0 0,.slice none 0 0,.int .i64 0,.int .i64 0,.int .i64 0,.string ⟨#[]⟩,.slice none 0 0] :=
 ⟨nodeZ,relZ,rfl,⟨.slice none 0 0,.slice none 0 0,rfl,⟨⟨rfl,.inl ⟨rfl,rfl⟩⟩,fun g hg=>by simp [Value.ownBlock] at hg⟩,GIn.start.own Ka2⟩,.slice none 0 0,rfl,GIn.start.own Ka2⟩
theorem exec_buildCN {a : Act} {w : World} {o : Oper} {x1 : Operand} {n : Int} {vl vp : Value} (ho : o.op = .build 55 #[(0,.const (.int .i64 0)),(3,x1)]) (h1 : a.eval x1 = .agg #[.int .i64 n,vl,vp]) : (execOp a.eval o).run Tryz.prog w = .ok (.value (.agg #[.int .i64 0,.int .i64 0,.int .i64 0,.int .i64 n,vl,vp,.int .i64 0,.int .i64 0,.int .i64 0,.string ⟨#[]⟩,.slice none 0 0])) w:=by
 unfold execOp;simp [ho,go_sem,h1,Act.eval] at h1 ⊢;simp [h1]
theorem exec_buildCR {a : Act} {w : World} {o : Oper} {x1 : Operand} {n m k : Int} {s : ByteArray} {vp : Value} (ho : o.op = .build 55 #[(0,.const (.int .i64 1)),(4,x1)]) (h1 : a.eval x1 = .agg #[.int .i64 n,.int .i64 m,.int .i64 k,.string s,vp]) : (execOp a.eval o).run Tryz.prog w = .ok (.value (.agg #[.int .i64 1,.int .i64 0,.int .i64 0,.int .i64 0,.slice none 0 0,.slice none 0 0,.int .i64 n,.int .i64 m,.int .i64 k,.string s,vp])) w:=by
 unfold execOp;simp [ho,go_sem,h1,Act.eval] at h1 ⊢;simp [h1]
theorem id_firstR {w : World} {r : RelD} {x : Array Value} (h : RRd w r x) : x[0]? = some (.int .i64 r.id):=by obtain ⟨pp,cp,rfl,_,_⟩:=h;rfl
theorem idOfR_any {w : World} {r : RelD} {x : Array Value} (hr : RRd w r x) : Calls Tryz.prog 85 #[.agg x] w fun e w'=>e = .returned (.int .i64 r.id) ∧ Below w.heap.size w w':=by
 have hb:=yh (Kah (w:=w) (.cells x 49))
 have p0 : (w.alloc (.cells x 49)).cell? ⟨w.heap.size,0,none⟩ = some (.int .i64 r.id):=Kae (o:=0) (heap_alloc_new w _) (id_firstR hr)
 clear hr
 generalize r.id = i at *
 go_enter Tryz.func85,Tryz.ntmps85
 go_wp2
 go_ret
 exact ⟨rfl,hb.out⟩
def goneR (r : RelD) : ChangeD:=⟨3,r.id,0,node0,rel0⟩
def comeR (r : RelD) : ChangeD:=⟨1,0,0,node0,r⟩
theorem goneR_any {T : Nat → Prop} {w0 w : World} {c n : Nat} {l : List ChangeD} {r : RelD} {x : Array Value} (h : ChIn T w0 w c l) (hn : ChB w c n) (hr : RRd w r x) (hm : l.length ≤ 1100000) : Calls Tryz.prog 86 #[.agg x,.pointer (some ⟨c,0,none⟩)] w fun e w'=>e = .returned (.tuple #[]) ∧ ChIn T w0 w' c (l ++ [goneR r]) ∧ Touch (fun b=>b = c ∨ (w0.heap.size ≤ b ∧ b < n)) w w':=by
 have hb:=Kah (w:=w) (.cells x 49)
 have p0 : (w.alloc (.cells x 49)).cell? ⟨w.heap.size,0,none⟩ = some (.int .i64 r.id):=Kae (o:=0) (heap_alloc_new w _) (id_firstR hr)
 have hcx:=chg_flat (w.alloc (.cells x 49)) (fun b=>w.heap.size ≤ b) 3 r.id 0
 obtain ⟨p,k,p',k',W3,hc,a1,a2,a3,a4,a5,_⟩:=h.push hn hb hcx hm
 have c0 : (w.alloc (.cells x 49)).cell? ⟨c,0,none⟩ = some (.slice p l.length k):=Kae (o:=0) (Kaj hb (Array.getElem?_eq_some_iff.1 hc).1 hc) rfl
 have HB:=yh (Kar (P:=Tryz.prog) (w:=w.alloc (.cells x 49)) (v:=.agg #[.int .i64 3,.int .i64 r.id,.int .i64 0,.int .i64 0,.slice none 0 0,.slice none 0 0,.int .i64 0,.int .i64 0,.int .i64 0,.string ⟨#[]⟩,.slice none 0 0]) Tryz.underlying52 Tryz.sizeOf55 Tryz.zeroValue55 rfl (by omega) (by omega))
 simp only [World.size_alloc] at HB a1
 have HA:=yh a1
 have HS:=yh a3
 have HF:=yh (show ChIn T w0 (W3.setCell ⟨c,0,none⟩ (.slice p' (l.length + 1) k')) c (l ++ [goneR r]) ∧ Touch (fun b=>b = c ∨ (w0.heap.size ≤ b ∧ b < n)) w (W3.setCell ⟨c,0,none⟩ (.slice p' (l.length + 1) k')) from ⟨a4,(Kat hb).trans a5⟩)
 clear hb hcx hc a1 a2 a3 a4 a5 h hr hn
 generalize r.id = i at *
 go_enter Tryz.func86,Tryz.ntmps86
 go_wp2_with (first
  | ((with_reducible apply Kd9);exact HB.out;exact rfl;clear HB)
  | ((with_reducible apply Kbz);exact HA.out;exact rfl;exact rfl;clear HA)
  | ((with_reducible apply Kaq);exact HS.out;exact rfl;exact rfl;clear HS))
 go_end0
 exact ⟨rfl,HF.out⟩
theorem comeR_any {T : Nat → Prop} {w0 w : World} {c n : Nat} {l : List ChangeD} {r : RelD} {x : Array Value} (h : ChIn T w0 w c l) (hn : ChB w c n) (hr0 : RRd w r x) (hk : ROk r) (hm : l.length ≤ 1100000) : Calls Tryz.prog 87 #[.agg x,.pointer (some ⟨c,0,none⟩)] w fun e w'=>e = .returned (.tuple #[]) ∧ ChIn T w0 w' c (l ++ [comeR r]) ∧ Touch (fun b=>b = c ∨ (w0.heap.size ≤ b ∧ b < n)) w w':=by
 have hb:=Kah (w:=w) (.cells x 49)
 have hbx:=heap_alloc_new w (.cells x 49)
 obtain ⟨p,k,hc⟩ : ∃ p k,w.heap[c]? = some (.cells #[.slice p l.length k] 52 (0,0)):=by obtain ⟨_,_,_,p,k,h4,_⟩:=h;exact ⟨p,k,h4⟩
 have hcb:=Kaj hb (Array.getElem?_eq_some_iff.1 hc).1 hc
 have hr:=hr0
 have HX:=yh (And.intro h (And.intro hr (And.intro hk (And.intro hm (And.intro hb (And.intro hbx (And.intro hc (And.intro hcb hn))))))))
 clear h hr hr0 hk hm hb hbx hc hcb hn
 go_enter Tryz.func87,Tryz.ntmps87
 go_wp2
 obtain ⟨h,hr,hk,hm,hb,hbx,hc,hcb,hn⟩:=HX.out
 have hS0 : (w.alloc (.cells x 49)).drew.heap[c]? = some (.cells #[.slice p l.length k] 52 (0,0)) ∧ (w.alloc (.cells x 49)).drew.heap[w.heap.size]? = some (.cells x 49 (0,0)):=⟨hcb,hbx⟩
 refine Kag (fun W=>W.heap[c]? = some (.cells #[.slice p l.length k] 52 (0,0)) ∧ W.heap[w.heap.size]? = some (.cells x 49 (0,0))) (by kernel_rfl) hS0 (fun hS=>?_)
 refine tk 0 3 (v:=.slice p l.length k) rfl rfl (fun W hW=>Kac rfl rfl (Kaf (w:=W) Tryz.underlying52 rfl (Kae (o:=0) hW.1 rfl))) ?_;simp only [zP]
 refine tk 1 4 (v:=.agg x) rfl rfl (fun W hW=>Kac rfl rfl (StT.get (P:=Tryz.prog) Kbb (Kc5.size hr) hW.2)) ?_;simp only [zP]
 refine Kan 2 5 rfl rfl (by kernel_rfl) rfl (Kam [.agg x] rfl rfl Tryz.func40 (by kernel_rfl) (by kernel_rfl)) ?_
 refine (Kev (hr.below (hb.drew)) hk.2).mono ?_
 rintro e W2 ⟨x2,rfl,ho,hb2⟩
 obtain ⟨vp,rfl,hpr⟩:=ho
 have hb3 : Below w.heap.size w W2:=Kaa hb.drew hb2
 have hcx:=chg_rel (w:=W2) (P:=fun b=>w.heap.size ≤ b) (Ka8.imp (P':=fun b=>w.heap.size ≤ b) (fun b _ hq=>Nat.le_trans hb.size hq) ⟨vp,rfl,hpr⟩)
 obtain ⟨p2,k2,p',k',W3,hc',a1,a2,a3,a4,a5,a6⟩:=h.push hn hb3 hcx hm
 rw [hc] at hc'
 simp only [Option.some.injEq,Obj.cells.injEq,Array.mk.injEq,List.cons.injEq,Value.slice.injEq,and_true,true_and] at hc'
 obtain ⟨rfl,rfl⟩:=hc'
 have hS2 : W2.heap[c]? = some (.cells #[.slice p l.length k] 52 (0,0)) ∧ W2.heap[w.heap.size]? = some (.cells x 49 (0,0)):=⟨Kaj hb2 (Array.getElem?_eq_some_iff.1 hS0.1).1 hS0.1,Kaj hb2 (Array.getElem?_eq_some_iff.1 hS0.2).1 hS0.2⟩
 have hS4 : (W2.alloc (.cells #[.int .i64 1,.int .i64 0,.int .i64 0,.int .i64 0,.slice none 0 0,.slice none 0 0,.int .i64 r.id,.int .i64 r.src,.int .i64 r.dst,.string (strB r.type),vp] 55)).heap[c]? = some (.cells #[.slice p l.length k] 52 (0,0)) ∧ (W2.alloc (.cells #[.int .i64 1,.int .i64 0,.int .i64 0,.int .i64 0,.slice none 0 0,.slice none 0 0,.int .i64 r.id,.int .i64 r.src,.int .i64 r.dst,.string (strB r.type),vp] 55)).heap[w.heap.size]? = some (.cells x 49 (0,0)):=⟨Kaj (Kah _) (Array.getElem?_eq_some_iff.1 hS2.1).1 hS2.1,Kaj (Kah _) (Array.getElem?_eq_some_iff.1 hS2.2).1 hS2.2⟩
 have hS5 : W3.heap[c]? = some (.cells #[.slice p l.length k] 52 (0,0)) ∧ W3.heap[w.heap.size]? = some (.cells x 49 (0,0)):=⟨a2,a6.heap hS2.2 (by omega)⟩
 have hbs:=Kar (P:=Tryz.prog) (w:=W2) (v:=.agg #[.int .i64 1,.int .i64 0,.int .i64 0,.int .i64 0,.slice none 0 0,.slice none 0 0,.int .i64 r.id,.int .i64 r.src,.int .i64 r.dst,.string (strB r.type),vp]) Tryz.underlying52 Tryz.sizeOf55 Tryz.zeroValue55 rfl (by omega) (by omega)
 refine ⟨_,rfl,.inr hS2,?_⟩;simp only [zP]
 refine tk 3 6 (v:=.agg #[.int .i64 1,.int .i64 0,.int .i64 0,.int .i64 0,.slice none 0 0,.slice none 0 0,.int .i64 r.id,.int .i64 r.src,.int .i64 r.dst,.string (strB r.type),vp]) rfl rfl (fun W hW=>exec_buildCR rfl rfl) ?_;simp only [zP]
 refine Kco 4 7 (v:=.slice (some ⟨W2.heap.size,0,none⟩) 1 1) rfl rfl (by kernel_rfl) rfl (Kbf rfl rfl hbs) (.inr hS4) ?_;simp only [zP]
 refine Kco 5 8 (v:=.slice p' (l.length + 1) k') rfl rfl (by kernel_rfl) rfl (Kcn rfl rfl rfl a1) (.inr hS5) ?_;simp only [zP]
 refine Kbx 6 rfl rfl (by kernel_rfl) rfl (Kci rfl rfl rfl a3) (.inl (by kernel_rfl)) ?_
 refine done (by kernel_rfl) ?_ _
 have HF:=yh (show ChIn T w0 (W3.setCell ⟨c,0,none⟩ (.slice p' (l.length + 1) k')) c (l ++ [comeR r]) ∧ Touch (fun b=>b = c ∨ (w0.heap.size ≤ b ∧ b < n)) w (W3.setCell ⟨c,0,none⟩ (.slice p' (l.length + 1) k')) from ⟨a4,(Kat hb3).trans a5⟩)
 clear h hr hk hm hb hbx hc hcb hn hS0 hS a1 a2 a3 a4 a5 a6 hbs hS2 hS4 hS5 HX hcx hb2 hb3
 go_end0
 exact ⟨rfl,HF.out⟩
theorem id_firstN {w : World} {r : NodeD} {x : Array Value} (h : NRd w r x) : x[0]? = some (.int .i64 r.id):=by obtain ⟨pl,cl,pp,cp,rfl,_,_⟩:=h;rfl
theorem idOfN_any {w : World} {r : NodeD} {x : Array Value} (hr : NRd w r x) : Calls Tryz.prog 89 #[.agg x] w fun e w'=>e = .returned (.int .i64 r.id) ∧ Below w.heap.size w w':=by
 have hb:=yh (Kah (w:=w) (.cells x 45))
 have p0 : (w.alloc (.cells x 45)).cell? ⟨w.heap.size,0,none⟩ = some (.int .i64 r.id):=Kae (o:=0) (heap_alloc_new w _) (id_firstN hr)
 clear hr
 generalize r.id = i at *
 go_enter Tryz.func89,Tryz.ntmps89
 go_wp2
 go_ret
 exact ⟨rfl,hb.out⟩
def goneN (r : NodeD) : ChangeD:=⟨2,r.id,0,node0,rel0⟩
def comeN (r : NodeD) : ChangeD:=⟨0,0,0,r,rel0⟩
theorem goneN_any {T : Nat → Prop} {w0 w : World} {c n : Nat} {l : List ChangeD} {r : NodeD} {x : Array Value} (h : ChIn T w0 w c l) (hn : ChB w c n) (hr : NRd w r x) (hm : l.length ≤ 1100000) : Calls Tryz.prog 90 #[.agg x,.pointer (some ⟨c,0,none⟩)] w fun e w'=>e = .returned (.tuple #[]) ∧ ChIn T w0 w' c (l ++ [goneN r]) ∧ Touch (fun b=>b = c ∨ (w0.heap.size ≤ b ∧ b < n)) w w':=by
 have hb:=Kah (w:=w) (.cells x 45)
 have p0 : (w.alloc (.cells x 45)).cell? ⟨w.heap.size,0,none⟩ = some (.int .i64 r.id):=Kae (o:=0) (heap_alloc_new w _) (id_firstN hr)
 have hcx:=chg_flat (w.alloc (.cells x 45)) (fun b=>w.heap.size ≤ b) 2 r.id 0
 obtain ⟨p,k,p',k',W3,hc,a1,a2,a3,a4,a5,_⟩:=h.push hn hb hcx hm
 have c0 : (w.alloc (.cells x 45)).cell? ⟨c,0,none⟩ = some (.slice p l.length k):=Kae (o:=0) (Kaj hb (Array.getElem?_eq_some_iff.1 hc).1 hc) rfl
 have HB:=yh (Kar (P:=Tryz.prog) (w:=w.alloc (.cells x 45)) (v:=.agg #[.int .i64 2,.int .i64 r.id,.int .i64 0,.int .i64 0,.slice none 0 0,.slice none 0 0,.int .i64 0,.int .i64 0,.int .i64 0,.string ⟨#[]⟩,.slice none 0 0]) Tryz.underlying52 Tryz.sizeOf55 Tryz.zeroValue55 rfl (by omega) (by omega))
 simp only [World.size_alloc] at HB a1
 have HA:=yh a1
 have HS:=yh a3
 have HF:=yh (show ChIn T w0 (W3.setCell ⟨c,0,none⟩ (.slice p' (l.length + 1) k')) c (l ++ [goneN r]) ∧ Touch (fun b=>b = c ∨ (w0.heap.size ≤ b ∧ b < n)) w (W3.setCell ⟨c,0,none⟩ (.slice p' (l.length + 1) k')) from ⟨a4,(Kat hb).trans a5⟩)
 clear hb hcx hc a1 a2 a3 a4 a5 h hr hn
 generalize r.id = i at *
 go_enter Tryz.func90,Tryz.ntmps90
 go_wp2_with (first
  | ((with_reducible apply Kd9);exact HB.out;exact rfl;clear HB)
  | ((with_reducible apply Kbz);exact HA.out;exact rfl;exact rfl;clear HA)
  | ((with_reducible apply Kaq);exact HS.out;exact rfl;exact rfl;clear HS))
 go_end0
 exact ⟨rfl,HF.out⟩
theorem comeN_any {T : Nat → Prop} {w0 w : World} {c n : Nat} {l : List ChangeD} {r : NodeD} {x : Array Value} (h : ChIn T w0 w c l) (hn : ChB w c n) (hr0 : NRd w r x) (hk : NOk r) (hm : l.length ≤ 1100000) : Calls Tryz.prog 91 #[.agg x,.pointer (some ⟨c,0,none⟩)] w fun e w'=>e = .returned (.tuple #[]) ∧ ChIn T w0 w' c (l ++ [comeN r]) ∧ Touch (fun b=>b = c ∨ (w0.heap.size ≤ b ∧ b < n)) w w':=by
 have hb:=Kah (w:=w) (.cells x 45)
 have hbx:=heap_alloc_new w (.cells x 45)
 obtain ⟨p,k,hc⟩ : ∃ p k,w.heap[c]? = some (.cells #[.slice p l.length k] 52 (0,0)):=by obtain ⟨_,_,_,p,k,h4,_⟩:=h;exact ⟨p,k,h4⟩
 have hcb:=Kaj hb (Array.getElem?_eq_some_iff.1 hc).1 hc
 have hr:=hr0
 have HX:=yh (And.intro h (And.intro hr (And.intro hk (And.intro hm (And.intro hb (And.intro hbx (And.intro hc (And.intro hcb hn))))))))
 clear h hr hr0 hk hm hb hbx hc hcb hn
 go_enter Tryz.func91,Tryz.ntmps91
 go_wp2
 obtain ⟨h,hr,hk,hm,hb,hbx,hc,hcb,hn⟩:=HX.out
 have hS0 : (w.alloc (.cells x 45)).drew.heap[c]? = some (.cells #[.slice p l.length k] 52 (0,0)) ∧ (w.alloc (.cells x 45)).drew.heap[w.heap.size]? = some (.cells x 45 (0,0)):=⟨hcb,hbx⟩
 refine Kag (fun W=>W.heap[c]? = some (.cells #[.slice p l.length k] 52 (0,0)) ∧ W.heap[w.heap.size]? = some (.cells x 45 (0,0))) (by kernel_rfl) hS0 (fun hS=>?_)
 refine tk 0 3 (v:=.slice p l.length k) rfl rfl (fun W hW=>Kac rfl rfl (Kaf (w:=W) Tryz.underlying52 rfl (Kae (o:=0) hW.1 rfl))) ?_;simp only [zP]
 refine tk 1 4 (v:=.agg x) rfl rfl (fun W hW=>Kac rfl rfl (StT.get (P:=Tryz.prog) Kay (Kb9.size hr) hW.2)) ?_;simp only [zP]
 refine Kan 2 5 rfl rfl (by kernel_rfl) rfl (Kam [.agg x] rfl rfl Tryz.func39 (by kernel_rfl) (by kernel_rfl)) ?_
 refine (Kd2 (hr.below (hb.drew)) hk.1 hk.2.2).mono ?_
 rintro e W2 ⟨x2,rfl,ho,hb2⟩
 obtain ⟨vl,vp,rfl,hpl,hpr⟩:=ho
 have hb3 : Below w.heap.size w W2:=Kaa hb.drew hb2
 have hcx:=chg_node (w:=W2) (P:=fun b=>w.heap.size ≤ b) (Ka0.imp (P':=fun b=>w.heap.size ≤ b) (fun b _ hq=>Nat.le_trans hb.size hq) ⟨vl,vp,rfl,hpl,hpr⟩)
 obtain ⟨p2,k2,p',k',W3,hc',a1,a2,a3,a4,a5,a6⟩:=h.push hn hb3 hcx hm
 rw [hc] at hc'
 simp only [Option.some.injEq,Obj.cells.injEq,Array.mk.injEq,List.cons.injEq,Value.slice.injEq,and_true,true_and] at hc'
 obtain ⟨rfl,rfl⟩:=hc'
 have hS2 : W2.heap[c]? = some (.cells #[.slice p l.length k] 52 (0,0)) ∧ W2.heap[w.heap.size]? = some (.cells x 45 (0,0)):=⟨Kaj hb2 (Array.getElem?_eq_some_iff.1 hS0.1).1 hS0.1,Kaj hb2 (Array.getElem?_eq_some_iff.1 hS0.2).1 hS0.2⟩
 have hS4 : (W2.alloc (.cells #[.int .i64 0,.int .i64 0,.int .i64 0,.int .i64 r.id,vl,vp,.int .i64 0,.int .i64 0,.int .i64 0,.string ⟨#[]⟩,.slice none 0 0] 55)).heap[c]? = some (.cells #[.slice p l.length k] 52 (0,0)) ∧ (W2.alloc (.cells #[.int .i64 0,.int .i64 0,.int .i64 0,.int .i64 r.id,vl,vp,.int .i64 0,.int .i64 0,.int .i64 0,.string ⟨#[]⟩,.slice none 0 0] 55)).heap[w.heap.size]? = some (.cells x 45 (0,0)):=⟨Kaj (Kah _) (Array.getElem?_eq_some_iff.1 hS2.1).1 hS2.1,Kaj (Kah _) (Array.getElem?_eq_some_iff.1 hS2.2).1 hS2.2⟩
 have hS5 : W3.heap[c]? = some (.cells #[.slice p l.length k] 52 (0,0)) ∧ W3.heap[w.heap.size]? = some (.cells x 45 (0,0)):=⟨a2,a6.heap hS2.2 (by omega)⟩
 have hbs:=Kar (P:=Tryz.prog) (w:=W2) (v:=.agg #[.int .i64 0,.int .i64 0,.int .i64 0,.int .i64 r.id,vl,vp,.int .i64 0,.int .i64 0,.int .i64 0,.string ⟨#[]⟩,.slice none 0 0]) Tryz.underlying52 Tryz.sizeOf55 Tryz.zeroValue55 rfl (by omega) (by omega)
 refine ⟨_,rfl,.inr hS2,?_⟩;simp only [zP]
 refine tk 3 6 (v:=.agg #[.int .i64 0,.int .i64 0,.int .i64 0,.int .i64 r.id,vl,vp,.int .i64 0,.int .i64 0,.int .i64 0,.string ⟨#[]⟩,.slice none 0 0]) rfl rfl (fun W hW=>exec_buildCN rfl rfl) ?_;simp only [zP]
 refine Kco 4 7 (v:=.slice (some ⟨W2.heap.size,0,none⟩) 1 1) rfl rfl (by kernel_rfl) rfl (Kbf rfl rfl hbs) (.inr hS4) ?_;simp only [zP]
 refine Kco 5 8 (v:=.slice p' (l.length + 1) k') rfl rfl (by kernel_rfl) rfl (Kcn rfl rfl rfl a1) (.inr hS5) ?_;simp only [zP]
 refine Kbx 6 rfl rfl (by kernel_rfl) rfl (Kci rfl rfl rfl a3) (.inl (by kernel_rfl)) ?_
 refine done (by kernel_rfl) ?_ _
 have HF:=yh (show ChIn T w0 (W3.setCell ⟨c,0,none⟩ (.slice p' (l.length + 1) k')) c (l ++ [comeN r]) ∧ Touch (fun b=>b = c ∨ (w0.heap.size ≤ b ∧ b < n)) w (W3.setCell ⟨c,0,none⟩ (.slice p' (l.length + 1) k')) from ⟨a4,(Kat hb3).trans a5⟩)
 clear h hr hk hm hb hbx hc hcb hn hS0 hS a1 a2 a3 a4 a5 a6 hbs hS2 hS4 hS5 HX hcx hb2 hb3
 go_end0
 exact ⟨rfl,HF.out⟩
section
variable {P : Program} {t e : TypeId} {s : Nat}
theorem runSl (ht : P.underlying t = some (.slice e)) (hs : ∀ w,(sizeOf e).run P w = .ok s w) (a : Option Addr) (len cap : Nat) (lo hi : Option Int) (l h : Nat)
 (hlo : ∀ i,lo = some i → i = (l : Int)) (hlo' : lo = none → l = 0) (hhi : ∀ i,hi = some i → i = (h : Int)) (hhi' : hi = none → h = len) (h1 : l ≤ h) (h2 : h ≤ cap) (W : World) :
 (Instr.slice t (.slice a len cap) (lo.map (.int .i64)) (hi.map (.int .i64)) none).run P W = .ok (.slice (if cap = l then a else a.map (·.add (l * s))) (h - l) (cap - l)) W:=by
 have hb : (Instr.sliceBounds true len cap (lo.map (.int .i64)) (hi.map (.int .i64)) none).run P W = .ok (l,h,cap) W:=by
  have e1 : ∀ (x y : Nat) (code : BoundsCode),x ≤ y → (Instr.sliceBound (.int .i64 (x : Int)) y code).run P W = .ok x W:=fun x y code hxy=>by
   simp [Instr.sliceBound,asIntOf,Sem.run_bind,hxy]
  cases lo with
  | none =>
    obtain rfl:=hlo' rfl
    cases hi with
    | none=>obtain rfl:=hhi' rfl;simp [Instr.sliceBounds]
    | some i=>obtain rfl:=hhi i rfl;simp [Instr.sliceBounds,Sem.run_bind,e1 h cap _ h2]
  | some j =>
    obtain rfl:=hlo j rfl
    cases hi with
    | none=>obtain rfl:=hhi' rfl;simp [Instr.sliceBounds,Sem.run_bind,e1 l h _ h1]
    | some i=>obtain rfl:=hhi i rfl;simp [Instr.sliceBounds,Sem.run_bind,e1 h cap _ h2,e1 l h _ h1]
 simp only [Instr.slice,Sem.run_bind,run_underlying ht,Result.andThen_ok,hb,hs,Sem.run_pure]
theorem runSlAt (ht : P.underlying t = some (.slice e)) (x : Value) (lo hi mx : Option Value) (W : World) : (Instr.sliceAt t x lo hi mx).run P W = (Instr.slice t x lo hi mx).run P W:=by
 simp [Instr.sliceAt,run_underlying ht]
end
section
variable {α : Type} {F : World → α → Array Value → Prop} {K : Nat} {P : Program} {t T : TypeId} {w : World} {l : List α} {p : Option Addr} {c : Nat}
theorem GRd.rest (h : GRd F K w p c l) (hT : P.underlying T = some (.slice t)) (hs : ∀ w,(sizeOf t).run P w = .ok K w) {n : Nat} (hn : n ≤ l.length) :
 ∃ q d,(∀ W,(Instr.sliceAt T (.slice p l.length c) (some (.int .i64 (n : Int))) Option.none Option.none).run P W = .ok (.slice q (l.drop n).length d) W) ∧ GRd F K w q d (l.drop n):=by
 have hc:=h.1.1
 have hr:=fun W=>(runSlAt (P:=P) hT (.slice p l.length c) (some (.int .i64 (n : Int))) Option.none Option.none W).trans (runSl (P:=P) hT hs p l.length c (some (n : Int)) Option.none n l.length (fun i e=>by cases e;rfl) (fun e=>by cases e) (fun i e=>by cases e) (fun _=>rfl) hn hc W)
 have hl : (l.drop n).length = l.length - n:=List.length_drop
 refine ⟨_,_,fun W=>by rw [hl];simpa using hr W,?_⟩
 have hd:=h.drop hn
 unfold dropAt at hd
 by_cases h0 : c = n
 ·rw [if_pos h0] at hd ⊢;exact hd
 ·rw [if_neg h0] at hd ⊢
  cases p with
  | none=>exact hd
  | some ad =>
    by_cases hne : l.drop n = []
    ·have h1:=hd.1
     rw [hne] at h1 ⊢
     exact ⟨⟨h1.1,h1.2.1,fun e=>by cases e⟩,fun ad' _=>⟨fun e=>absurd rfl e,fun j v hv=>by simp at hv⟩⟩
    ·have hsp:=(hd.2 _ rfl).1 hne
     obtain ⟨b,o,sp⟩:=ad
     simp only at hsp
     subst hsp
     simp only [Option.map_some,Kau] at hd ⊢
     exact hd
end
def RM {α : Type} (F : World → α → Array Value → Prop) (id : α → Int) (V W : World) (b : Nat) (l : List α) : Prop:=∃ m,IntMap W b m ∧ (∀ k,m k ≠ none ↔ ∃ a ∈ l,id a = k) ∧ ∀ a ∈ l,∃ x,m (id a) = some (.agg x) ∧ F V a x
section
variable {α : Type} {F : World → α → Array Value → Prop} {id : α → Int} {V W W' : World} {b : Nat} {l : List α} {P : Program} {T K E : TypeId}
theorem RM.keep (h : RM F id V W b l) (e : W'.heap[b]? = W.heap[b]?) : RM F id V W' b l:=by obtain ⟨m,h1,h2⟩:=h;exact ⟨m,h1.of_heap e,h2⟩
theorem RM.lt (h : RM F id V W b l) : b < W.heap.size:=by obtain ⟨m,h1,h2⟩:=h;exact h1.lt
theorem RM.start (h : W.heap[b]? = some (.map #[] 0)) : RM F id V W b []:=⟨_,IntMap.fresh h,fun k=>by simp,fun a ha=>by simp at ha⟩
theorem RM.put (h : RM F id V W b l) (hT : P.underlying T = some (.map K E)) (hK : P.underlying K = some (.int .i64)) {n : α} {x : Array Value} (hn : ∀ a ∈ l,id a ≠ id n) (hx : F V n x) :
 ∃ W',(Instr.mapUpdate T (.map (some b)) (.int .i64 (id n)) (.agg x)).run P W = .ok () W' ∧ RM F id V W' b (l ++ [n]) ∧ Touch (fun y=>y = b) W W':=by
 obtain ⟨m,h1,h2,h3⟩:=h
 obtain ⟨W',r1,r2,r3,r4⟩:=Kc7 (P:=P) h1 hT hK (id n) (.agg x)
 refine ⟨W',r1,⟨_,r3,fun k=>?_,fun a ha=>?_⟩,r2⟩
 ·unfold updI
  by_cases e : k = id n
  ·rw [if_pos e]
   exact ⟨fun _=>⟨n,by simp,e.symm⟩,fun _=>by simp⟩
  ·rw [if_neg e,h2]
   constructor
   ·rintro ⟨a,ha,e2⟩;exact ⟨a,List.mem_append_left _ ha,e2⟩
   ·rintro ⟨a,ha,e2⟩
    rcases List.mem_append.1 ha with ha | ha
    ·exact ⟨a,ha,e2⟩
    ·rw [List.mem_singleton.1 ha] at e2;exact absurd e2.symm e
 ·unfold updI
  rcases List.mem_append.1 ha with ha | ha
  ·rw [if_neg (hn a ha)];exact h3 a ha
  ·rw [List.mem_singleton.1 ha,if_pos rfl];exact ⟨x,rfl,hx⟩
theorem RM.del (h : RM F id V W b l) (hT : P.underlying T = some (.map K E)) (hK : P.underlying K = some (.int .i64)) (k : Int) (T2 ty : TypeId) :
 ∃ W',(Builtin.delete_ #[T,T2] ty #[.map (some b),.int .i64 k]).run P W = .ok (.tuple #[]) W' ∧ RM F id V W' b (l.filter fun a=>!(id a == k)) ∧ Touch (fun y=>y = b) W W':=by
 obtain ⟨m,h1,h2,h3⟩:=h
 obtain ⟨W',r1,r2,r3,r4⟩:=Kd4 (P:=P) h1 hT hK k T2 ty
 refine ⟨W',r1,⟨_,r3,fun j=>?_,fun a ha=>?_⟩,r2⟩
 ·unfold delI
  by_cases e : j = k
  ·rw [if_pos e]
   refine ⟨fun h=>absurd rfl h,?_⟩
   rintro ⟨a,ha,e2⟩
   have:=(List.mem_filter.1 ha).2
   rw [e2,e] at this;simp at this
  ·rw [if_neg e,h2]
   constructor
   ·rintro ⟨a,ha,e2⟩;exact ⟨a,List.mem_filter.2 ⟨ha,by simp [e2,e]⟩,e2⟩
   ·rintro ⟨a,ha,e2⟩;exact ⟨a,(List.mem_filter.1 ha).1,e2⟩
 ·obtain ⟨ha1,ha2⟩:=List.mem_filter.1 ha
  unfold delI
  rw [if_neg (by simpa using ha2)]
  exact h3 a ha1
theorem RM.get (h : RM F id V W b l) (hT : P.underlying T = some (.map K E)) (hK : P.underlying K = some (.int .i64)) {z : Array Value} (hz : ∀ w,(zeroValue E).run P w = .ok (.agg z) w) (k : Int) :
 ∃ x,(∀ W' : World,W'.heap[b]? = W.heap[b]? → (Instr.lookup T (.map (some b)) (.int .i64 k) true).run P W' = .ok (.tuple #[.agg x,.bool (l.any fun a=>id a == k)]) W') ∧ (∀ a ∈ l,id a = k → F V a x) ∧ ((l.any fun a=>id a == k) = false → x = z):=by
 obtain ⟨m,h1,h2,h3⟩:=h
 have hr:=fun (W' : World) (e : W'.heap[b]? = W.heap[b]?)=>run_lookup_i2 (h1.of_heap e) hT hK hz k
 cases hf : l.any fun a=>id a == k with
 | true =>
   rw [List.any_eq_true] at hf
   obtain ⟨a,ha,e⟩:=hf
   have e : id a = k:=by simpa using e
   obtain ⟨x,e2,hx⟩:=h3 a ha
   rw [e] at e2
   simp only [e2] at hr
   refine ⟨x,hr,fun a' ha' e'=>?_,fun h=>by cases h⟩
   obtain ⟨x',e3,hx'⟩:=h3 a' ha'
   rw [e',e2] at e3
   cases e3
   exact hx'
 | false =>
   have hn : m k = none:=by
    by_cases e : m k = none
    ·exact e
    ·obtain ⟨a,ha,e2⟩:=(h2 k).1 e
     rw [List.any_eq_false] at hf
     exact absurd (by simpa using e2) (hf a ha)
   simp only [hn] at hr
   refine ⟨z,hr,fun a ha e=>?_,fun _=>rfl⟩
   rw [List.any_eq_false] at hf
   exact absurd (by simpa using e) (hf a ha)
def leftD (id : α → Int) (a b : List α) : List α:=a.filter fun x=>!(b.any fun y=>id y == id x)
theorem leftD_nil (id : α → Int) (a : List α) : leftD id a [] = a:=by unfold leftD;simp
theorem leftD_snoc (id : α → Int) (a b : List α) (y : α) : (leftD id a b).filter (fun x=>!(id x == id y)) = leftD id a (b ++ [y]):=by
 unfold leftD
 rw [List.filter_filter]
 apply List.filter_congr
 intro x _
 rw [List.any_append,Bool.not_or,show (id x == id y) = (id y == id x) from Bool.beq_comm]
 simp only [List.any_cons,List.any_nil,Bool.or_false]
 exact Bool.and_comm _ _
theorem leftD_any (id : α → Int) {a b : List α} {y : α} (hb : ∀ z ∈ b,id z ≠ id y) : ((leftD id a b).any fun x=>id x == id y) = a.any fun x=>id x == id y:=by
 unfold leftD
 rw [Bool.eq_iff_iff,List.any_eq_true,List.any_eq_true]
 constructor
 ·rintro ⟨x,hx,e⟩;exact ⟨x,(List.mem_filter.1 hx).1,e⟩
 ·rintro ⟨x,hx,e⟩
  refine ⟨x,List.mem_filter.2 ⟨hx,?_⟩,e⟩
  have e : id x = id y:=by simpa using e
  rw [Bool.not_eq_true',List.any_eq_false]
  intro z hz e2
  exact hb z hz (by rw [← e];simpa using e2)
theorem leftD_has (id : α → Int) {a b : List α} {x : α} (hx : x ∈ a) : ((leftD id a b).any fun y=>id y == id x) = !(b.any fun y=>id y == id x):=by
 unfold leftD
 rw [Bool.eq_iff_iff,List.any_eq_true]
 constructor
 ·rintro ⟨y,hy,e⟩
  have e : id y = id x:=by simpa using e
  have:=(List.mem_filter.1 hy).2
  rwa [e] at this
 ·intro h
  exact ⟨x,List.mem_filter.2 ⟨hx,h⟩,by simp⟩
theorem newD_snoc (id : α → Int) (same : α → α → Bool) (a b : List α) (y : α) : newD id same a (b ++ [y]) = newD id same a b ++ if (a.any fun x=>id x == id y && same x y) = true then [] else [y]:=by
 unfold newD
 rw [List.filter_append]
 congr 1
 cases h : a.any fun x=>id x == id y && same x y <;> simp [List.filter,h]
theorem newD_no (id : α → Int) (same : α → α → Bool) {a : List α} {y : α} (h : (a.any fun x=>id x == id y) = false) : (a.any fun x=>id x == id y && same x y) = false:=by
 rw [List.any_eq_false] at h ⊢
 intro x hx e
 rw [Bool.and_eq_true] at e
 exact h x hx e.1
theorem newD_one (id : α → Int) (same : α → α → Bool) {a : List α} (ha : Rise id a) {x y : α} (hx : x ∈ a) (e : id x = id y) : (a.any fun x=>id x == id y && same x y) = same x y:=by
 rw [Bool.eq_iff_iff,List.any_eq_true]
 constructor
 ·rintro ⟨z,hz,e2⟩
  rw [Bool.and_eq_true] at e2
  have e3 : id z = id y:=by simpa using e2.1
  rw [← rise_one id ha hz hx (e3.trans e.symm)]
  exact e2.2
 ·intro h
  exact ⟨x,hx,by rw [h,e];simp⟩
theorem lost_snoc (id : α → Int) (a b : List α) (x : α) : ((a ++ [x]).filter fun r=>!(b.any fun s=>id s == id r)) = (a.filter fun r=>!(b.any fun s=>id s == id r)) ++ if (b.any fun s=>id s == id x) = true then [] else [x]:=by
 rw [List.filter_append]
 congr 1
 cases h : b.any fun s=>id s == id x <;> simp [List.filter,h]
theorem Kej (id : α → Int) {l : List α} (h : Rise id l) {j : Nat} (hj : j < l.length) : ∀ z ∈ l.take j,id z ≠ id l[j]:=fun z hz e=>by
 obtain ⟨i,hi,rfl⟩:=List.getElem_of_mem hz
 rw [List.length_take] at hi
 rw [List.getElem_take] at e
 have:=(List.pairwise_iff_getElem.1 h) i j (by omega) hj (by omega)
 omega
end
theorem exec_callF {P : Program} {w : World} {a : Act} {o : Oper} {f : Operand} {g : FuncId} {fn : Func} {lb us : Array Value} {xs : List Operand} {ts : Array TypeId} (vs : List Value) (ho : o.op = .call { callee:=.value f,args:=xs.toArray,argTypes:=ts }) (hf : a.eval f = .func (.func g) #[] lb) (hx : xs.map a.eval = vs) (he : vs.toArray ++ lb = us)
 (hfn : P.funcs[g]? = some fn) (hb : fn.body.isSome = true) (hn : (fn.name == "runtime.NumGoroutine") = false) : (execOp a.eval o).run P w = .ok (.enter g us) w := by
 have hc:=Kcq hfn hb hn us w
 unfold execOp
 simp only [ho,resolve,hf,List.map_toArray,hx,Deferred.ofValue,Sem.run_bind,Sem.run_pure,Result.andThen_ok,invoke,Array.empty_append,he]
 exact hc
theorem ltOfBlk {V W : World} {b : Nat} (h : V.heap[b]? = W.heap[b]?) (hl : b < W.heap.size) : b < V.heap.size:=by
 rw [Array.getElem?_eq_getElem hl] at h
 exact (Array.getElem?_eq_some_iff.1 h).1
def Gath (w W : World) (c : Nat) (l : List ChangeD) : Prop:=∃ p k,W.heap[c]? = some (.cells #[.slice p l.length k] 52 (0,0)) ∧ GOwn COwn 55 11 W (fun b=>w.heap.size ≤ b) (.slice p l.length k) l
theorem ChIn.gath {T : Nat → Prop} {w w0 W W' : World} {c : Nat} {l : List ChangeD} {D : Nat → Prop} (h : ChIn T w0 W c l) (hw : w.heap.size ≤ w0.heap.size) (g : Touch D W W') (hD : ∀ b,D b → b < w0.heap.size ∧ b ≠ c) : Gath w W' c l:=by
 have hlt:=h.lt
 obtain ⟨h1,h2,h3,p,k,h4,h5⟩:=h
 exact ⟨p,k,(g.block c hlt fun hd=>(hD c hd).2 rfl).trans h4,(h5.kept (P':=fun b=>w0.heap.size ≤ b) Kcw (fun b hb hl=>g.block b hl fun hd=>by have:=(hD b hd).1;omega) fun b _ hb=>hb).own Kcw |>.imp Kcw fun b _ hb=>Nat.le_trans hw hb⟩
theorem eachR_any {w U : World} (hE : Env U) (hU : Below U.heap.size U w) {pa pb : Option Addr} {ca cb : Nat} {a b : List RelD} (ha : GRd RRd 5 U pa ca a) (hb : GRd RRd 5 U pb cb b) (hka : ∀ x ∈ a,ROk x) (hkb : ∀ x ∈ b,ROk x) (hsy : ∀ x ∈ a,∀ y ∈ b,sameR y x = sameR x y) (hra : Rise RelD.id a) (hrb : Rise RelD.id b) (hla : a.length ≤ 1000000) (hlb : b.length ≤ 1000000) {c1 c2 : Nat} (hc1 : w.heap[c1]? = some (.cells #[.slice none 0 0] 52 (0,0))) (hc2 : w.heap[c2]? = some (.cells #[.slice none 0 0] 52 (0,0))) (hne : c1 ≠ c2) (hcu : U.heap.size ≤ c1 ∧ U.heap.size ≤ c2) :
 Calls Tryz.prog 84 #[.slice pa a.length ca,.slice pb b.length cb,.func (.func 85) #[] #[],.func (.func 82) #[] #[],.func (.func 86) #[] #[.pointer (some ⟨c1,0,none⟩)],.func (.func 87) #[] #[.pointer (some ⟨c2,0,none⟩)]] w fun e w'=>e = .returned (.tuple #[]) ∧ Gath w w' c1 ((leftD RelD.id a b).map goneR) ∧ Gath w w' c2 ((newD RelD.id sameR a b).map comeR) ∧ Touch (fun b=>b = c1 ∨ b = c2) w w':=by
 have z1 : (a.length : Int) ≤ 1000000:=by omega
 have z2 : (b.length : Int) ≤ 1000000:=by omega
 have hl1:=(Array.getElem?_eq_some_iff.1 hc1).1
 have hl2:=(Array.getElem?_eq_some_iff.1 hc2).1
 have HU:=yh (And.intro hE (And.intro hU (And.intro ha (And.intro hb (And.intro hka (And.intro hkb (And.intro hra hrb)))))))
 have HC:=yh (And.intro hc1 (And.intro hc2 (And.intro hne (And.intro hcu (And.intro hl1 hl2)))))
 have HL:=yh (And.intro hla hlb)
 have HSY:=yh hsy
 clear hE hU ha hb hka hkb hsy hra hrb hla hlb hc1 hc2 hne hcu hl1 hl2
 have hmm:=@run_makeMap Tryz.prog
 go_enter Tryz.func84,Tryz.ntmps84
 go_wp2
 clear hmm
 have hw1:=Kah (w:=w) (.map #[] 0)
 have hm0:=heap_alloc_new w (.map #[] 0)
 have hs1 : (w.alloc (.map #[] 0)).heap.size = w.heap.size + 1:=by simp
 generalize w.alloc (.map #[] 0) = w1 at *
 have H1:=yh (And.intro hw1 (And.intro hm0 hs1))
 clear hw1 hm0 hs1
 go_loopw [26] (fun i W=>∃ j : Nat,j ≤ a.length ∧ i = .int .i64 (j : Int) ∧ Hid (RM RRd RelD.id U W w.heap.size (a.take j) ∧ Touch (fun y=>y = w.heap.size) w1 W)) (fun i _=>a.length - (intOf i).toNat)
 case atStart=>exact ⟨0,Nat.zero_le _,rfl,yh ⟨RM.start H1.out.2.1,Touch.refl _ _⟩⟩
 case round =>
  obtain ⟨j,hj,rfl,HI⟩:=hrel
  by_cases hlt : j < a.length
  ·have hlt1:=Nat.succ_le_of_lt hlt
   obtain ⟨hm,hT⟩:=HI.out
   have hUw : Below U.heap.size U wr:=hT.below (Kaa HU.out.2.1 H1.out.1) (fun y hy e=>by have:=HU.out.2.1.size;omega) (by have:=HU.out.2.1.size;have:=H1.out.2.2;omega)
   obtain ⟨b1,o1,x,rfl,hs,hc,hxU⟩:=HU.out.2.2.1.get hlt
   have hxw:=RRd.below hxU hUw
   have hld : (loadVar 49 ⟨b1,o1 + j * 5,none⟩).run Tryz.prog wr = .ok (.agg x) wr:=StT.load (P:=Tryz.prog) Kbb hs fun i u hu=>Kad hUw (ltOf (hc i u hu)) (hc i u hu)
   have hst:=StT.fresh (P:=Tryz.prog) (W:=wr) Kbb hs (Kc5.ones hxw)
   have hnew:=Kej RelD.id HU.out.2.2.2.2.2.2.1 hlt
   have htk : a.take (j + 1) = a.take j ++ [a[j]]:=List.take_succ_eq_append_getElem hlt
   generalize a[j] = aj at *
   have HLD:=yh hld
   have HST:=yh hst
   have HY:=yh (And.intro hm (And.intro hT (And.intro hUw (And.intro hxU (And.intro hnew htk)))))
   clear hm hT hUw hxU hnew htk hld hst hs hc hxw HI
   go_wp2_with (first
    | ((with_reducible apply Kao);exact HLD.out;exact rfl;clear HLD)
    | ((with_reducible apply Kaq);exact HST.out _ rfl;exact rfl;exact rfl;clear HST))
   obtain ⟨hm,hT,hUw,hxU,hnew,htk⟩:=HY.out
   have hnb:=Kah (w:=wr) (.cells x 49)
   have hS0 : Below wr.heap.size wr (wr.alloc (.cells x 49)).drew ∧ (wr.alloc (.cells x 49)).drew.heap[wr.heap.size]? = some (.cells x 49 (0,0)):=⟨hnb.drew,heap_alloc_new wr _⟩
   have hxr:=RRd.below hxU hUw
   refine Kag (fun W=>Below wr.heap.size wr W ∧ W.heap[wr.heap.size]? = some (.cells x 49 (0,0))) (by kernel_rfl) hS0 (fun hS=>?_)
   refine tm 0 30 (v:=.map (some w.heap.size)) rfl rfl rfl ?_;simp only [zP]
   refine tm 1 31 (v:=.func (.func 85) #[] #[]) rfl rfl rfl ?_;simp only [zP]
   refine tk 2 32 (v:=.agg x) rfl rfl (fun W hW=>Kac rfl rfl (StT.get (P:=Tryz.prog) Kbb (Kc5.size hxr) hW.2)) ?_;simp only [zP]
   refine tk 4 34 (v:=.agg x) rfl rfl (fun W hW=>Kac rfl rfl (StT.get (P:=Tryz.prog) Kbb (Kc5.size hxr) hW.2)) ?_;simp only [zP]
   refine Kan 3 33 rfl rfl (by kernel_rfl) rfl (exec_callF [.agg x] rfl rfl rfl rfl Tryz.func85 (by kernel_rfl) (by kernel_rfl)) ?_
   refine (idOfR_any (RRd.below hxr hS0.1)).mono ?_
   rintro e W3 ⟨rfl,hb3⟩
   have hS3 : Below wr.heap.size wr W3 ∧ W3.heap[wr.heap.size]? = some (.cells x 49 (0,0)):=⟨Kaa hS0.1 hb3,Kaj hb3 (Array.getElem?_eq_some_iff.1 hS0.2).1 hS0.2⟩
   obtain ⟨W5,r1,r2,r3⟩:=(hm.keep (hS3.1.block _ hm.lt)).put (P:=Tryz.prog) Tryz.underlying69 Tryz.underlying2 (n:=aj) hnew hxU
   refine ⟨_,rfl,.inr hS3,?_⟩;simp only [zP]
   refine Kbx 5 rfl rfl (by kernel_rfl) rfl (Ka9 rfl rfl rfl rfl r1) (.inl (by kernel_rfl)) ?_
   refine done (by kernel_rfl) ?_ _
   have HN:=yh (show RM RRd RelD.id U W5 w.heap.size (a.take (j + 1)) ∧ Touch (fun y=>y = w.heap.size) w1 W5 from ⟨by rw [htk];exact r2,(hT.grow hS3.1).trans r3⟩)
   clear hm hT hUw hxU hnew htk hnb hS0 hS hxr r1 r2 r3 hS3 hb3 HY
   go_wp2
   go_roundw
   case rel=>exact ⟨j + 1,hlt1,by go_num,HN⟩
   case measure=>simp [intOf];omega
  ·obtain rfl : j = a.length:=by omega
   have HM1:=yh (show RM RRd RelD.id U wr w.heap.size (leftD RelD.id a (b.take 0)) ∧ Touch (fun y=>y = w.heap.size) w1 wr from ⟨by have:=HI.out.1;rw [List.take_length] at this;rw [List.take_zero,leftD_nil];exact this,HI.out.2⟩)
   clear HI hj hlt
   go_wp2
   have HS2:=yh (show RM RRd RelD.id U wr w.heap.size (leftD RelD.id a (b.take 0)) ∧ ChIn (fun y=>y = w.heap.size ∨ y = c2) w1 wr c2 ((newD RelD.id sameR a (b.take 0)).map comeR) from
    ⟨HM1.out.1,ChIn.start (.inr rfl) (fun y hy=>by have:=HC.out.2.2.2.2;have:=H1.out.2.2;omega) (HM1.out.2.mono fun y _ e=>.inl e) ((HM1.out.2.block c2 (by have:=HC.out.2.2.2.2;have:=H1.out.2.2;omega) (by have:=HC.out.2.2.2.2;omega)).trans (Kaj H1.out.1 HC.out.2.2.2.2.2 HC.out.2.1))⟩)
   clear HM1
   go_loopw [38] (fun i W=>∃ j : Nat,j ≤ b.length ∧ i = .int .i64 (j : Int) ∧ Hid (RM RRd RelD.id U W w.heap.size (leftD RelD.id a (b.take j)) ∧ ChIn (fun y=>y = w.heap.size ∨ y = c2) w1 W c2 ((newD RelD.id sameR a (b.take j)).map comeR))) (fun i _=>b.length - (intOf i).toNat)
   case atStart=>exact ⟨0,Nat.zero_le _,rfl,HS2⟩
   case round =>
    clear HS2
    obtain ⟨j,hj,rfl,HI⟩:=hrel
    by_cases hlt : j < b.length
    ·have hlt1:=Nat.succ_le_of_lt hlt
     obtain ⟨hm,hch⟩:=HI.out
     have hT:=hch.2.2.1
     have hUw : Below U.heap.size U wr:=hT.below (Kaa HU.out.2.1 H1.out.1) (fun y hy e=>by have:=HU.out.2.1.size;have:=HC.out.2.2.2.1;omega) (by have:=HU.out.2.1.size;have:=H1.out.2.2;omega)
     obtain ⟨b1,o1,y,rfl,hs,hc,hyU⟩:=HU.out.2.2.2.1.get hlt
     have hyw:=RRd.below hyU hUw
     have hld : (loadVar 49 ⟨b1,o1 + j * 5,none⟩).run Tryz.prog wr = .ok (.agg y) wr:=StT.load (P:=Tryz.prog) Kbb hs fun i u hu=>Kad hUw (ltOf (hc i u hu)) (hc i u hu)
     have hst:=StT.fresh (P:=Tryz.prog) (W:=wr) Kbb hs (Kc5.ones hyw)
     have hn1:=Kah (w:=wr) (.cells y 49)
     have hbox:=heap_alloc_new wr (.cells y 49)
     have hbj:=List.getElem_mem hlt
     have hkb:=HU.out.2.2.2.2.2.1 _ hbj
     have hbef:=Kej RelD.id HU.out.2.2.2.2.2.2.2 hlt
     have htk : b.take (j + 1) = b.take j ++ [b[j]]:=List.take_succ_eq_append_getElem hlt
     have hfound:=leftD_any RelD.id (a:=a) hbef
     have hlen : ((newD RelD.id sameR a (b.take j)).map comeR).length ≤ 1100000:=by
      have h1 : (newD RelD.id sameR a (b.take j)).length ≤ (b.take j).length:=List.length_filter_le _ _
      have h2:=HL.out.2
      rw [List.length_take] at h1
      rw [List.length_map];omega
     generalize b[j] = bj at *
     obtain ⟨z,hlk,hz,_⟩:=hm.get (P:=Tryz.prog) Tryz.underlying69 Tryz.underlying2 Tryz.zeroValue49 bj.id
     rw [hfound] at hlk
     have hsz : z.size = 5 ∧ ∀ u ∈ z.toList,u.oneCell' = true:=by
      cases hq : a.any fun x=>x.id == bj.id with
      | true =>
        rw [← hfound,List.any_eq_true] at hq
        obtain ⟨x0,hx0,e0⟩:=hq
        have:=hz x0 hx0 (by simpa using e0)
        exact ⟨Kc5.size this,Kc5.ones this⟩
      | false =>
        rename_i hzz
        rw [hzz (by rw [hfound];exact hq)]
        exact ⟨rfl,by simp [relZ,Value.oneCell']⟩
     have hnewD:=newD_snoc RelD.id sameR a (b.take j) bj
     rw [← htk] at hnewD
     have hleft:=leftD_snoc RelD.id a (b.take j) bj
     rw [← htk] at hleft
     have HLD:=yh hld
     have HST:=yh hst
     have HLDY:=yh (fun (W : World) (g : W.heap[wr.heap.size]? = some (.cells y 49 (0,0)))=>StT.get (P:=Tryz.prog) Kbb hs g)
     have HY:=yh (And.intro hm (And.intro hch (And.intro hUw (And.intro hyU (And.intro hkb (And.intro hlen (And.intro hnewD (And.intro hleft (And.intro hn1 hbox)))))))))
     have HZ:=yh (And.intro hlk (And.intro hz hsz))
     clear hm hch hT hUw hyU hkb hlen hnewD hleft hn1 hbox hlk hz hsz hld hst hs hc hyw hbef htk HI
     have hdd : ((a.any fun x=>x.id == bj.id) = false ∧ (a.any fun x=>x.id == bj.id && sameR x bj) = false) ∨ ((a.any fun x=>x.id == bj.id) = true ∧ ∃ x0 : RelD,RRd U x0 z ∧ ROk x0 ∧ (a.any fun x=>x.id == bj.id && sameR x bj) = sameR bj x0):=by
      cases hq : a.any fun x=>x.id == bj.id with
      | false=>exact .inl ⟨rfl,newD_no RelD.id sameR hq⟩
      | true =>
        obtain ⟨x0,hx0,e0⟩:=List.any_eq_true.1 (hfound.trans hq)
        have e0 : x0.id = bj.id:=by simpa using e0
        have hx0a:=(List.mem_filter.1 hx0).1
        exact .inr ⟨rfl,x0,HZ.out.2.1 x0 hx0 e0,HU.out.2.2.2.2.1 x0 hx0a,(newD_one RelD.id sameR HU.out.2.2.2.2.2.2.1 hx0a e0).trans (HSY.out x0 hx0a bj hbj).symm⟩
     generalize (a.any fun x=>x.id == bj.id) = bq at *
     have HDD:=yh hdd
     clear hdd hfound hbj
     have HV:=yh (show Below wr.heap.size wr (wr.alloc (.cells y 49)) ∧ (wr.alloc (.cells y 49)).heap[wr.heap.size]? = some (.cells y 49 (0,0)) from HY.out.2.2.2.2.2.2.2.2)
     have HID1:=yh (idOfR_any (w:=wr.alloc (.cells y 49)) (RRd.below HY.out.2.2.2.1 (Kaa HY.out.2.2.1 HV.out.1)))
     go_wp2_with (first
      | ((with_reducible apply Kao);exact HLD.out;exact rfl;clear HLD)
      | ((with_reducible apply Kaq);exact HST.out _ rfl;exact rfl;exact rfl;clear HST)
      | ((with_reducible apply Kao);exact HLDY.out _ HV.out.2;exact rfl)
      | ((with_reducible apply Kaz);exact HLK.out;exact rfl;exact rfl;clear HLK)
      | ((with_reducible apply Kaq);exact HSZ.out _ rfl;exact rfl;exact rfl;clear HSZ)
      | ((with_reducible apply Kbl);exact HLDY.out _ HV.out.2;exact rfl;exact rfl)
      | ((with_reducible apply Kbl);exact HLDZ.out;exact rfl;exact rfl)
      | (go_at_call 85
         (
          refine (HID1.out).mono ?_
          rintro e W3 ⟨rfl,hb3⟩
          have HLK:=yh (HZ.out.1 W3 ((Kaa HV.out.1 hb3).block _ HY.out.1.lt))
          have HSZ:=yh (StT.fresh (P:=Tryz.prog) (W:=W3) Kbb HZ.out.2.2.1 HZ.out.2.2.2)
          have hn4:=Kah (w:=W3) (.cells z 49)
          have hb34:=Kaa hb3 hn4
          have HLDZ:=yh (StT.get (P:=Tryz.prog) Kbb HZ.out.2.2.1 (heap_alloc_new W3 (.cells z 49)))
          replace HV:=yh (And.intro (Kaa HV.out.1 hb34) (Kaj hb34 (Array.getElem?_eq_some_iff.1 HV.out.2).1 HV.out.2))
          clear hb3 hn4 hb34 HID1
          rcases HDD.out with ⟨hbq,hn⟩ | ⟨hbq,x0,hz0,hk0,hn⟩
          all_goals subst hbq
          all_goals (have HNEW:=yh hn;clear hn)
          rotate_left
          have HX0:=yh (And.intro hz0 hk0)
          clear hz0 hk0
          rotate_left))
      | (go_at_call 82
         (
          have hsa:=sameR_any (HU.out.1.b (Kaa HY.out.2.2.1 HV.out.1)) (RRd.below HY.out.2.2.2.1 (Kaa HY.out.2.2.1 HV.out.1)) (RRd.below HX0.out.1 (Kaa HY.out.2.2.1 HV.out.1)) HY.out.2.2.2.2.1 HX0.out.2
          generalize sameR bj x0 = bs at hsa HNEW
          refine hsa.mono ?_
          rintro e W5 ⟨rfl,hb5⟩
          replace HV:=yh (And.intro (Kaa HV.out.1 hb5) (Kaj hb5 (Array.getElem?_eq_some_iff.1 HV.out.2).1 HV.out.2))
          clear hb5 hsa HLDZ
          cases bs
          rotate_left
          have HSM:=yh True.intro
          rotate_left))
      | (go_at_call 87
         (
          refine (comeR_any (HY.out.2.1.below HV.out.1) (HY.out.2.1.bdb HV.out.1) (RRd.below HY.out.2.2.2.1 (Kaa HY.out.2.2.1 HV.out.1)) HY.out.2.2.2.2.1 HY.out.2.2.2.2.2.1).mono ?_
          rintro e W6 ⟨rfl,hch6,hT6⟩
          have hlt6:=HY.out.1.lt
          have hcl:=HC.out.2.2.2.2.2
          have hws:=HY.out.2.1.2.2.1.size
          have hs1:=H1.out.2.2
          have hTU : Below U.heap.size U W6:=hT6.below (Kaa HY.out.2.2.1 HV.out.1) (fun b hb e=>by have:=HU.out.2.1.size;have:=HC.out.2.2.2.1;omega) (by have:=(Kaa HY.out.2.2.1 HV.out.1).size;omega)
          have hmp : W6.heap[w.heap.size]? = wr.heap[w.heap.size]?:=(hT6.block _ (by have:=HV.out.1.size;omega) (by omega)).trans (HV.out.1.block _ hlt6)
          have hbx6 : W6.heap[wr.heap.size]? = some (.cells y 49 (0,0)):=(hT6.block _ (Array.getElem?_eq_some_iff.1 HV.out.2).1 (by have:=HY.out.2.1.lt;omega)).trans HV.out.2
          have HP:=yh (And.intro hch6 (And.intro hTU (And.intro hmp hbx6)))
          clear hch6 hT6 hlt6 hcl hws hs1 hTU hmp hbx6 HV))
      | ((with_reducible apply Kao);exact HLDY.out _ HP.out.2.2.2;exact rfl)
      | (go_at_call 85
         (
          have hp9:=HP.out
          refine (idOfR_any (w:=_) (RRd.below HY.out.2.2.2.1 HP.out.2.1)).mono ?_
          rintro e W7 ⟨rfl,hb7⟩
          have hlt7:=HY.out.1.lt
          have hm7:=HY.out.1.keep (W':=W7) ((hb7.block _ (by have:=ltOfBlk (HP.out.2.2.1) hlt7;omega)).trans HP.out.2.2.1)
          obtain ⟨W8,d1,d2,d3⟩:=hm7.del (P:=Tryz.prog) Tryz.underlying69 Tryz.underlying2 bj.id 2 0
          have HDEL:=yh d1
          have hcN:=(HP.out.1.below hb7).turn d3 fun b e _=>⟨.inl e,by have:=HC.out.2.2.2.2.2;omega⟩
          have HN:=yh (show RM RRd RelD.id U W8 w.heap.size (leftD RelD.id a (b.take (j + 1))) ∧ ChIn (fun y=>y = w.heap.size ∨ y = c2) w1 W8 c2 ((newD RelD.id sameR a (b.take (j + 1))).map comeR) from
           ⟨by rw [← HY.out.2.2.2.2.2.2.2.1];exact d2,by rw [HY.out.2.2.2.2.2.2.1,if_neg (by rw [HNEW.out];simp),List.map_append];exact hcN⟩)
          clear hp9 hb7 hlt7 hm7 d1 d2 d3 hcN))
      | (go_at_call 85
         (
          have hs9:=HSM.out
          have HP:=yh (And.intro (HY.out.2.1.below HV.out.1) (And.intro (Kaa HY.out.2.2.1 HV.out.1) (And.intro (HV.out.1.block _ HY.out.1.lt) HV.out.2)))
          refine (idOfR_any (w:=_) (RRd.below HY.out.2.2.2.1 HP.out.2.1)).mono ?_
          rintro e W7 ⟨rfl,hb7⟩
          have hlt7:=HY.out.1.lt
          have hm7:=HY.out.1.keep (W':=W7) ((hb7.block _ (by have:=ltOfBlk (HP.out.2.2.1) hlt7;omega)).trans HP.out.2.2.1)
          obtain ⟨W8,d1,d2,d3⟩:=hm7.del (P:=Tryz.prog) Tryz.underlying69 Tryz.underlying2 bj.id 2 0
          have HDEL:=yh d1
          have hcN:=(HP.out.1.below hb7).turn d3 fun b e _=>⟨.inl e,by have:=HC.out.2.2.2.2.2;omega⟩
          have HN:=yh (show RM RRd RelD.id U W8 w.heap.size (leftD RelD.id a (b.take (j + 1))) ∧ ChIn (fun y=>y = w.heap.size ∨ y = c2) w1 W8 c2 ((newD RelD.id sameR a (b.take (j + 1))).map comeR) from
           ⟨by rw [← HY.out.2.2.2.2.2.2.2.1];exact d2,by rw [HY.out.2.2.2.2.2.2.1,if_pos HNEW.out,List.append_nil];exact hcN⟩)
          clear hs9 hb7 hlt7 hm7 d1 d2 d3 hcN))
      | ((with_reducible apply op_delete);exact HDEL.out;exact rfl;exact rfl;clear HDEL))
     all_goals (go_roundw;(case rel=>exact ⟨j + 1,hlt1,by go_num,HN⟩);(case measure=>simp [intOf];omega))
    ·obtain rfl : j = b.length:=by omega
     have HM2:=yh (show RM RRd RelD.id U wr w.heap.size (leftD RelD.id a b) ∧ ChIn (fun y=>y = w.heap.size ∨ y = c2) w1 wr c2 ((newD RelD.id sameR a b).map comeR) from by have:=HI.out;rw [List.take_length] at this;exact this)
     clear HI hj hlt
     go_wp2
     generalize wr = w3 at *
     have HS3:=yh (show ChIn (fun y=>y = c1) w3 w3 c1 ((leftD RelD.id (a.take 0) b).map goneR) from
      ChIn.start rfl (fun y hy=>by have:=HC.out.2.2.2.2.1;have:=H1.out.2.2;have:=HM2.out.2.2.2.1.size;omega) (Touch.refl _ _) ((HM2.out.2.2.2.1.block c1 (by have:=HC.out.2.2.2.2.1;have:=H1.out.2.2;omega) (by have:=HC.out.2.2.1;have:=HC.out.2.2.2.2.1;omega)).trans (Kaj H1.out.1 HC.out.2.2.2.2.1 HC.out.1)))
     go_loopw [69] (fun i W=>∃ j : Nat,j ≤ a.length ∧ i = .int .i64 (j : Int) ∧ Hid (ChIn (fun y=>y = c1) w3 W c1 ((leftD RelD.id (a.take j) b).map goneR))) (fun i _=>a.length - (intOf i).toNat)
     case atStart=>exact ⟨0,Nat.zero_le _,rfl,HS3⟩
     case round =>
      clear HS3
      obtain ⟨j,hj,rfl,HI⟩:=hrel
      by_cases hlt : j < a.length
      ·have hlt1:=Nat.succ_le_of_lt hlt
       have hch:=HI.out
       have hT:=hch.2.2.1
       have hTU3 : Below U.heap.size U w3:=HM2.out.2.2.2.1.below (Kaa HU.out.2.1 H1.out.1) (fun y hy e=>by have:=HU.out.2.1.size;have:=HC.out.2.2.2.1;omega) (by have:=HU.out.2.1.size;have:=H1.out.2.2;omega)
       have hUw : Below U.heap.size U wr:=hT.below hTU3 (fun y hy e=>by have:=HC.out.2.2.2.1;omega) hTU3.size
       obtain ⟨b1,o1,y,rfl,hs,hc,hyU⟩:=HU.out.2.2.1.get hlt
       have hyw:=RRd.below hyU hUw
       have hld : (loadVar 49 ⟨b1,o1 + j * 5,none⟩).run Tryz.prog wr = .ok (.agg y) wr:=StT.load (P:=Tryz.prog) Kbb hs fun i u hu=>Kad hUw (ltOf (hc i u hu)) (hc i u hu)
       have hst:=StT.fresh (P:=Tryz.prog) (W:=wr) Kbb hs (Kc5.ones hyw)
       have hn1:=Kah (w:=wr) (.cells y 49)
       have hbox:=heap_alloc_new wr (.cells y 49)
       have hmem:=List.getElem_mem hlt
       have htk : a.take (j + 1) = a.take j ++ [a[j]]:=List.take_succ_eq_append_getElem hlt
       have hlen : ((leftD RelD.id (a.take j) b).map goneR).length ≤ 1100000:=by
        have h1 : (leftD RelD.id (a.take j) b).length ≤ (a.take j).length:=List.length_filter_le _ _
        have h2:=HL.out.1
        rw [List.length_take] at h1
        rw [List.length_map];omega
       generalize a[j] = bj at *
       have hm:=HM2.out.1.keep (W':=wr) (hT.block _ HM2.out.1.lt (by have:=HC.out.2.2.2.2.1;omega))
       obtain ⟨z,hlk,hz,hzz⟩:=hm.get (P:=Tryz.prog) Tryz.underlying69 Tryz.underlying2 Tryz.zeroValue49 bj.id
       have hfound:=leftD_has RelD.id (b:=b) hmem
       have hsz : z.size = 5 ∧ ∀ u ∈ z.toList,u.oneCell' = true:=by
        cases hq : (leftD RelD.id a b).any fun x=>x.id == bj.id with
        | true =>
          obtain ⟨x0,hx0,e0⟩:=List.any_eq_true.1 hq
          have:=hz x0 hx0 (by simpa using e0)
          exact ⟨Kc5.size this,Kc5.ones this⟩
        | false =>
          rw [hzz hq]
          exact ⟨rfl,by simp [relZ,Value.oneCell']⟩
       rw [hfound] at hlk
       have hsn:=lost_snoc RelD.id (a.take j) b bj
       rw [← htk] at hsn
       have HLD:=yh hld
       have HST:=yh hst
       have HLDY:=yh (fun (W : World) (g : W.heap[wr.heap.size]? = some (.cells y 49 (0,0)))=>StT.get (P:=Tryz.prog) Kbb hs g)
       have HY:=yh (And.intro hm (And.intro hch (And.intro hUw (And.intro hyU (And.intro hlen (And.intro (show leftD RelD.id (a.take (j + 1)) b = leftD RelD.id (a.take j) b ++ if (b.any fun s=>s.id == bj.id) = true then [] else [bj] from hsn) (And.intro hn1 hbox)))))))
       have HZ:=yh (And.intro hlk (And.intro hz hsz))
       clear hm hch hT hTU3 hUw hyU hlen hsn hn1 hbox hlk hz hsz hld hst hs hc hyw htk HI hfound hmem hzz
       generalize (b.any fun s=>s.id == bj.id) = bq at *
       have HV:=yh (show Below wr.heap.size wr (wr.alloc (.cells y 49)) ∧ (wr.alloc (.cells y 49)).heap[wr.heap.size]? = some (.cells y 49 (0,0)) from HY.out.2.2.2.2.2.2)
       have HID1:=yh (idOfR_any (w:=wr.alloc (.cells y 49)) (RRd.below HY.out.2.2.2.1 (Kaa HY.out.2.2.1 HV.out.1)))
       go_wp2_with (first
        | ((with_reducible apply Kao);exact HLD.out;exact rfl;clear HLD)
        | ((with_reducible apply Kaq);exact HST.out _ rfl;exact rfl;exact rfl;clear HST)
        | ((with_reducible apply Kao);exact HLDY.out _ HV.out.2;exact rfl)
        | ((with_reducible apply Kaz);exact HLK.out;exact rfl;exact rfl;clear HLK)
        | ((with_reducible apply Kaq);exact HSZ.out _ rfl;exact rfl;exact rfl;clear HSZ)
        | (go_at_call 85
           (
            refine (HID1.out).mono ?_
            rintro e W3 ⟨rfl,hb3⟩
            have HLK:=yh (HZ.out.1 W3 ((Kaa HV.out.1 hb3).block _ HY.out.1.lt))
            have HSZ:=yh (StT.fresh (P:=Tryz.prog) (W:=W3) Kbb HZ.out.2.2.1 HZ.out.2.2.2)
            have hn4:=Kah (w:=W3) (.cells z 49)
            have hb34:=Kaa hb3 hn4
            have HLDZ:=yh (StT.get (P:=Tryz.prog) Kbb HZ.out.2.2.1 (heap_alloc_new W3 (.cells z 49)))
            replace HV:=yh (And.intro (Kaa HV.out.1 hb34) (Kaj hb34 (Array.getElem?_eq_some_iff.1 HV.out.2).1 HV.out.2))
            clear hb3 hn4 hb34 HID1
            have hchN:=HY.out.2.1.below HV.out.1
            clear HZ
            cases bq
            rotate_left
            have HN:=yh (show ChIn (fun y=>y = c1) w3 (W3.alloc (.cells z 49)) c1 ((leftD RelD.id (a.take (j + 1)) b).map goneR) from by rw [HY.out.2.2.2.2.2.1,if_pos rfl,List.append_nil];exact hchN)
            rotate_left))
        | (go_at_call 86
           (
            refine (goneR_any (HY.out.2.1.below HV.out.1) (HY.out.2.1.bdb HV.out.1) (RRd.below HY.out.2.2.2.1 (Kaa HY.out.2.2.1 HV.out.1)) HY.out.2.2.2.2.1).mono ?_
            clear hchN
            rintro e W6 ⟨rfl,hchN,hT6⟩
            have HN:=yh (show ChIn (fun y=>y = c1) w3 W6 c1 ((leftD RelD.id (a.take (j + 1)) b).map goneR) from by rw [HY.out.2.2.2.2.2.1,if_neg (by simp),List.map_append];exact hchN)
            clear hchN hT6)))
       all_goals (go_roundw;(case rel=>exact ⟨j + 1,hlt1,by go_num,HN⟩);(case measure=>simp [intOf];omega))
      ·obtain rfl : j = a.length:=by omega
       have hch:=HI.out
       rw [List.take_length] at hch
       have HF:=yh (show Gath w wr c1 ((leftD RelD.id a b).map goneR) ∧ Gath w wr c2 ((newD RelD.id sameR a b).map comeR) ∧ Touch (fun b=>b = c1 ∨ b = c2) w wr from by
        have hs1:=H1.out.2.2
        have hs3:=HM2.out.2.2.2.1.size
        have hne:=HC.out.2.2.1
        have hl1:=HC.out.2.2.2.2.1
        have hl2:=HC.out.2.2.2.2.2
        refine ⟨ChIn.gath (D:=fun _=>False) hch (by omega) (Touch.refl _ _) (fun b hb=>hb.elim),ChIn.gath HM2.out.2 (by omega) hch.2.2.1 (fun b hb=>by omega),?_⟩
        exact ((Kat H1.out.1).step HM2.out.2.2.2.1 fun b hb e=>by rcases e with e | e;omega;exact .inr e).step hch.2.2.1 fun b hb e=>.inl e)
       clear hch HI
       go_wp2
       go_end0
       exact ⟨rfl,HF.out⟩
theorem eachN_any {w U : World} (hE : Env U) (hU : Below U.heap.size U w) {pa pb : Option Addr} {ca cb : Nat} {a b : List NodeD} (ha : GRd NRd 3 U pa ca a) (hb : GRd NRd 3 U pb cb b) (hka : ∀ x ∈ a,NOk x) (hkb : ∀ x ∈ b,NOk x) (hsy : ∀ x ∈ a,∀ y ∈ b,sameN y x = sameN x y) (hra : Rise NodeD.id a) (hrb : Rise NodeD.id b) (hla : a.length ≤ 1000000) (hlb : b.length ≤ 1000000) {c1 c2 : Nat} (hc1 : w.heap[c1]? = some (.cells #[.slice none 0 0] 52 (0,0))) (hc2 : w.heap[c2]? = some (.cells #[.slice none 0 0] 52 (0,0))) (hne : c1 ≠ c2) (hcu : U.heap.size ≤ c1 ∧ U.heap.size ≤ c2) :
 Calls Tryz.prog 88 #[.slice pa a.length ca,.slice pb b.length cb,.func (.func 89) #[] #[],.func (.func 80) #[] #[],.func (.func 90) #[] #[.pointer (some ⟨c1,0,none⟩)],.func (.func 91) #[] #[.pointer (some ⟨c2,0,none⟩)]] w fun e w'=>e = .returned (.tuple #[]) ∧ Gath w w' c1 ((leftD NodeD.id a b).map goneN) ∧ Gath w w' c2 ((newD NodeD.id sameN a b).map comeN) ∧ Touch (fun b=>b = c1 ∨ b = c2) w w':=by
 have z1 : (a.length : Int) ≤ 1000000:=by omega
 have z2 : (b.length : Int) ≤ 1000000:=by omega
 have hl1:=(Array.getElem?_eq_some_iff.1 hc1).1
 have hl2:=(Array.getElem?_eq_some_iff.1 hc2).1
 have HU:=yh (And.intro hE (And.intro hU (And.intro ha (And.intro hb (And.intro hka (And.intro hkb (And.intro hra hrb)))))))
 have HC:=yh (And.intro hc1 (And.intro hc2 (And.intro hne (And.intro hcu (And.intro hl1 hl2)))))
 have HL:=yh (And.intro hla hlb)
 have HSY:=yh hsy
 clear hE hU ha hb hka hkb hsy hra hrb hla hlb hc1 hc2 hne hcu hl1 hl2
 have hmm:=@run_makeMap Tryz.prog
 go_enter Tryz.func88,Tryz.ntmps88
 go_wp2
 clear hmm
 have hw1:=Kah (w:=w) (.map #[] 0)
 have hm0:=heap_alloc_new w (.map #[] 0)
 have hs1 : (w.alloc (.map #[] 0)).heap.size = w.heap.size + 1:=by simp
 generalize w.alloc (.map #[] 0) = w1 at *
 have H1:=yh (And.intro hw1 (And.intro hm0 hs1))
 clear hw1 hm0 hs1
 go_loopw [26] (fun i W=>∃ j : Nat,j ≤ a.length ∧ i = .int .i64 (j : Int) ∧ Hid (RM NRd NodeD.id U W w.heap.size (a.take j) ∧ Touch (fun y=>y = w.heap.size) w1 W)) (fun i _=>a.length - (intOf i).toNat)
 case atStart=>exact ⟨0,Nat.zero_le _,rfl,yh ⟨RM.start H1.out.2.1,Touch.refl _ _⟩⟩
 case round =>
  obtain ⟨j,hj,rfl,HI⟩:=hrel
  by_cases hlt : j < a.length
  ·have hlt1:=Nat.succ_le_of_lt hlt
   obtain ⟨hm,hT⟩:=HI.out
   have hUw : Below U.heap.size U wr:=hT.below (Kaa HU.out.2.1 H1.out.1) (fun y hy e=>by have:=HU.out.2.1.size;omega) (by have:=HU.out.2.1.size;have:=H1.out.2.2;omega)
   obtain ⟨b1,o1,x,rfl,hs,hc,hxU⟩:=HU.out.2.2.1.get hlt
   have hxw:=NRd.below hxU hUw
   have hld : (loadVar 45 ⟨b1,o1 + j * 3,none⟩).run Tryz.prog wr = .ok (.agg x) wr:=StT.load (P:=Tryz.prog) Kay hs fun i u hu=>Kad hUw (ltOf (hc i u hu)) (hc i u hu)
   have hst:=StT.fresh (P:=Tryz.prog) (W:=wr) Kay hs (Kb9.ones hxw)
   have hnew:=Kej NodeD.id HU.out.2.2.2.2.2.2.1 hlt
   have htk : a.take (j + 1) = a.take j ++ [a[j]]:=List.take_succ_eq_append_getElem hlt
   generalize a[j] = aj at *
   have HLD:=yh hld
   have HST:=yh hst
   have HY:=yh (And.intro hm (And.intro hT (And.intro hUw (And.intro hxU (And.intro hnew htk)))))
   clear hm hT hUw hxU hnew htk hld hst hs hc hxw HI
   go_wp2_with (first
    | ((with_reducible apply Kao);exact HLD.out;exact rfl;clear HLD)
    | ((with_reducible apply Kaq);exact HST.out _ rfl;exact rfl;exact rfl;clear HST))
   obtain ⟨hm,hT,hUw,hxU,hnew,htk⟩:=HY.out
   have hnb:=Kah (w:=wr) (.cells x 45)
   have hS0 : Below wr.heap.size wr (wr.alloc (.cells x 45)).drew ∧ (wr.alloc (.cells x 45)).drew.heap[wr.heap.size]? = some (.cells x 45 (0,0)):=⟨hnb.drew,heap_alloc_new wr _⟩
   have hxr:=NRd.below hxU hUw
   refine Kag (fun W=>Below wr.heap.size wr W ∧ W.heap[wr.heap.size]? = some (.cells x 45 (0,0))) (by kernel_rfl) hS0 (fun hS=>?_)
   refine tm 0 30 (v:=.map (some w.heap.size)) rfl rfl rfl ?_;simp only [zP]
   refine tm 1 31 (v:=.func (.func 89) #[] #[]) rfl rfl rfl ?_;simp only [zP]
   refine tk 2 32 (v:=.agg x) rfl rfl (fun W hW=>Kac rfl rfl (StT.get (P:=Tryz.prog) Kay (Kb9.size hxr) hW.2)) ?_;simp only [zP]
   refine tk 4 34 (v:=.agg x) rfl rfl (fun W hW=>Kac rfl rfl (StT.get (P:=Tryz.prog) Kay (Kb9.size hxr) hW.2)) ?_;simp only [zP]
   refine Kan 3 33 rfl rfl (by kernel_rfl) rfl (exec_callF [.agg x] rfl rfl rfl rfl Tryz.func89 (by kernel_rfl) (by kernel_rfl)) ?_
   refine (idOfN_any (NRd.below hxr hS0.1)).mono ?_
   rintro e W3 ⟨rfl,hb3⟩
   have hS3 : Below wr.heap.size wr W3 ∧ W3.heap[wr.heap.size]? = some (.cells x 45 (0,0)):=⟨Kaa hS0.1 hb3,Kaj hb3 (Array.getElem?_eq_some_iff.1 hS0.2).1 hS0.2⟩
   obtain ⟨W5,r1,r2,r3⟩:=(hm.keep (hS3.1.block _ hm.lt)).put (P:=Tryz.prog) Tryz.underlying68 Tryz.underlying2 (n:=aj) hnew hxU
   refine ⟨_,rfl,.inr hS3,?_⟩;simp only [zP]
   refine Kbx 5 rfl rfl (by kernel_rfl) rfl (Ka9 rfl rfl rfl rfl r1) (.inl (by kernel_rfl)) ?_
   refine done (by kernel_rfl) ?_ _
   have HN:=yh (show RM NRd NodeD.id U W5 w.heap.size (a.take (j + 1)) ∧ Touch (fun y=>y = w.heap.size) w1 W5 from ⟨by rw [htk];exact r2,(hT.grow hS3.1).trans r3⟩)
   clear hm hT hUw hxU hnew htk hnb hS0 hS hxr r1 r2 r3 hS3 hb3 HY
   go_wp2
   go_roundw
   case rel=>exact ⟨j + 1,hlt1,by go_num,HN⟩
   case measure=>simp [intOf];omega
  ·obtain rfl : j = a.length:=by omega
   have HM1:=yh (show RM NRd NodeD.id U wr w.heap.size (leftD NodeD.id a (b.take 0)) ∧ Touch (fun y=>y = w.heap.size) w1 wr from ⟨by have:=HI.out.1;rw [List.take_length] at this;rw [List.take_zero,leftD_nil];exact this,HI.out.2⟩)
   clear HI hj hlt
   go_wp2
   have HS2:=yh (show RM NRd NodeD.id U wr w.heap.size (leftD NodeD.id a (b.take 0)) ∧ ChIn (fun y=>y = w.heap.size ∨ y = c2) w1 wr c2 ((newD NodeD.id sameN a (b.take 0)).map comeN) from
    ⟨HM1.out.1,ChIn.start (.inr rfl) (fun y hy=>by have:=HC.out.2.2.2.2;have:=H1.out.2.2;omega) (HM1.out.2.mono fun y _ e=>.inl e) ((HM1.out.2.block c2 (by have:=HC.out.2.2.2.2;have:=H1.out.2.2;omega) (by have:=HC.out.2.2.2.2;omega)).trans (Kaj H1.out.1 HC.out.2.2.2.2.2 HC.out.2.1))⟩)
   clear HM1
   go_loopw [38] (fun i W=>∃ j : Nat,j ≤ b.length ∧ i = .int .i64 (j : Int) ∧ Hid (RM NRd NodeD.id U W w.heap.size (leftD NodeD.id a (b.take j)) ∧ ChIn (fun y=>y = w.heap.size ∨ y = c2) w1 W c2 ((newD NodeD.id sameN a (b.take j)).map comeN))) (fun i _=>b.length - (intOf i).toNat)
   case atStart=>exact ⟨0,Nat.zero_le _,rfl,HS2⟩
   case round =>
    clear HS2
    obtain ⟨j,hj,rfl,HI⟩:=hrel
    by_cases hlt : j < b.length
    ·have hlt1:=Nat.succ_le_of_lt hlt
     obtain ⟨hm,hch⟩:=HI.out
     have hT:=hch.2.2.1
     have hUw : Below U.heap.size U wr:=hT.below (Kaa HU.out.2.1 H1.out.1) (fun y hy e=>by have:=HU.out.2.1.size;have:=HC.out.2.2.2.1;omega) (by have:=HU.out.2.1.size;have:=H1.out.2.2;omega)
     obtain ⟨b1,o1,y,rfl,hs,hc,hyU⟩:=HU.out.2.2.2.1.get hlt
     have hyw:=NRd.below hyU hUw
     have hld : (loadVar 45 ⟨b1,o1 + j * 3,none⟩).run Tryz.prog wr = .ok (.agg y) wr:=StT.load (P:=Tryz.prog) Kay hs fun i u hu=>Kad hUw (ltOf (hc i u hu)) (hc i u hu)
     have hst:=StT.fresh (P:=Tryz.prog) (W:=wr) Kay hs (Kb9.ones hyw)
     have hn1:=Kah (w:=wr) (.cells y 45)
     have hbox:=heap_alloc_new wr (.cells y 45)
     have hbj:=List.getElem_mem hlt
     have hkb:=HU.out.2.2.2.2.2.1 _ hbj
     have hbef:=Kej NodeD.id HU.out.2.2.2.2.2.2.2 hlt
     have htk : b.take (j + 1) = b.take j ++ [b[j]]:=List.take_succ_eq_append_getElem hlt
     have hfound:=leftD_any NodeD.id (a:=a) hbef
     have hlen : ((newD NodeD.id sameN a (b.take j)).map comeN).length ≤ 1100000:=by
      have h1 : (newD NodeD.id sameN a (b.take j)).length ≤ (b.take j).length:=List.length_filter_le _ _
      have h2:=HL.out.2
      rw [List.length_take] at h1
      rw [List.length_map];omega
     generalize b[j] = bj at *
     obtain ⟨z,hlk,hz,_⟩:=hm.get (P:=Tryz.prog) Tryz.underlying68 Tryz.underlying2 Tryz.zeroValue45 bj.id
     rw [hfound] at hlk
     have hsz : z.size = 3 ∧ ∀ u ∈ z.toList,u.oneCell' = true:=by
      cases hq : a.any fun x=>x.id == bj.id with
      | true =>
        rw [← hfound,List.any_eq_true] at hq
        obtain ⟨x0,hx0,e0⟩:=hq
        have:=hz x0 hx0 (by simpa using e0)
        exact ⟨Kb9.size this,Kb9.ones this⟩
      | false =>
        rename_i hzz
        rw [hzz (by rw [hfound];exact hq)]
        exact ⟨rfl,by simp [nodeZ,Value.oneCell']⟩
     have hnewD:=newD_snoc NodeD.id sameN a (b.take j) bj
     rw [← htk] at hnewD
     have hleft:=leftD_snoc NodeD.id a (b.take j) bj
     rw [← htk] at hleft
     have HLD:=yh hld
     have HST:=yh hst
     have HLDY:=yh (fun (W : World) (g : W.heap[wr.heap.size]? = some (.cells y 45 (0,0)))=>StT.get (P:=Tryz.prog) Kay hs g)
     have HY:=yh (And.intro hm (And.intro hch (And.intro hUw (And.intro hyU (And.intro hkb (And.intro hlen (And.intro hnewD (And.intro hleft (And.intro hn1 hbox)))))))))
     have HZ:=yh (And.intro hlk (And.intro hz hsz))
     clear hm hch hT hUw hyU hkb hlen hnewD hleft hn1 hbox hlk hz hsz hld hst hs hc hyw hbef htk HI
     have hdd : ((a.any fun x=>x.id == bj.id) = false ∧ (a.any fun x=>x.id == bj.id && sameN x bj) = false) ∨ ((a.any fun x=>x.id == bj.id) = true ∧ ∃ x0 : NodeD,NRd U x0 z ∧ NOk x0 ∧ (a.any fun x=>x.id == bj.id && sameN x bj) = sameN bj x0):=by
      cases hq : a.any fun x=>x.id == bj.id with
      | false=>exact .inl ⟨rfl,newD_no NodeD.id sameN hq⟩
      | true =>
        obtain ⟨x0,hx0,e0⟩:=List.any_eq_true.1 (hfound.trans hq)
        have e0 : x0.id = bj.id:=by simpa using e0
        have hx0a:=(List.mem_filter.1 hx0).1
        exact .inr ⟨rfl,x0,HZ.out.2.1 x0 hx0 e0,HU.out.2.2.2.2.1 x0 hx0a,(newD_one NodeD.id sameN HU.out.2.2.2.2.2.2.1 hx0a e0).trans (HSY.out x0 hx0a bj hbj).symm⟩
     generalize (a.any fun x=>x.id == bj.id) = bq at *
     have HDD:=yh hdd
     clear hdd hfound hbj
     have HV:=yh (show Below wr.heap.size wr (wr.alloc (.cells y 45)) ∧ (wr.alloc (.cells y 45)).heap[wr.heap.size]? = some (.cells y 45 (0,0)) from HY.out.2.2.2.2.2.2.2.2)
     have HID1:=yh (idOfN_any (w:=wr.alloc (.cells y 45)) (NRd.below HY.out.2.2.2.1 (Kaa HY.out.2.2.1 HV.out.1)))
     go_wp2_with (first
      | ((with_reducible apply Kao);exact HLD.out;exact rfl;clear HLD)
      | ((with_reducible apply Kaq);exact HST.out _ rfl;exact rfl;exact rfl;clear HST)
      | ((with_reducible apply Kao);exact HLDY.out _ HV.out.2;exact rfl)
      | ((with_reducible apply Kaz);exact HLK.out;exact rfl;exact rfl;clear HLK)
      | ((with_reducible apply Kaq);exact HSZ.out _ rfl;exact rfl;exact rfl;clear HSZ)
      | ((with_reducible apply Kbl);exact HLDY.out _ HV.out.2;exact rfl;exact rfl)
      | ((with_reducible apply Kbl);exact HLDZ.out;exact rfl;exact rfl)
      | (go_at_call 89
         (
          refine (HID1.out).mono ?_
          rintro e W3 ⟨rfl,hb3⟩
          have HLK:=yh (HZ.out.1 W3 ((Kaa HV.out.1 hb3).block _ HY.out.1.lt))
          have HSZ:=yh (StT.fresh (P:=Tryz.prog) (W:=W3) Kay HZ.out.2.2.1 HZ.out.2.2.2)
          have hn4:=Kah (w:=W3) (.cells z 45)
          have hb34:=Kaa hb3 hn4
          have HLDZ:=yh (StT.get (P:=Tryz.prog) Kay HZ.out.2.2.1 (heap_alloc_new W3 (.cells z 45)))
          replace HV:=yh (And.intro (Kaa HV.out.1 hb34) (Kaj hb34 (Array.getElem?_eq_some_iff.1 HV.out.2).1 HV.out.2))
          clear hb3 hn4 hb34 HID1
          rcases HDD.out with ⟨hbq,hn⟩ | ⟨hbq,x0,hz0,hk0,hn⟩
          all_goals subst hbq
          all_goals (have HNEW:=yh hn;clear hn)
          rotate_left
          have HX0:=yh (And.intro hz0 hk0)
          clear hz0 hk0
          rotate_left))
      | (go_at_call 80
         (
          have hsa:=sameN_any (HU.out.1.b (Kaa HY.out.2.2.1 HV.out.1)) (NRd.below HY.out.2.2.2.1 (Kaa HY.out.2.2.1 HV.out.1)) (NRd.below HX0.out.1 (Kaa HY.out.2.2.1 HV.out.1)) HY.out.2.2.2.2.1 HX0.out.2
          generalize sameN bj x0 = bs at hsa HNEW
          refine hsa.mono ?_
          rintro e W5 ⟨rfl,hb5⟩
          replace HV:=yh (And.intro (Kaa HV.out.1 hb5) (Kaj hb5 (Array.getElem?_eq_some_iff.1 HV.out.2).1 HV.out.2))
          clear hb5 hsa HLDZ
          cases bs
          rotate_left
          have HSM:=yh True.intro
          rotate_left))
      | (go_at_call 91
         (
          refine (comeN_any (HY.out.2.1.below HV.out.1) (HY.out.2.1.bdb HV.out.1) (NRd.below HY.out.2.2.2.1 (Kaa HY.out.2.2.1 HV.out.1)) HY.out.2.2.2.2.1 HY.out.2.2.2.2.2.1).mono ?_
          rintro e W6 ⟨rfl,hch6,hT6⟩
          have hlt6:=HY.out.1.lt
          have hcl:=HC.out.2.2.2.2.2
          have hws:=HY.out.2.1.2.2.1.size
          have hs1:=H1.out.2.2
          have hTU : Below U.heap.size U W6:=hT6.below (Kaa HY.out.2.2.1 HV.out.1) (fun b hb e=>by have:=HU.out.2.1.size;have:=HC.out.2.2.2.1;omega) (by have:=(Kaa HY.out.2.2.1 HV.out.1).size;omega)
          have hmp : W6.heap[w.heap.size]? = wr.heap[w.heap.size]?:=(hT6.block _ (by have:=HV.out.1.size;omega) (by omega)).trans (HV.out.1.block _ hlt6)
          have hbx6 : W6.heap[wr.heap.size]? = some (.cells y 45 (0,0)):=(hT6.block _ (Array.getElem?_eq_some_iff.1 HV.out.2).1 (by have:=HY.out.2.1.lt;omega)).trans HV.out.2
          have HP:=yh (And.intro hch6 (And.intro hTU (And.intro hmp hbx6)))
          clear hch6 hT6 hlt6 hcl hws hs1 hTU hmp hbx6 HV))
      | ((with_reducible apply Kao);exact HLDY.out _ HP.out.2.2.2;exact rfl)
      | (go_at_call 89
         (
          have hp9:=HP.out
          refine (idOfN_any (w:=_) (NRd.below HY.out.2.2.2.1 HP.out.2.1)).mono ?_
          rintro e W7 ⟨rfl,hb7⟩
          have hlt7:=HY.out.1.lt
          have hm7:=HY.out.1.keep (W':=W7) ((hb7.block _ (by have:=ltOfBlk (HP.out.2.2.1) hlt7;omega)).trans HP.out.2.2.1)
          obtain ⟨W8,d1,d2,d3⟩:=hm7.del (P:=Tryz.prog) Tryz.underlying68 Tryz.underlying2 bj.id 2 0
          have HDEL:=yh d1
          have hcN:=(HP.out.1.below hb7).turn d3 fun b e _=>⟨.inl e,by have:=HC.out.2.2.2.2.2;omega⟩
          have HN:=yh (show RM NRd NodeD.id U W8 w.heap.size (leftD NodeD.id a (b.take (j + 1))) ∧ ChIn (fun y=>y = w.heap.size ∨ y = c2) w1 W8 c2 ((newD NodeD.id sameN a (b.take (j + 1))).map comeN) from
           ⟨by rw [← HY.out.2.2.2.2.2.2.2.1];exact d2,by rw [HY.out.2.2.2.2.2.2.1,if_neg (by rw [HNEW.out];simp),List.map_append];exact hcN⟩)
          clear hp9 hb7 hlt7 hm7 d1 d2 d3 hcN))
      | (go_at_call 89
         (
          have hs9:=HSM.out
          have HP:=yh (And.intro (HY.out.2.1.below HV.out.1) (And.intro (Kaa HY.out.2.2.1 HV.out.1) (And.intro (HV.out.1.block _ HY.out.1.lt) HV.out.2)))
          refine (idOfN_any (w:=_) (NRd.below HY.out.2.2.2.1 HP.out.2.1)).mono ?_
          rintro e W7 ⟨rfl,hb7⟩
          have hlt7:=HY.out.1.lt
          have hm7:=HY.out.1.keep (W':=W7) ((hb7.block _ (by have:=ltOfBlk (HP.out.2.2.1) hlt7;omega)).trans HP.out.2.2.1)
          obtain ⟨W8,d1,d2,d3⟩:=hm7.del (P:=Tryz.prog) Tryz.underlying68 Tryz.underlying2 bj.id 2 0
          have HDEL:=yh d1
          have hcN:=(HP.out.1.below hb7).turn d3 fun b e _=>⟨.inl e,by have:=HC.out.2.2.2.2.2;omega⟩
          have HN:=yh (show RM NRd NodeD.id U W8 w.heap.size (leftD NodeD.id a (b.take (j + 1))) ∧ ChIn (fun y=>y = w.heap.size ∨ y = c2) w1 W8 c2 ((newD NodeD.id sameN a (b.take (j + 1))).map comeN) from
           ⟨by rw [← HY.out.2.2.2.2.2.2.2.1];exact d2,by rw [HY.out.2.2.2.2.2.2.1,if_pos HNEW.out,List.append_nil];exact hcN⟩)
          clear hs9 hb7 hlt7 hm7 d1 d2 d3 hcN))
      | ((with_reducible apply op_delete);exact HDEL.out;exact rfl;exact rfl;clear HDEL))
     all_goals (go_roundw;(case rel=>exact ⟨j + 1,hlt1,by go_num,HN⟩);(case measure=>simp [intOf];omega))
    ·obtain rfl : j = b.length:=by omega
     have HM2:=yh (show RM NRd NodeD.id U wr w.heap.size (leftD NodeD.id a b) ∧ ChIn (fun y=>y = w.heap.size ∨ y = c2) w1 wr c2 ((newD NodeD.id sameN a b).map comeN) from by have:=HI.out;rw [List.take_length] at this;exact this)
     clear HI hj hlt
     go_wp2
     generalize wr = w3 at *
     have HS3:=yh (show ChIn (fun y=>y = c1) w3 w3 c1 ((leftD NodeD.id (a.take 0) b).map goneN) from
      ChIn.start rfl (fun y hy=>by have:=HC.out.2.2.2.2.1;have:=H1.out.2.2;have:=HM2.out.2.2.2.1.size;omega) (Touch.refl _ _) ((HM2.out.2.2.2.1.block c1 (by have:=HC.out.2.2.2.2.1;have:=H1.out.2.2;omega) (by have:=HC.out.2.2.1;have:=HC.out.2.2.2.2.1;omega)).trans (Kaj H1.out.1 HC.out.2.2.2.2.1 HC.out.1)))
     go_loopw [69] (fun i W=>∃ j : Nat,j ≤ a.length ∧ i = .int .i64 (j : Int) ∧ Hid (ChIn (fun y=>y = c1) w3 W c1 ((leftD NodeD.id (a.take j) b).map goneN))) (fun i _=>a.length - (intOf i).toNat)
     case atStart=>exact ⟨0,Nat.zero_le _,rfl,HS3⟩
     case round =>
      clear HS3
      obtain ⟨j,hj,rfl,HI⟩:=hrel
      by_cases hlt : j < a.length
      ·have hlt1:=Nat.succ_le_of_lt hlt
       have hch:=HI.out
       have hT:=hch.2.2.1
       have hTU3 : Below U.heap.size U w3:=HM2.out.2.2.2.1.below (Kaa HU.out.2.1 H1.out.1) (fun y hy e=>by have:=HU.out.2.1.size;have:=HC.out.2.2.2.1;omega) (by have:=HU.out.2.1.size;have:=H1.out.2.2;omega)
       have hUw : Below U.heap.size U wr:=hT.below hTU3 (fun y hy e=>by have:=HC.out.2.2.2.1;omega) hTU3.size
       obtain ⟨b1,o1,y,rfl,hs,hc,hyU⟩:=HU.out.2.2.1.get hlt
       have hyw:=NRd.below hyU hUw
       have hld : (loadVar 45 ⟨b1,o1 + j * 3,none⟩).run Tryz.prog wr = .ok (.agg y) wr:=StT.load (P:=Tryz.prog) Kay hs fun i u hu=>Kad hUw (ltOf (hc i u hu)) (hc i u hu)
       have hst:=StT.fresh (P:=Tryz.prog) (W:=wr) Kay hs (Kb9.ones hyw)
       have hn1:=Kah (w:=wr) (.cells y 45)
       have hbox:=heap_alloc_new wr (.cells y 45)
       have hmem:=List.getElem_mem hlt
       have htk : a.take (j + 1) = a.take j ++ [a[j]]:=List.take_succ_eq_append_getElem hlt
       have hlen : ((leftD NodeD.id (a.take j) b).map goneN).length ≤ 1100000:=by
        have h1 : (leftD NodeD.id (a.take j) b).length ≤ (a.take j).length:=List.length_filter_le _ _
        have h2:=HL.out.1
        rw [List.length_take] at h1
        rw [List.length_map];omega
       generalize a[j] = bj at *
       have hm:=HM2.out.1.keep (W':=wr) (hT.block _ HM2.out.1.lt (by have:=HC.out.2.2.2.2.1;omega))
       obtain ⟨z,hlk,hz,hzz⟩:=hm.get (P:=Tryz.prog) Tryz.underlying68 Tryz.underlying2 Tryz.zeroValue45 bj.id
       have hfound:=leftD_has NodeD.id (b:=b) hmem
       have hsz : z.size = 3 ∧ ∀ u ∈ z.toList,u.oneCell' = true:=by
        cases hq : (leftD NodeD.id a b).any fun x=>x.id == bj.id with
        | true =>
          obtain ⟨x0,hx0,e0⟩:=List.any_eq_true.1 hq
          have:=hz x0 hx0 (by simpa using e0)
          exact ⟨Kb9.size this,Kb9.ones this⟩
        | false =>
          rw [hzz hq]
          exact ⟨rfl,by simp [nodeZ,Value.oneCell']⟩
       rw [hfound] at hlk
       have hsn:=lost_snoc NodeD.id (a.take j) b bj
       rw [← htk] at hsn
       have HLD:=yh hld
       have HST:=yh hst
       have HLDY:=yh (fun (W : World) (g : W.heap[wr.heap.size]? = some (.cells y 45 (0,0)))=>StT.get (P:=Tryz.prog) Kay hs g)
       have HY:=yh (And.intro hm (And.intro hch (And.intro hUw (And.intro hyU (And.intro hlen (And.intro (show leftD NodeD.id (a.take (j + 1)) b = leftD NodeD.id (a.take j) b ++ if (b.any fun s=>s.id == bj.id) = true then [] else [bj] from hsn) (And.intro hn1 hbox)))))))
       have HZ:=yh (And.intro hlk (And.intro hz hsz))
       clear hm hch hT hTU3 hUw hyU hlen hsn hn1 hbox hlk hz hsz hld hst hs hc hyw htk HI hfound hmem hzz
       generalize (b.any fun s=>s.id == bj.id) = bq at *
       have HV:=yh (show Below wr.heap.size wr (wr.alloc (.cells y 45)) ∧ (wr.alloc (.cells y 45)).heap[wr.heap.size]? = some (.cells y 45 (0,0)) from HY.out.2.2.2.2.2.2)
       have HID1:=yh (idOfN_any (w:=wr.alloc (.cells y 45)) (NRd.below HY.out.2.2.2.1 (Kaa HY.out.2.2.1 HV.out.1)))
       go_wp2_with (first
        | ((with_reducible apply Kao);exact HLD.out;exact rfl;clear HLD)
        | ((with_reducible apply Kaq);exact HST.out _ rfl;exact rfl;exact rfl;clear HST)
        | ((with_reducible apply Kao);exact HLDY.out _ HV.out.2;exact rfl)
        | ((with_reducible apply Kaz);exact HLK.out;exact rfl;exact rfl;clear HLK)
        | ((with_reducible apply Kaq);exact HSZ.out _ rfl;exact rfl;exact rfl;clear HSZ)
        | (go_at_call 89
           (
            refine (HID1.out).mono ?_
            rintro e W3 ⟨rfl,hb3⟩
            have HLK:=yh (HZ.out.1 W3 ((Kaa HV.out.1 hb3).block _ HY.out.1.lt))
            have HSZ:=yh (StT.fresh (P:=Tryz.prog) (W:=W3) Kay HZ.out.2.2.1 HZ.out.2.2.2)
            have hn4:=Kah (w:=W3) (.cells z 45)
            have hb34:=Kaa hb3 hn4
            have HLDZ:=yh (StT.get (P:=Tryz.prog) Kay HZ.out.2.2.1 (heap_alloc_new W3 (.cells z 45)))
            replace HV:=yh (And.intro (Kaa HV.out.1 hb34) (Kaj hb34 (Array.getElem?_eq_some_iff.1 HV.out.2).1 HV.out.2))
            clear hb3 hn4 hb34 HID1
            have hchN:=HY.out.2.1.below HV.out.1
            clear HZ
            cases bq
            rotate_left
            have HN:=yh (show ChIn (fun y=>y = c1) w3 (W3.alloc (.cells z 45)) c1 ((leftD NodeD.id (a.take (j + 1)) b).map goneN) from by rw [HY.out.2.2.2.2.2.1,if_pos rfl,List.append_nil];exact hchN)
            rotate_left))
        | (go_at_call 90
           (
            refine (goneN_any (HY.out.2.1.below HV.out.1) (HY.out.2.1.bdb HV.out.1) (NRd.below HY.out.2.2.2.1 (Kaa HY.out.2.2.1 HV.out.1)) HY.out.2.2.2.2.1).mono ?_
            clear hchN
            rintro e W6 ⟨rfl,hchN,hT6⟩
            have HN:=yh (show ChIn (fun y=>y = c1) w3 W6 c1 ((leftD NodeD.id (a.take (j + 1)) b).map goneN) from by rw [HY.out.2.2.2.2.2.1,if_neg (by simp),List.map_append];exact hchN)
            clear hchN hT6)))
       all_goals (go_roundw;(case rel=>exact ⟨j + 1,hlt1,by go_num,HN⟩);(case measure=>simp [intOf];omega))
      ·obtain rfl : j = a.length:=by omega
       have hch:=HI.out
       rw [List.take_length] at hch
       have HF:=yh (show Gath w wr c1 ((leftD NodeD.id a b).map goneN) ∧ Gath w wr c2 ((newD NodeD.id sameN a b).map comeN) ∧ Touch (fun b=>b = c1 ∨ b = c2) w wr from by
        have hs1:=H1.out.2.2
        have hs3:=HM2.out.2.2.2.1.size
        have hne:=HC.out.2.2.1
        have hl1:=HC.out.2.2.2.2.1
        have hl2:=HC.out.2.2.2.2.2
        refine ⟨ChIn.gath (D:=fun _=>False) hch (by omega) (Touch.refl _ _) (fun b hb=>hb.elim),ChIn.gath HM2.out.2 (by omega) hch.2.2.1 (fun b hb=>by omega),?_⟩
        exact ((Kat H1.out.1).step HM2.out.2.2.2.1 fun b hb e=>by rcases e with e | e;omega;exact .inr e).step hch.2.2.1 fun b hb e=>.inl e)
       clear hch HI
       go_wp2
       go_end0
       exact ⟨rfl,HF.out⟩
def Ext (V W : World) : Prop:=∀ (ad : Addr) (v : Value),V.cell? ad = some v → W.cell? ad = some v
theorem Ext.refl (W : World) : Ext W W:=fun _ _ h=>h
theorem Ext.trans {U V W : World} (h : Ext U V) (g : Ext V W) : Ext U W:=fun ad v e=>g ad v (h ad v e)
theorem Ext.of_below {V W : World} (g : Below V.heap.size V W) : Ext V W:=fun ad v h=>by
 rw [g.cell (World.block_lt_of_cell? V _ h)];exact h
section
variable {X W : World} (x : Ext X W)
include x
theorem RdS.ext {p : Option Addr} {c : Nat} {l : List (List UInt8)} (h : RdS X p c l) : RdS W p c l:=by
 obtain ⟨h1,h2,h3,h5,h4⟩:=h
 exact ⟨h1,h2,h3,h5,fun ad had=>⟨(h4 ad had).1,fun i s hs=>x _ _ ((h4 ad had).2 i s hs)⟩⟩
theorem Six.ext {b o : Nat} {cs : Array Value} (h : Six X b o cs) : Six W b o cs:=by
 obtain ⟨c0,c1,c2,c3,c4,c5,e,h0,h1,h2,h3,h4,h5⟩:=h
 exact ⟨c0,c1,c2,c3,c4,c5,e,x _ _ h0,x _ _ h1,x _ _ h2,x _ _ h3,x _ _ h4,x _ _ h5⟩
theorem VRd.ext : ∀ {v : V} {cs : Array Value},VRd X v cs → VRd W v cs:=by
 intro v
 refine V.ind (P:=fun v=>∀ {cs : Array Value},VRd X v cs → VRd W v cs) (fun k b n t ks l ih cs h=>?_) v
 obtain ⟨pk,ck,pl,cl,e,ht,hk,h1,h2⟩:=Kb8.1 h
 refine Kb8.2 ⟨pk,ck,pl,cl,e,ht,RdS.ext x hk,h1,fun ad had=>⟨(h2 ad had).1,fun j v hv=>?_⟩⟩
 obtain ⟨cs,h6,hv'⟩:=(h2 ad had).2 j v hv
 exact ⟨cs,Six.ext x h6,ih v (List.mem_of_getElem? hv) hv'⟩
theorem GRd.ext {α : Type} {F : World → α → Array Value → Prop} {K : Nat} {l : List α} (hF : ∀ {v : α} {cs : Array Value},F X v cs → F W v cs) {p : Option Addr} {c : Nat} (h : GRd F K X p c l) : GRd F K W p c l:=by
 obtain ⟨h1,h2⟩:=h
 refine ⟨h1,fun ad had=>⟨(h2 ad had).1,fun j v hv=>?_⟩⟩
 obtain ⟨cs,h3,h4,h5⟩:=(h2 ad had).2 j v hv
 exact ⟨cs,h3,fun i u hu=>x _ _ (h4 i u hu),hF h5⟩
theorem PRd.ext {p : PropD} {a : Array Value} (h : PRd X p a) : PRd W p a:=by
 obtain ⟨y,e,h1,h2⟩:=h;exact ⟨y,e,h1,VRd.ext x h2⟩
theorem NRd.ext {p : NodeD} {a : Array Value} (h : NRd X p a) : NRd W p a:=by
 obtain ⟨pl,cl,pp,cp,e,h1,h2⟩:=h;exact ⟨pl,cl,pp,cp,e,RdS.ext x h1,GRd.ext x (fun h=>PRd.ext x h) h2⟩
theorem RRd.ext {p : RelD} {a : Array Value} (h : RRd X p a) : RRd W p a:=by
 obtain ⟨pp,cp,e,h1,h2⟩:=h;exact ⟨pp,cp,e,h1,GRd.ext x (fun h=>PRd.ext x h) h2⟩
theorem CRd.ext {p : ChangeD} {a : Array Value} (h : CRd X p a) : CRd W p a:=by
 obtain ⟨a,b,e,h1,h2⟩:=h;exact ⟨a,b,e,NRd.ext x h1,RRd.ext x h2⟩
theorem GrRd.ext {p : GraphD} {a : Array Value} (h : GrRd X p a) : GrRd W p a:=by
 obtain ⟨pn,cn,pr,cr,e,h1,h2⟩:=h;exact ⟨pn,cn,pr,cr,e,GRd.ext x (fun h=>NRd.ext x h) h1,GRd.ext x (fun h=>RRd.ext x h) h2⟩
end
noncomputable def mask (S : Nat → Prop) (W : World) : World:=by
 classical
 exact { W with heap:=(Array.range W.heap.size).map fun i=>if S i then .cells #[] 0 (0,0) else (W.heap[i]?).getD (.cells #[] 0 (0,0)) }
section
variable {S : Nat → Prop} {W W' : World}
theorem mask_off {b : Nat} (h : ¬ S b) : (mask S W).heap[b]? = W.heap[b]?:=by
 unfold mask
 simp only
 by_cases hb : b < W.heap.size
 ·rw [Array.getElem?_map,Array.getElem?_eq_getElem (by simpa using hb)]
  simp [h,hb]
 ·rw [Array.getElem?_eq_none (by simpa using hb),Array.getElem?_eq_none (by simpa using hb)]
theorem mask_on {ad : Addr} (h : S ad.block) : (mask S W).cell? ad = none:=by
 unfold World.cell?
 by_cases hb : ad.block < W.heap.size
 ·have e : (mask S W).heap[ad.block]? = some (.cells #[] 0 (0,0)):=by
   unfold mask
   simp only
   rw [Array.getElem?_map,Array.getElem?_eq_getElem (by simpa using hb)]
   simp [h]
  rw [e];simp
 ·have e : (mask S W).heap[ad.block]? = none:=by
   unfold mask
   simp only
   rw [Array.getElem?_eq_none (by simpa using hb)]
  rw [e]
theorem mask_cell {ad : Addr} (h : ¬ S ad.block) : (mask S W).cell? ad = W.cell? ad:=World.cell?_of_block (mask_off h)
theorem mask_ext (S : Nat → Prop) (W : World) : Ext (mask S W) W:=fun ad v h=>by
 by_cases hs : S ad.block
 ·rw [mask_on hs] at h;cases h
 ·rwa [mask_cell hs] at h
theorem mask_touch (h : Touch S W W') : Ext (mask S W) (mask S W'):=fun ad v e=>by
 by_cases hs : S ad.block
 ·rw [mask_on hs] at e;cases e
 ·rw [mask_cell hs] at e ⊢
  have hb:=World.block_lt_of_cell? W _ e
  rw [World.cell?_of_block (h.block _ hb hs)];exact e
theorem mask_of {w : World} (hb : Below w.heap.size w W) (hS : ∀ b,S b → w.heap.size ≤ b) : Ext w (mask S W):=fun ad v e=>by
 have hl:=World.block_lt_of_cell? w _ e
 have hs : ¬ S ad.block:=fun h=>by have:=hS _ h;omega
 rw [mask_cell hs]
 exact Ext.of_below hb ad v e
theorem mask_below (hb : Below W.heap.size W W') : Ext (mask S W) (mask S W'):=mask_touch ((Touch.refl S W).grow hb)
end
section
variable {α : Type} {F : World → α → Array Value → Prop} {K : Nat} {P : Program} {t T : TypeId} {U V w w' W W1 : World} {l m : List α} {xs ys : List (Array Value)} {v : Value} {p : Option Addr} {c : Nat}
def VRow (F : World → α → Array Value → Prop) (t : TypeId) (K : Nat) (V w W : World) (v : Value) (l : List α) : Prop:=∃ xs,OwnsP W (fun b=>w.heap.size ≤ b) t K v l.length (xs.flatMap Array.toList) ∧ FRs F V l xs ∧ Below w.heap.size w W
theorem VRow.b (h : VRow F t K V w W v l) : Below w.heap.size w W:=by obtain ⟨_,_,_,h⟩:=h;exact h
theorem VRow.slice (h : VRow F t K V w W v l) : ∃ p c,v = .slice p l.length c:=by obtain ⟨_,h,_,_⟩:=h;exact Kbt h
theorem VRow.nil (h : Below w.heap.size w W) : VRow F t K V w W (.slice none 0 0) ([] : List α):=⟨[],⟨⟨by simp,.inl ⟨rfl,rfl⟩⟩,fun g hg=>by simp [Value.ownBlock] at hg⟩,.nil,h⟩
theorem VRow.below (h : VRow F t K V w W v l) (g : Below W.heap.size W W1) : VRow F t K V w W1 v l:=by
 obtain ⟨xs,h1,h2,h3⟩:=h
 exact ⟨xs,h1.keep fun b _ hb=>g.block b hb,h2,Kaa h3 g⟩
theorem VRow.base (h : VRow F t K V w W v l) (g : Below U.heap.size U w) : VRow F t K V U W v l:=by
 obtain ⟨xs,h1,h2,h3⟩:=h
 exact ⟨xs,h1.imp fun b _ hb=>Nat.le_trans g.size hb,h2,Kaa g h3⟩
theorem VRow.many (hF : EF F K) (hA : GA P t T K) (hV : Ext V w) (h : VRow F t K V w W v l) (hm : GRd F K V p c m) (hn : l.length + m.length ≤ 1200000) (ty : TypeId) :
 ∃ v' W',(Builtin.append_ #[T,T] ty #[v,.slice p m.length c]).run P W = .ok v' W' ∧ VRow F t K V w W' v' (l ++ m):=by
 obtain ⟨xs,h1,h2,h3⟩:=h
 obtain ⟨ys,hy,hcell⟩:=hm.cells hF
 have hy6 : ∀ x ∈ ys,x.size = K:=fun x hx=>by obtain ⟨v,hv⟩:=hy.mem hx;exact hF.size hv
 cases p with
 | none =>
   have hc:=hm.1.2.2 rfl
   have hl : m = []:=List.eq_nil_of_length_eq_zero (by have:=hm.1.1;omega)
   subst hc hl
   refine ⟨v,W,hA.none h1.1 ty,?_⟩
   rw [List.append_nil]
   exact ⟨xs,h1,h2,h3⟩
 | some ad =>
   obtain ⟨v',W2,a1,a2,a3,a4,a5⟩:=hA.many h1.1 (ad:=ad) (m:=m.length) (c:=c) (news:=ys.flatMap Array.toList)
    (by rw [flatG_len hy6,hy.1]) (fun j u hu=>Ext.of_below h3 _ _ (hV _ _ (hcell ad rfl j u hu))) (fun u hu=>by
      obtain ⟨x,hx,hu⟩:=List.mem_flatMap.1 hu
      obtain ⟨v,hv⟩:=hy.mem hx
      exact hF.ones hv u hu) (by omega) ty
   refine ⟨v',W2,a1,xs ++ ys,⟨?_,fun g hg=>?_⟩,h2.append hy,?_⟩
   ·rw [List.flatMap_append,List.length_append];exact a2
   ·rcases a4 with e | e
    ·exact h1.2 g (e.symm.trans hg)
    ·rw [e] at hg;cases hg;exact h3.size
   ·exact a3.below h3 (fun b hb e=>by have:=h1.2 b e;omega) h3.size
theorem VRow.one (hF : EF F K) (hA : GA P t T K) (h : VRow F t K V w W v l) {u : α} {x : Array Value} (hu : F V u x) (hn : l.length ≤ 1100000) (ty : TypeId) :
 ∃ v' W',(Builtin.append_ #[T,T] ty #[v,.slice (some ⟨W.heap.size,0,none⟩) 1 1]).run P (W.alloc (.cells x t)) = .ok v' W' ∧ VRow F t K V w W' v' (l ++ [u]):=by
 have g:=Kah (w:=W) (.cells x t)
 obtain ⟨xs,h1,h2,h3⟩:=h.below g
 obtain ⟨v',W2,a1,a2,a3,a4,a5⟩:=hA.many h1.1 (ad:=⟨W.heap.size,0,none⟩) (m:=1) (c:=1) (news:=x.toList)
  (by rw [Nat.one_mul];simpa using hF.size hu) (fun j u hj=>by rw [Kau,Nat.zero_add];exact Kae (heap_alloc_new W (.cells x t)) (by simpa using hj)) (hF.ones hu) (by omega) ty
 refine ⟨v',W2,a1,xs ++ [x],⟨?_,fun g hg=>?_⟩,h2.append (.one hu),?_⟩
 ·rw [List.flatMap_append,List.length_append]
  simpa using a2
 ·rcases a4 with e | e
  ·exact h1.2 g (e.symm.trans hg)
  ·rw [e] at hg;cases hg;exact h3.size
 ·exact a3.below h3 (fun b hb e=>by have:=h1.2 b e;omega) h3.size
theorem VRow.rd (hF : EF F K) (hx : ∀ {v : α} {cs : Array Value},F V v cs → F U v cs) (h : VRow F t K V w W v l) (hU : ∀ b,w.heap.size ≤ b → b < W.heap.size → U.heap[b]? = W.heap[b]?) (hn : l.length ≤ 140737488355328) : ∃ p c,v = .slice p l.length c ∧ GRd F K U p c l:=by
 obtain ⟨xs,h1,h2,h3⟩:=h
 have hc:=fun g=>h1.1.cells (g:=g)
 have h6 : ∀ x ∈ xs,x.size = K:=fun x hx=>by obtain ⟨v,hv⟩:=h2.mem hx;exact hF.size hv
 have hown:=h1.2
 rcases h1.1.2 with ⟨rfl,h0⟩ | ⟨g,cap,cur,rfl,_,hg,hnc,hcm,_⟩
 ·have : l = []:=List.eq_nil_of_length_eq_zero h0
  subst this
  exact ⟨none,0,rfl,⟨Nat.le_refl _,⟨by simp,by omega⟩,fun _=>rfl⟩,fun ad h=>by cases h⟩
 ·refine ⟨some ⟨g,0,none⟩,cap,rfl,⟨hnc,⟨hn,by unfold maxLen at hcm;omega⟩,fun h=>by cases h⟩,fun ad had=>?_⟩
  cases had
  refine ⟨fun _=>rfl,fun j v hv=>?_⟩
  obtain ⟨x,hxx,hvx⟩:=h2.2 j v hv
  refine ⟨x,hF.size hvx,fun i u hu=>?_,hx hvx⟩
  have hi : i < K:=by
   have:=(Array.getElem?_eq_some_iff.1 hu).1
   rw [hF.size hvx] at this;exact this
  have:=hc g rfl (j * K + i) u (by rw [flat_K h6 j x hxx i hi];exact hu)
  rw [Kau] at this
  rw [Nat.zero_add] at this ⊢
  rw [World.cell?_of_block (w:=W) (hU g (hown g rfl) (ltOf this))]
  exact this
end
theorem changes_size (W : World) : (sizeOf 55).run Tryz.prog W = .ok 11 W:=Tryz.sizeOf55 W
theorem growC_any {V w : World} {n : Nat} (hn : n ≤ 1100000) : Calls Tryz.prog 134 #[.slice none 0 0,.int .i64 (n : Int)] w fun e w'=>∃ p c,e = .returned (.slice p 0 c) ∧ VRow CRd 55 11 V w w' (.slice p 0 c) ([] : List ChangeD):=by
 have z1 : (n : Int) ≤ 1100000:=by omega
 by_cases h0 : n = 0
 ·subst h0
  go_enter Tryz.func134,Tryz.ntmps134
  go_wp2
  go_ret
  exact ⟨none,0,rfl,.nil (Below.refl _ _)⟩
 ·have hp : (0 : Int) < (n : Int):=by omega
  have hp' : 0 < n:=by omega
  obtain ⟨i0,i1,i2,i3,i4⟩:=info_change
  have hr:=fun ty=>Lib.run_append_nil_zeros (P:=Tryz.prog) w 52 3 ty 55 i0 _ .i64 .i64 Tryz.underlying52 Tryz.underlying3 i1 i2 n hp' (by rw [i3];omega) (by omega) (by rw [i4];omega)
  have hge:=grownCap_ge w n 0 55
  have hcm : grownCap w n 0 55 ≤ maxLen:=grownCap_le_maxLen w n 0 55 (by unfold maxLen;omega)
  have hrow : VRow CRd 55 11 V w (w.drew.alloc (.cells (Builtin.zeroCells (Value.agg #[.int .i64 0,.int .i64 0,.int .i64 0,.int .i64 0,.slice none 0 0,.slice none 0 0,.int .i64 0,.int .i64 0,.int .i64 0,.string ⟨#[]⟩,.slice none 0 0]).cells n ++ Builtin.zeroCells (Value.agg #[.int .i64 0,.int .i64 0,.int .i64 0,.int .i64 0,.slice none 0 0,.slice none 0 0,.int .i64 0,.int .i64 0,.int .i64 0,.string ⟨#[]⟩,.slice none 0 0]).cells (grownCap w n 0 55 - n)) 55)) (.slice (some ⟨w.heap.size,0,none⟩) 0 (grownCap w n 0 55)) ([] : List ChangeD):=by
   refine ⟨[],⟨⟨by simp,.inr ⟨w.heap.size,_,_,rfl,Nat.zero_le _,heap_alloc_new w.drew _,Nat.zero_le _,hcm,?_,by simp⟩⟩,fun g hg=>?_⟩,.nil,((Below.refl _ w).drew).alloc (Nat.le_refl _) _⟩
   ·rw [Array.size_append,size_zeroCells,size_zeroCells,← Nat.add_mul]
    show (n + (grownCap w n 0 55 - n)) * 11 = _
    congr 1;omega
   ·simp [Value.ownBlock] at hg;subst hg;exact Nat.le_refl _
  generalize grownCap w n 0 55 = gc at *
  have hgc : ¬ gc = 0:=by omega
  have hs:=fun W=>(runSlAt (P:=Tryz.prog) Tryz.underlying52 (.slice (some ⟨w.heap.size,0,none⟩) n gc) Option.none (some (.int .i64 ((0 : Nat) : Int))) Option.none W).trans (runSl (P:=Tryz.prog) Tryz.underlying52 changes_size (some ⟨w.heap.size,0,none⟩) n gc Option.none (some ((0 : Nat) : Int)) 0 0 (fun i e=>by cases e) (fun _=>rfl) (fun i e=>by cases e;rfl) (fun e=>by cases e) (Nat.le_refl _) (Nat.zero_le _) W)
  rw [if_neg hgc] at hs
  simp only [Option.map_some,Nat.zero_mul,Kau,Nat.add_zero,Nat.sub_zero,Nat.sub_self,Int.natCast_zero] at hs
  have hs0:=fun W=>(runSlAt (P:=Tryz.prog) Tryz.underlying52 (.slice none 0 0) Option.none (some (.int .i64 ((0 : Nat) : Int))) Option.none W).trans (runSl (P:=Tryz.prog) Tryz.underlying52 changes_size none 0 0 Option.none (some ((0 : Nat) : Int)) 0 0 (fun i e=>by cases e) (fun _=>rfl) (fun i e=>by cases e;rfl) (fun e=>by cases e) (Nat.le_refl _) (Nat.le_refl _) W)
  simp only [if_true,Nat.sub_self,Int.natCast_zero] at hs0
  have HA:=yh hr
  have HS:=yh hs
  have HS0:=yh hs0
  have HF:=yh hrow
  clear hr hge hcm hrow hs hs0 h0 hp' hgc i1 i2 i3 i4
  go_enter Tryz.func134,Tryz.ntmps134
  go_wp2_with (first
   | ((with_reducible apply op_slice);exact HS0.out _;exact rfl;exact rfl;exact rfl;exact rfl;clear HS0)
   | ((with_reducible apply op_slice);exact HS.out _;exact rfl;exact rfl;exact rfl;exact rfl;clear HS)
   | ((with_reducible apply Kbz);exact HA.out _;exact rfl;exact rfl;clear HA))
  go_ret
  exact ⟨_,_,rfl,HF.out⟩
def CsRd (w : World) (l : List ChangeD) (x : Array Value) : Prop:=∃ p k,x = #[.slice p l.length k] ∧ GRd CRd 11 w p k l
theorem sumCs_take (ls : List (List ChangeD)) {j : Nat} (hj : j < ls.length) : (ls.take (j + 1)).flatten = (ls.take j).flatten ++ ls[j]:=by
 rw [List.take_succ_eq_append_getElem hj,List.flatten_append];simp
theorem flatCs_le (ls : List (List ChangeD)) (j : Nat) : (ls.take j).flatten.length ≤ ls.flatten.length:=by
 have : ls.flatten = (ls.take j).flatten ++ (ls.drop j).flatten:=by rw [← List.flatten_append,List.take_append_drop]
 rw [this,List.length_append];omega
theorem concatC_any {w : World} {p : Option Addr} {c : Nat} {ls : List (List ChangeD)} (h : GRd CsRd 1 w p c ls) (hn : ls.flatten.length ≤ 1000000) (hl : ls.length ≤ 1000000) :
 Calls Tryz.prog 92 #[.slice p ls.length c] w fun e w'=>∃ q d,e = .returned (.slice q ls.flatten.length d) ∧ VRow CRd 55 11 w w w' (.slice q ls.flatten.length d) ls.flatten:=by
 have z1 : (ls.length : Int) ≤ 1000000:=by omega
 have HH:=yh h
 have HN:=yh hn
 clear h hn hl
 go_enter Tryz.func92,Tryz.ntmps92
 go_wp2
 go_loopw [3,11] (fun s i W=>∃ (j n : Nat),j ≤ ls.length ∧ i = .int .i64 (j : Int) ∧ s = .int .i64 (n : Int) ∧ Hid (n = (ls.take j).flatten.length ∧ Below w.heap.size w W)) (fun _ i _=>ls.length - (intOf i).toNat)
 case atStart=>exact ⟨0,0,Nat.zero_le _,rfl,rfl,yh ⟨by simp,Below.refl _ _⟩⟩
 case round =>
  obtain ⟨j,n,hj,rfl,rfl,HI⟩:=hrel
  by_cases hlt : j < ls.length
  ·have hlt1:=Nat.succ_le_of_lt hlt
   obtain ⟨b1,o1,cs,rfl,hsz,hcc,hv⟩:=HH.out.get hlt
   obtain ⟨p1,k1,ecs,hr⟩:=hv
   have c1 : wr.cell? ⟨b1,o1 + j,none⟩ = some (.slice p1 ls[j].length k1):=by
    have:=hcc 0 _ (by rw [ecs];rfl)
    rw [Nat.mul_one,Nat.add_zero] at this
    exact Kad HI.out.2 (ltOf this) this
   have hst:=sumCs_take ls hlt
   have hfl:=flatCs_le ls (j + 1)
   have HM:=yh (show n + ls[j].length = (ls.take (j + 1)).flatten.length ∧ Below w.heap.size w wr from ⟨by rw [hst,List.length_append,HI.out.1],HI.out.2⟩)
   have z2 : (n : Int) + (ls[j].length : Int) ≤ 1000000:=by have:=HM.out.1;have:=HN.out;omega
   clear hcc hr ecs hst hfl HI hsz
   generalize ls[j].length = m at *
   go_wp2
   go_roundw
   case rel=>exact ⟨j + 1,n + m,hlt1,by go_num,by go_num,HM⟩
   case measure=>simp [intOf];omega
  ·obtain rfl : j = ls.length:=by omega
   have HM:=yh (show n ≤ 1000000 ∧ Below w.heap.size w wr from ⟨by have:=HI.out.1;rw [List.take_length] at this;have:=HN.out;omega,HI.out.2⟩)
   clear HI hj hlt
   go_wp2_with (first
    | (go_at_call 134
       (
        refine (growC_any (V:=w) (w:=wr) (n:=n) (by have:=HM.out.1;omega)).mono ?_
        rintro e W2 ⟨p2,c2,rfl,hv⟩
        have HV:=yh (hv.base HM.out.2)
        clear hv)))
   have HV0:=yh (show VRow CRd 55 11 w w W2 (.slice p2 (ls.take 0).flatten.length c2) (ls.take 0).flatten from by simpa using HV.out)
   clear HV HM
   go_loopw [6,27] (fun o i W=>∃ (j : Nat) (q : Option Addr) (d : Nat),j ≤ ls.length ∧ i = .int .i64 (j : Int) ∧ o = .slice q (ls.take j).flatten.length d ∧ Hid (VRow CRd 55 11 w w W (.slice q (ls.take j).flatten.length d) (ls.take j).flatten)) (fun _ i _=>ls.length - (intOf i).toNat)
   case atStart=>exact ⟨0,p2,c2,Nat.zero_le _,rfl,by simp,HV0⟩
   case round =>
    clear HV0
    obtain ⟨j,q,d,hj,rfl,rfl,HI⟩:=hrel
    by_cases hlt : j < ls.length
    ·have hlt1:=Nat.succ_le_of_lt hlt
     obtain ⟨b1,o1,cs,rfl,hsz,hcc,hv⟩:=HH.out.get hlt
     obtain ⟨p1,k1,ecs,hr⟩:=hv
     have c1 : wr.cell? ⟨b1,o1 + j,none⟩ = some (.slice p1 ls[j].length k1):=by
      have:=hcc 0 _ (by rw [ecs];rfl)
      rw [Nat.mul_one,Nat.add_zero] at this
      exact Kad HI.out.b (ltOf this) this
     have hst:=sumCs_take ls hlt
     have hfl:=flatCs_le ls (j + 1)
     obtain ⟨v2,W9,a2,r2⟩:=HI.out.many Kbv Kcx (Ext.refl w) hr (by rw [← List.length_append,← hst];have:=HN.out;omega) 52
     rw [← hst] at r2
     obtain ⟨p3,d3,rfl⟩:=r2.slice
     have HA2:=yh a2
     have HR2:=yh r2
     clear hcc hr ecs hst hfl HI hsz a2 r2
     generalize ls[j].length = m at *
     go_wp2_with ((with_reducible apply Kbz);exact HA2.out;exact rfl;exact rfl;clear HA2)
     go_roundw
     case rel=>exact ⟨j + 1,p3,d3,hlt1,by go_num,by simp,HR2⟩
     case measure=>simp [intOf];omega
    ·obtain rfl : j = ls.length:=by omega
     have hr:=HI.out
     rw [List.take_length] at hr ⊢
     have HR:=yh hr
     clear hr HI hj hlt
     go_wp2
     go_ret
     exact ⟨_,_,rfl,HR.out⟩
theorem addNode_gg {S : Nat → Prop} {w : World} {B : GB} {g : GraphD} (hE : Env w) (hg : GG S w B g) (hS : ∀ b,w.heap.size ≤ b → S b) (hok : okG g = true) {pl : Option Addr} {cl : Nat} {labels : List (List UInt8)} (hl : RdS w pl cl labels) (hl1 : labels.length ≤ 1100000) {pp : Option Addr} {cp : Nat} {props : List PropD} (hp : GRd PRd 7 w pp cp props) (hp1 : PsOk props) :
 Calls Tryz.prog 15 #[.pointer (some ⟨B.gx,0,none⟩),.slice pl labels.length cl,.slice pp props.length cp] w fun e w'=>e = .returned (.tuple #[.int .i64 (Kb7 g labels props).2.1,.int .i64 (Kb7 g labels props).2.2]) ∧ GG S w' B (Kb7 g labels props).1 ∧ Touch S w w':=by
 obtain ⟨ma,h⟩:=hg
 refine (addNode_any hE h hS hok hl hl1 hp hp1).mono ?_
 rintro e w' ⟨he,h1,h2⟩
 have hgr : (gsOf g).graph = g:=rfl
 rw [hgr] at he h1
 refine ⟨he,⟨ma,?_⟩,h2⟩
 have hr : (Kb7 g labels props).1.rels = g.rels:=by
  unfold Kb7
  split
  ·rfl
  ·split <;> rfl
 unfold gsOf
 rw [hr]
 exact h1
theorem drop_gg {S : Nat → Prop} {w : World} {B : GB} {g : GraphD} (hg : GG S w B g) (hS : ∀ b,w.heap.size ≤ b → S b) (hok : okG g = true) (rel : Bool) (i : Int) :
 Calls Tryz.prog 38 #[.pointer (some ⟨B.gx,0,none⟩),.bool rel,.int .i64 i] w fun e w'=>e = .returned (.int .i64 (dropD g rel i).2) ∧ GG S w' B (dropD g rel i).1 ∧ Touch S w w':=by
 cases rel with
 | false=>exact dropN_any hg hS hok i
 | true=>exact dropR_any hg hS hok i
theorem RdS.pair {W : World} {g : Nat} {a b : List UInt8} (h : W.heap[g]? = some (.cells #[.string (strB a),.string (strB b)] 9 (0,0))) (ha : a.length ≤ 1000) (hb : b.length ≤ 1000) : RdS W (some ⟨g,0,none⟩) 2 [a,b]:=by
 refine ⟨Nat.le_refl _,by simp,fun e=>(by cases e),fun s hs=>?_,fun ad had=>?_⟩
 ·rcases List.mem_cons.1 hs with rfl | hs
  ·omega
  ·rw [List.mem_singleton.1 hs];omega
 ·cases had
  refine ⟨fun _=>rfl,fun i s hs=>?_⟩
  match i,hs with
  | 0,hs=>cases hs;exact Kae (o:=0) h rfl
  | 1,hs=>cases hs;exact Kae (o:=1) h rfl
  | n + 2,hs=>simp at hs
theorem GRd.single {W : World} {g : Nat} {p : PropD} {x : Array Value} (h : W.heap[g]? = some (.cells x 47 (0,0))) (hx : PRd W p x) : GRd PRd 7 W (some ⟨g,0,none⟩) 1 [p]:=by
 refine ⟨⟨Nat.le_refl _,by simp,fun e=>(by cases e)⟩,fun ad had=>?_⟩
 cases had
 refine ⟨fun _=>rfl,fun j v hv=>?_⟩
 match j,hv with
 | 0,hv =>
   cases hv
   refine ⟨x,Kew.size hx,fun i u hu=>?_,hx⟩
   have:=Kae (o:=i) h hu
   simpa using this
 | n + 1,hv=>simp at hv
theorem RdS.none (W : World) : RdS W none 0 []:=⟨Nat.le_refl _,by simp,fun _=>rfl,fun s hs=>by simp at hs,fun ad had=>by cases had⟩
theorem GRd.none {α : Type} (F : World → α → Array Value → Prop) (K : Nat) (W : World) : GRd F K W none 0 ([] : List α):=⟨⟨Nat.le_refl _,by simp,fun _=>rfl⟩,fun ad had=>by cases had⟩
def kLabels : List (List UInt8):=[[66],[65]]
def kVal : V:=.mk 2 false 1 [] [] []
def kProps : List PropD:=[⟨[107],kVal⟩]
def kg1 : GraphD:=⟨[⟨0,[[65],[66]],kProps⟩],[],1,0⟩
def kg2 : GraphD:=⟨[⟨0,[[65],[66]],kProps⟩,⟨1,[],[]⟩],[],2,0⟩
def kg3 : GraphD:=⟨[⟨0,[[65],[66]],kProps⟩,⟨1,[],[]⟩],[⟨0,0,1,[84],[]⟩],2,1⟩
def kg4 : GraphD:=⟨[⟨0,[[65],[66]],kProps⟩,⟨1,[],[]⟩],[],2,1⟩
def kg5 : GraphD:=⟨[⟨1,[],[]⟩],[],2,1⟩
theorem kok0 : okG Kck = true:=by kernel_rfl
theorem kok1 : okG kg1 = true:=by kernel_rfl
theorem kok2 : okG kg2 = true:=by kernel_rfl
theorem kok3 : okG kg3 = true:=by kernel_rfl
theorem kok4 : okG kg4 = true:=by kernel_rfl
theorem kadd1 : Kb7 Kck kLabels kProps = (kg1,0,0):=by kernel_rfl
theorem kadd2 : Kb7 kg1 [] [] = (kg2,1,0):=by kernel_rfl
theorem kadd3 : addRelD kg2 0 1 [84] [] = (kg3,0,0):=by kernel_rfl
theorem kadd4 : addRelD kg3 0 2 [84] [] = (kg3,0,5):=by kernel_rfl
theorem kdrop1 : dropD kg3 false 0 = (kg3,150):=by kernel_rfl
theorem kdrop2 : dropD kg3 true 0 = (kg4,0):=by kernel_rfl
theorem kdrop3 : dropD kg4 false 0 = (kg5,0):=by kernel_rfl
theorem kbound : GOk kg5:=by refine ⟨by decide,by decide,?_,?_⟩ <;> simp [kg5,NOk,PsOk]
theorem kbound0 : GOk Kck:=by refine ⟨by decide,by decide,?_,?_⟩ <;> simp [Kck]
theorem Touch.low {w W W' : World} (h : Touch (fun b=>w.heap.size ≤ b) W W') (hb : Below w.heap.size w W) : Below w.heap.size w W':=h.below hb (fun b h1 h2=>by omega) hb.size
def kCells : Array Value:=#[.string (strB [107]),.int .i64 2,.bool false,.int .i64 1,.string (strB []),.slice none 0 0,.slice none 0 0]
theorem kcells_rd (W : World) : PRd W ⟨[107],kVal⟩ kCells:=⟨#[.int .i64 2,.bool false,.int .i64 1,.string (strB []),.slice none 0 0,.slice none 0 0],rfl,by simp,Kb8.2 ⟨none,0,none,0,rfl,by simp,RdS.none W,⟨Nat.le_refl _,by simp,fun _=>rfl⟩,fun ad had=>by cases had⟩⟩
theorem kPsOk : PsOk kProps:=⟨by simp [kProps],fun p hp=>by rw [List.mem_singleton.1 hp];exact ⟨by simp,by simp [kVal,totV,totVs]⟩⟩
theorem run_bs2s (x y : List UInt8) (w : World) : (Instr.buildSlice 26 2 #[(0,.string (strB x)),(1,.string (strB y))]).run Tryz.prog w = .ok (.slice (some ⟨w.heap.size,0,none⟩) 2 2) (w.alloc (.cells #[.string (strB x),.string (strB y)] 9)):=by
 simp [Instr.buildSlice,go_sem,Instr.fill]
theorem known_any {w : World} (hE : Env w) : Calls Tryz.prog 12 #[] w fun e w'=>e = .returned (.bool true) ∧ Below w.heap.size w w':=by
 have hr0 : GrRd w Kck #[.slice none 0 0,.slice none 0 0,.int .i64 0,.int .i64 0]:=⟨none,0,none,0,rfl,GRd.none _ _ _,GRd.none _ _ _⟩
 have HMK:=yh (make_any hE hr0 kbound0)
 have HE:=yh hE
 clear hE hr0
 go_enter Tryz.func12,Tryz.ntmps12
 go_wp2_with (first
  | (go_at_call 14
     (
      refine HMK.out.mono ?_
      rintro e w1 ⟨hb,_,h2⟩
      obtain ⟨B,ma,rfl,hgm⟩:=h2 kok0
      have hg1 : GG (fun b=>w.heap.size ≤ b) w1 B Kck:=GG.made kok0 hgm
      have hn2:=Kah (w:=w1) (.cells #[.string (strB [66]),.string (strB [65])] 9)
      have hn3:=Kah (w:=w1.alloc (.cells #[.string (strB [66]),.string (strB [65])] 9)) (.cells kCells 47)
      have hl3:=RdS.pair (Kaj hn3 (by simp) (heap_alloc_new w1 (.cells #[.string (strB [66]),.string (strB [65])] 9))) (by decide) (by decide)
      have hx3:=heap_alloc_new (w1.alloc (.cells #[.string (strB [66]),.string (strB [65])] 9)) (.cells kCells 47)
      simp only [World.size_alloc] at hx3
      have hp3:=GRd.single hx3 (kcells_rd _)
      have hb3:=Kaa hb (Kaa hn2 hn3)
      have hc1:=addNode_gg (HE.out.b hb3) (hg1.below (Kaa hn2 hn3)) (fun b h=>Nat.le_trans hb3.size h) kok0 (labels:=kLabels) hl3 (by decide) (props:=kProps) hp3 kPsOk
      rw [kadd1] at hc1
      have HBS2:=yh (run_bs2s [66] [65] w1)
      have hbs1:=Kar (P:=Tryz.prog) (w:=w1.alloc (.cells #[.string (strB [66]),.string (strB [65])] 9)) (v:=.agg kCells) Tryz.underlying27 Tryz.sizeOf47 Tryz.zeroValue47 rfl (by omega) (by omega)
      simp only [World.size_alloc] at hbs1
      have HBS1:=yh hbs1
      have HC1:=yh hc1
      have HB3:=yh hb3
      clear hb h2 hgm hg1 hn2 hn3 hl3 hx3 hp3 hb3 hc1 HMK hbs1))
  | ((with_reducible apply op_bs2);exact HBS2.out;exact rfl;exact rfl;clear HBS2)
  | ((with_reducible apply Kd9);exact HBS1.out;exact rfl;clear HBS1)
  | (go_at_call 15
     (
      refine HC1.out.mono ?_
      rintro e w4 ⟨rfl,hg4,hT4⟩
      have hb4:=hT4.low HB3.out
      have hc2:=addNode_gg (HE.out.b hb4) hg4 (fun b h=>Nat.le_trans hb4.size h) kok1 (RdS.none w4) (by decide) (GRd.none PRd 7 w4) ⟨by simp,fun p hp=>by simp at hp⟩
      rw [kadd2] at hc2
      have HC2:=yh hc2
      have HB4:=yh hb4
      clear hg4 hT4 hb4 hc2 HC1))
  | (go_at_call 15
     (
      refine HC2.out.mono ?_
      rintro e w5 ⟨rfl,hg5,hT5⟩
      have hb5:=hT5.low HB4.out
      have hc3:=addRel_any (HE.out.b hb5) hg5 (fun b h=>Nat.le_trans hb5.size h) kok2 0 1 (type:=[84]) (by decide) (GRd.none PRd 7 w5) ⟨by simp,fun p hp=>by simp at hp⟩
      rw [kadd3] at hc3
      have HC3:=yh hc3
      have HB5:=yh hb5
      clear hg5 hT5 hb5 hc3 HC2))
  | (go_at_call 37
     (
      refine HC3.out.mono ?_
      rintro e w6 ⟨rfl,hg6,hT6⟩
      have hb6:=hT6.low HB5.out
      have hc4:=addRel_any (HE.out.b hb6) hg6 (fun b h=>Nat.le_trans hb6.size h) kok3 0 2 (type:=[84]) (by decide) (GRd.none PRd 7 w6) ⟨by simp,fun p hp=>by simp at hp⟩
      rw [kadd4] at hc4
      have HC4:=yh hc4
      have HB6:=yh hb6
      clear hg6 hT6 hb6 hc4 HC3))
  | (go_at_call 37
     (
      refine HC4.out.mono ?_
      rintro e w7 ⟨rfl,hg7,hT7⟩
      have hb7:=hT7.low HB6.out
      have hc5:=drop_gg hg7 (fun b h=>Nat.le_trans hb7.size h) kok3 false 0
      rw [kdrop1] at hc5
      have HC5:=yh hc5
      have HB7:=yh hb7
      clear hg7 hT7 hb7 hc5 HC4))
  | (go_at_call 38
     (
      refine HC5.out.mono ?_
      rintro e w8 ⟨rfl,hg8,hT8⟩
      have hb8:=hT8.low HB7.out
      have hc6:=drop_gg hg8 (fun b h=>Nat.le_trans hb8.size h) kok3 true 0
      rw [kdrop2] at hc6
      have HC6:=yh hc6
      have HB8:=yh hb8
      clear hg8 hT8 hb8 hc6 HC5))
  | (go_at_call 38
     (
      refine HC6.out.mono ?_
      rintro e w9 ⟨rfl,hg9,hT9⟩
      have hb9:=hT9.low HB8.out
      have hc7:=drop_gg hg9 (fun b h=>Nat.le_trans hb9.size h) kok4 false 0
      rw [kdrop3] at hc7
      have HC7:=yh hc7
      have HB9:=yh hb9
      clear hg9 hT9 hb9 hc7 HC6))
  | (go_at_call 38
     (
      refine HC7.out.mono ?_
      rintro e w10 ⟨rfl,⟨m10,hg10⟩,hT10⟩
      have hb10:=hT10.low HB9.out
      have hc8:=tellG_any hg10 kbound.2.2.1 kbound.2.2.2 (by decide) (by decide)
      have HC8:=yh hc8
      have HB10:=yh hb10
      clear hg10 hT10 hb10 hc8 HC7))
  | (go_at_call 16
     (
      refine HC8.out.mono ?_
      rintro e w11 ⟨x,rfl,hx,hb⟩
      obtain ⟨pn,cn,pr,cr,rfl,_,_⟩:=hx.rdO kbound
      have HFR:=yh (StT.fresh (P:=Tryz.prog) (W:=w11) Ka5 (show (#[.slice pn kg5.nodes.length cn,.slice pr kg5.rels.length cr,.int .i64 kg5.nextNode,.int .i64 kg5.nextRel] : Array Value).size = 4 from rfl) (by simp [Value.oneCell']))
      have hb11:=Kaa HB10.out hb
      have hx12:=heap_alloc_new w11 (.cells #[.slice pn kg5.nodes.length cn,.slice pr kg5.rels.length cr,.int .i64 kg5.nextNode,.int .i64 kg5.nextRel] 25)
      have p0 : (w11.alloc (.cells #[.slice pn kg5.nodes.length cn,.slice pr kg5.rels.length cr,.int .i64 kg5.nextNode,.int .i64 kg5.nextRel] 25)).cell? ⟨w11.heap.size,0,none⟩ = some (.slice pn 1 cn):=Kae (o:=0) hx12 rfl
      have p2 : (w11.alloc (.cells #[.slice pn kg5.nodes.length cn,.slice pr kg5.rels.length cr,.int .i64 kg5.nextNode,.int .i64 kg5.nextRel] 25)).cell? ⟨w11.heap.size,2,none⟩ = some (.int .i64 2):=Kae (o:=2) hx12 rfl
      have p3 : (w11.alloc (.cells #[.slice pn kg5.nodes.length cn,.slice pr kg5.rels.length cr,.int .i64 kg5.nextNode,.int .i64 kg5.nextRel] 25)).cell? ⟨w11.heap.size,3,none⟩ = some (.int .i64 1):=Kae (o:=3) hx12 rfl
      have HB12:=yh (Kaa hb11 (Kah (w:=w11) (.cells #[.slice pn kg5.nodes.length cn,.slice pr kg5.rels.length cr,.int .i64 kg5.nextNode,.int .i64 kg5.nextRel] 25)))
      clear hx hb hb11 hx12 HC8))
  | ((with_reducible apply Kaq);exact HFR.out _ rfl;exact rfl;exact rfl;clear HFR))
 go_ret
 exact ⟨rfl,HB12.out⟩
theorem more_any (l : List UInt8) (i : Nat) (w : World) (hi : i ≤ 140737488355400) (hl : l.length ≤ 140737488355328) : Calls Tryz.prog 186 #[.string (strB l),.int .i64 (i : Int)] w fun e w'=>e = .returned (.bool (moreB l i)) ∧ w = w':=by
 have hsz : (strB l).size = l.length:=rfl
 have z1 : (l.length : Int) ≤ 140737488355328:=by omega
 by_cases h : i < l.length
 ·have hm : moreB l i = (decide (128 ≤ l[i].toNat) && decide (l[i].toNat ≤ 191)):=by unfold moreB;rw [List.getElem?_eq_getElem h]
  rw [hm]
  go_enter Tryz.func186,Tryz.ntmps186
  go_wp2
  ·rename_i hx
   have hx' : 128 ≤ (l[i].toNat : Int):=hx
   go_ret
   refine ⟨Kak ?_,rfl⟩
   rw [show decide (128 ≤ l[i].toNat) = true by simp;omega,Bool.true_and]
   show decide ((l[i].toNat : Int) ≤ 191) = decide (l[i].toNat ≤ 191)
   rw [Bool.eq_iff_iff,decide_eq_true_iff,decide_eq_true_iff]
   omega
  ·rename_i hx
   have hx' : (l[i].toNat : Int) < 128:=hx
   go_ret
   exact ⟨Kak (by rw [show decide (128 ≤ l[i].toNat) = false by simp;omega];rfl),rfl⟩
 ·have hm : moreB l i = false:=by unfold moreB;rw [List.getElem?_eq_none (by omega)]
  rw [hm]
  go_enter Tryz.func186,Tryz.ntmps186
  go_wp2
  go_ret
  exact ⟨rfl,rfl⟩
theorem more_int (l : List UInt8) (n : Int) (w : World) (h0 : 0 ≤ n) (hi : n ≤ 140737488355400) (hl : l.length ≤ 140737488355328) : Calls Tryz.prog 186 #[.string (strB l),.int .i64 n] w fun e w'=>e = .returned (.bool (moreB l n.toNat)) ∧ w = w':=by
 obtain ⟨i,rfl⟩ : ∃ i : Nat,n = (i : Int):=⟨n.toNat,by omega⟩
 exact more_any l i w (by omega) hl
theorem runeAt_any (l : List UInt8) (i : Nat) (w : World) (hi : i < l.length) (hl : l.length ≤ 140737488355328) : Calls Tryz.prog 137 #[.string (strB l),.int .i64 (i : Int)] w fun e w'=>e = .returned (.int .i64 (runeL l i : Int)) ∧ w = w':=by
 have hsz : (strB l).size = l.length:=rfl
 have z1 : (l.length : Int) ≤ 140737488355328:=by omega
 have t1 : ((i : Int) + 1).toNat = i + 1:=by omega
 have t2 : ((i : Int) + 2).toNat = i + 2:=by omega
 have t3 : ((i : Int) + 3).toNat = i + 3:=by omega
 have hb : byteN l i = ((strB l)[i]'hi).toNat:=by unfold byteN;rw [List.getElem?_eq_getElem hi];rfl
 cases hm1 : moreB l (i + 1) with
 | false =>
   go_enter Tryz.func137,Tryz.ntmps137
   go_wp2_with (go_at_call 186
                (
                  refine (more_int _ _ _ (by omega) (by omega) hl).mono ?_
                  rintro e w' ⟨rfl,rfl⟩
                  simp only [t1,t2,t3,hm1]))
   all_goals
    go_ret
    refine ⟨Ka6 ?_,rfl⟩
    unfold runeL
    rw [hm1,hb]
    generalize ((strB l)[i]'hi).toNat = c at *
    (repeat' split) <;> first | rfl | omega | (simp only [Bool.and_eq_true,decide_eq_true_eq,Bool.false_eq_true,and_false,false_and,not_false_eq_true,not_true_eq_false] at * <;> omega)
 | true =>
   have hi1 : i + 1 < l.length:=by
    unfold moreB at hm1
    split at hm1
    ·rename_i x hx
     exact (List.getElem?_eq_some_iff.1 hx).1
    ·cases hm1
   have hi1' : (i : Int) + 1 < l.length:=by omega
   have hb1 : byteN l (i + 1) = ((strB l)[i + 1]'hi1).toNat:=by unfold byteN;rw [List.getElem?_eq_getElem hi1];rfl
   cases hm2 : moreB l (i + 2) <;> cases hm3 : moreB l (i + 3)
   all_goals
    go_enter Tryz.func137,Tryz.ntmps137
    go_wp2_with (go_at_call 186
                 (
                   refine (more_int _ _ _ (by omega) (by omega) hl).mono ?_
                   rintro e w' ⟨rfl,rfl⟩
                   simp only [t1,t2,t3,hm1,hm2,hm3]))
    all_goals
     go_ret
     refine ⟨Ka6 ?_,rfl⟩
     unfold runeL
     rw [hm1,hm2,hb,hb1]
     try rw [hm3]
     generalize ((strB l)[i]'hi).toNat = c at *
     generalize ((strB l)[i + 1]'hi1).toNat = d at *
     (repeat' split) <;> first | rfl | omega | (simp only [Bool.and_eq_true,Bool.or_eq_true,beq_iff_eq,decide_eq_true_eq,Bool.false_eq_true,and_false,false_and,and_true,true_and,not_false_eq_true,not_true_eq_false] at * <;> omega)
theorem runeL_le (l : List UInt8) (i : Nat) : runeL l i ≤ 4:=by
 unfold runeL
 (repeat' split) <;> omega
theorem valid_step (l : List UInt8) (i : Nat) (h : i < l.length) : Lib.validD (l.drop i) = if runeL l i = 0 then false else Lib.validD (l.drop (i + runeL l i)):=by
 have h1:=utfFrom_valid l (l.length - i) i (Nat.le_refl _)
 obtain ⟨f,hf⟩ : ∃ f,l.length - i = f + 1:=⟨l.length - i - 1,by omega⟩
 rw [hf] at h1
 rw [← h1]
 unfold utfFrom
 have h' : ¬ l.length ≤ i:=by omega
 by_cases h0 : runeL l i = 0
 ·simp [h',h0]
 ·have h2:=utfFrom_valid l f (i + runeL l i) (by omega)
  simp [h',h0,h2]
theorem valid_end (l : List UInt8) (i : Nat) (h : l.length ≤ i) : Lib.validD (l.drop i) = true:=by
 rw [List.drop_eq_nil_of_le h];rfl
theorem utfR_any (l : List UInt8) (w : World) (hl : l.length ≤ 140737488355328) : Calls Tryz.prog 95 #[.string (strB l)] w fun e w'=>e = .returned (.bool (Lib.validD l)) ∧ w = w':=by
 have hsz : (strB l).size = l.length:=rfl
 have z1 : (l.length : Int) ≤ 140737488355328:=by omega
 have HL:=yh hl
 go_enter Tryz.func95,Tryz.ntmps95
 go_wp2
 go_loopw [3] (fun i W=>∃ j : Nat,j ≤ l.length + 4 ∧ i = .int .i64 (j : Int) ∧ Hid (Lib.validD l = Lib.validD (l.drop j)) ∧ w = W) (fun i _=>l.length - (intOf i).toNat)
 case atStart=>exact ⟨0,by omega,rfl,yh rfl,rfl⟩
 case round =>
  obtain ⟨j,hj,rfl,HQ,rfl⟩:=hrel
  have zj : (j : Int) ≤ 140737488355332:=by omega
  by_cases hlt : j < l.length
  ·have hst:=valid_step l j hlt
   have hrl:=runeL_le l j
   have HC:=yh (runeAt_any l j w hlt HL.out)
   by_cases h0 : runeL l j = 0
   ·rw [if_pos h0] at hst
    rw [h0] at HC
    have HS:=yh hst
    clear hst h0 hrl
    go_wp2_with (go_at_call 137;refine HC.out.mono ?_;rintro e w' ⟨rfl,rfl⟩)
    go_ret
    exact ⟨Kak (by rw [HQ.out,HS.out]),rfl⟩
   ·rw [if_neg h0] at hst
    generalize runeL l j = r at *
    have HS:=yh (HQ.out.trans hst)
    have hr0 : ¬ (r : Int) = 0:=by omega
    have hr1 : ((r : Int) == 0) = false:=by rw [beq_eq_false_iff_ne];omega
    have zr : (r : Int) ≤ 4:=by omega
    clear hst HQ
    go_wp2_with (go_at_call 137;refine HC.out.mono ?_;rintro e w' ⟨rfl,rfl⟩)
    go_roundw
    case rel=>exact ⟨j + r,by omega,by go_num,HS,trivial⟩
    case measure=>simp [intOf];omega
  ·have he:=valid_end l j (by omega)
   go_wp2
   go_ret
   exact ⟨Kak (by rw [HQ.out,he]),rfl⟩
theorem contains_snoc0 (l : List UInt8) (x : UInt8) : (l ++ [x]).contains 0 = (l.contains 0 || decide (x = 0)):=by
 by_cases h1 : (0 : UInt8) ∈ l
 ·simp [h1]
 ·by_cases h2 : x = 0
  ·simp [h1,h2]
  ·have h3 : ¬ (0 : UInt8) = x:=fun e=>h2 e.symm
   simp [h1,h2,h3]
theorem okNm_zero {s : List UInt8} (h : s.contains 0 = true) : okNm s = false:=by unfold okNm;rw [h];simp
theorem okNm_not {s : List UInt8} (h : s.contains 0 = false) : okNm s = (decide (1 ≤ s.length) && decide (s.length ≤ 64) && Lib.validD s):=by
 unfold okNm
 rw [h]
 cases s with
 | nil=>rfl
 | cons a r=>simp
theorem refname_any {w : World} (s : List UInt8) (hl : s.length ≤ 140737488355328) : Calls Tryz.prog 35 #[.string (strB s)] w fun e w'=>e = .returned (.bool (okNm s)) ∧ w = w':=by
 have hsz : (strB s).size = s.length:=rfl
 have z1 : (s.length : Int) ≤ 140737488355328:=by omega
 have HU:=yh (fun W=>utfR_any s W hl)
 go_enter Tryz.func35,Tryz.ntmps35
 go_wp2
 go_loopw [3] (fun i W=>∃ j : Nat,j ≤ s.length ∧ i = .int .i64 (j : Int) ∧ Hid ((s.take j).contains 0 = false) ∧ w = W) (fun i _=>s.length - (intOf i).toNat)
 case atStart=>exact ⟨0,Nat.zero_le _,rfl,yh (by simp),rfl⟩
 case round =>
  obtain ⟨j,hj,rfl,HQ,rfl⟩:=hrel
  by_cases hlt : j < s.length
  ·have hst : (s.take (j + 1)).contains 0 = ((s.take j).contains 0 || decide (s[j] = 0)):=by rw [List.take_succ_eq_append_getElem hlt,contains_snoc0]
   have hall : s[j] = 0 → s.contains 0 = true:=fun e=>by
    have:=List.getElem_mem hlt
    rw [e] at this
    simpa using this
   have hz : s[j] = 0 ↔ ((strB s)[j]'hlt).toNat = 0:=by
    rw [show (strB s)[j]'hlt = s[j] from rfl]
    constructor
    ·intro e;rw [e];rfl
    ·intro e;exact UInt8.toNat_inj.1 e
   generalize s[j] = x at *
   by_cases h0 : x = 0
   ·have HF:=yh (okNm_zero (hall h0))
    have hz0:=hz.1 h0
    clear hst hall hz HU
    go_wp2
    go_ret
    exact ⟨Kak HF.out.symm,rfl⟩
   ·have HN:=yh (show (s.take (j + 1)).contains 0 = false by rw [hst,HQ.out];simpa using h0)
    have hz0 : ¬ ((strB s)[j]'hlt).toNat = 0:=fun e=>h0 (hz.2 e)
    clear hst hall hz HU
    go_wp2
    go_roundw
    case rel=>exact ⟨j + 1,by omega,by go_num,HN,trivial⟩
    case measure=>simp [intOf];omega
  ·obtain rfl : j = s.length:=by omega
   have hok:=HQ.out
   rw [List.take_length] at hok
   have hk:=okNm_not hok
   clear HQ hok
   by_cases h1 : 1 ≤ s.length
   ·by_cases h2 : s.length ≤ 64
    ·have HK:=yh (show okNm s = Lib.validD s by rw [hk];simp [h1,h2])
     have g1 : (1 : Int) ≤ (s.length : Int):=by omega
     have g2 : (s.length : Int) ≤ 64:=by omega
     clear hk
     go_wp2_with (go_at_call 95;refine (HU.out _).mono ?_;rintro e w1 ⟨rfl,rfl⟩)
     go_ret
     exact ⟨Kak HK.out.symm,rfl⟩
    ·have HK:=yh (show okNm s = false by rw [hk];simp [h2])
     have g2 : ¬ (s.length : Int) ≤ 64:=by omega
     clear hk HU
     go_wp2
     go_ret
     exact ⟨Kak HK.out.symm,rfl⟩
   ·have HK:=yh (show okNm s = false by rw [hk];simp [h1])
    have g1 : ¬ (1 : Int) ≤ (s.length : Int):=by omega
    clear hk HU
    go_wp2
    go_ret
    exact ⟨Kak HK.out.symm,rfl⟩
theorem isE {α : Type} (l : List α) : l.isEmpty = ((l.length : Int) == 0):=by cases l <;> simp <;> omega
theorem bareR_any {v : V} {w : World} {x : Array Value} (hx : VRd w v x) : Calls Tryz.prog 185 #[.agg x] w fun e w'=>e = .returned (.bool (bareV v)) ∧ Below w.heap.size w w':=by
 have hT:=OneB.start w x
 cases v with
 | mk k b n t ks l =>
   obtain ⟨pk,ck,pl,cl,rfl,htx,hk1,hl1⟩:=Kb8.1 hx
   have zt : (strB t).size = t.length:=rfl
   have z1 : (ks.length : Int) ≤ 140737488355328:=by have:=hk1.1;have:=hk1.2.1;omega
   have z2 : (l.length : Int) ≤ 140737488355328:=by have:=hl1.1.2.1;omega
   have hb : bareV (.mk k b n t ks l) = ((k == 1 || !b) && (k == 2 || k == 6 || k == 7 || n == 0) && (k == 3 || t.isEmpty) && (k == 5 || ks.isEmpty) && (k == 4 || k == 5 || l.isEmpty)):=rfl
   rw [hb]
   have HT:=yh hT
   clear hx hk1 hl1 hT hb htx
   go_enter Tryz.func185,Tryz.ntmps185
   go_wp2
   all_goals
    go_ret
    refine ⟨Kak ?_,Kah _⟩
    try rw [isE ks]
    try rw [isE l]
    simp_all [Kax]
def headV (u : List UInt8 → Bool) (v : V) : Bool :=
 decide (0 ≤ v.kind) && decide (v.kind ≤ 7) && bareV v && (!(v.kind == 6 || v.kind == 7) || decide (0 ≤ v.n)) && u v.text && (!(v.kind == 5) || v.keys.length == v.list.length)
theorem oneV_head (u : List UInt8 → Bool) (v : V) : oneV u v = (headV u v && v.keys.all u && Kav v.keys):=rfl
theorem mayV_head (u : List UInt8 → Bool) (k : Int) (b : Bool) (n : Int) (t : List UInt8) (ks : List (List UInt8)) (l : List V) : mayV u (.mk k b n t ks l) = (headV u (.mk k b n t ks l) && ks.all u && Kav ks && mayVs u l):=by
 rw [mayV,oneV_head];rfl
theorem mayVs_all (u : List UInt8 → Bool) (l : List V) : mayVs u l = l.all (mayV u):=by
 induction l with
 | nil=>rfl
 | cons a r ih=>rw [mayVs,ih];rfl
def KeysOk (l : List (List UInt8)) : Prop:=l.all Lib.validD = true ∧ Kav l = true
structure MayNo (l : List V) : Prop where
 no : l.all (mayV Lib.validD) = false
def ValsOk (l : List V) : Prop:=l.all (mayV Lib.validD) = true
structure KeyU (w : World) (X : Array Value) (bk o1 o2 : Nat) (s1 s2 : List UInt8) (W : World) : Prop where
 box : OneB w W X
 one : W.cell? ⟨bk,o1,none⟩ = some (.string (strB s1))
 two : W.cell? ⟨bk,o2,none⟩ = some (.string (strB s2))
theorem geq_str (s1 s2 : List UInt8) (W : World) : (binOp .geq 9 (.string (strB s1)) (.string (strB s2))).run Tryz.prog W = .ok (.bool (!(ltB s1 s2))) W:=by
 simp [go_sem,Kax,less_eq]
theorem mayR_any : ∀ (v : V) (w : World) (x : Array Value),VRd w v x → Calls Tryz.prog 133 #[.agg x] w fun e w'=>e = .returned (.bool (mayV Lib.validD v)) ∧ Below w.heap.size w w':=by
 refine V.ind fun k b n t ks l ih=>?_
 intro w x hx
 have HBR:=yh (fun (W : World) (hb : Below w.heap.size w W)=>bareR_any (hx.below hb))
 rw [mayV_head,mayVs_all]
 have hT:=OneB.start w x
 obtain ⟨pk,ck,pl,cl,rfl,htx,hk1,hl1⟩:=Kb8.1 hx
 have z1 : (ks.length : Int) ≤ 140737488355328:=by have:=hk1.1;have:=hk1.2.1;omega
 have z2 : (l.length : Int) ≤ 140737488355328:=by have:=hl1.1.2.1;omega
 have hh : headV Lib.validD (.mk k b n t ks l) = (decide (0 ≤ k) && decide (k ≤ 7) && bareV (.mk k b n t ks l) && (!(k == 6 || k == 7) || decide (0 ≤ n)) && Lib.validD t && (!(k == 5) || ks.length == l.length)):=rfl
 have HU:=yh (fun (W : World)=>utfR_any t W htx)
 have HK:=yh (And.intro hk1 (And.intro hl1 ih))
 have HT:=yh hT
 have px0:=Kae (o:=0) hT.1 rfl;have px1:=Kae (o:=1) hT.1 rfl;have px2:=Kae (o:=2) hT.1 rfl;have px3:=Kae (o:=3) hT.1 rfl;have px4:=Kae (o:=4) hT.1 rfl;have px5:=Kae (o:=5) hT.1 rfl
 clear ih hx hk1 hl1 hT htx px0 px1 px2 px3 px4 px5
 generalize bareV (.mk k b n t ks l) = B at *
 generalize Lib.validD t = U at *
 cases hc : headV Lib.validD (.mk k b n t ks l) with
 | false =>
   rw [hc] at hh
   have hh2 : B = true → U = true → (k < 0 ∨ 7 < k ∨ ((k = 6 ∨ k = 7) ∧ n < 0) ∨ (k = 5 ∧ (ks.length : Int) ≠ l.length)):=by
    rintro rfl rfl
    by_cases h : k < 0 ∨ 7 < k ∨ ((k = 6 ∨ k = 7) ∧ n < 0) ∨ (k = 5 ∧ (ks.length : Int) ≠ l.length)
    ·exact h
    ·have : (decide (0 ≤ k) && decide (k ≤ 7) && true && (!(k == 6 || k == 7) || decide (0 ≤ n)) && true && (!(k == 5) || ks.length == l.length)) = true:=by
      simp only [Bool.and_eq_true,decide_eq_true_eq,Bool.or_eq_true,Bool.not_eq_true',Bool.or_eq_false_iff,beq_eq_false_iff_ne,beq_iff_eq]
      exact ⟨⟨⟨⟨⟨by omega,by omega⟩,trivial⟩,by omega⟩,trivial⟩,by omega⟩
     rw [this] at hh
     cases hh
   have HH:=yh hh2
   clear hh hc hh2
   by_cases hlen : (ks.length : Int) = l.length
   all_goals cases B
   all_goals cases U
   all_goals
    go_enter Tryz.func133,Tryz.ntmps133
    go_wp2_with (first
     | (go_at_call 185
        (
          refine (HBR.out _ HT.out.2).mono ?_
          rintro e w1 ⟨rfl,hb⟩
          have hT1:=HT.out.below hb
          have px0:=Kae (o:=0) hT1.1 rfl;have px1:=Kae (o:=1) hT1.1 rfl;have px2:=Kae (o:=2) hT1.1 rfl;have px3:=Kae (o:=3) hT1.1 rfl;have px4:=Kae (o:=4) hT1.1 rfl;have px5:=Kae (o:=5) hT1.1 rfl
          have HT:=yh hT1
          clear hT1 hb))
     | (go_at_call 95;refine (HU.out _).mono ?_;rintro e w' ⟨rfl,rfl⟩))
    all_goals first
     | (go_ret;exact ⟨rfl,HT.out.2⟩)
     | (exfalso;have h:=HH.out (by trivial) (by trivial);omega)
 | true =>
   rw [hc] at hh
   have h1:=hh.symm
   simp only [Bool.and_eq_true,decide_eq_true_eq,Bool.or_eq_true,Bool.not_eq_true',Bool.or_eq_false_iff,beq_eq_false_iff_ne,beq_iff_eq] at h1
   obtain ⟨⟨⟨⟨⟨k0,k7⟩,rfl⟩,h67⟩,rfl⟩,h5⟩:=h1
   clear hh hc
   have hcs : (k = 5 ∧ (ks.length : Int) = l.length) ∨ (k = 6 ∧ 0 ≤ n) ∨ (k = 7 ∧ 0 ≤ n) ∨ (0 ≤ k ∧ k ≤ 4):=by omega
   have g0 : ¬ k < 0:=by omega
   have g7 : ¬ 7 < k:=by omega
   have hfacts : ((k == 5) = true ∧ (k == 6) = false ∧ (k == 7) = false ∧ ((ks.length : Int) != (l.length : Int)) = false) ∨ ((k == 5) = false ∧ (k == 6) = true ∧ (k == 7) = false ∧ ¬ n < 0) ∨ ((k == 5) = false ∧ (k == 6) = false ∧ (k == 7) = true ∧ ¬ n < 0) ∨ ((k == 5) = false ∧ (k == 6) = false ∧ (k == 7) = false ∧ (0 : Int) ≤ 0):=by
    simp only [beq_iff_eq,beq_eq_false_iff_ne,bne_eq_false_iff_eq]
    omega
   clear h67 h5 k0 k7 hcs
   rcases hfacts with ⟨d5,d6,d7,d8⟩ | ⟨d5,d6,d7,d8⟩ | ⟨d5,d6,d7,d8⟩ | ⟨d5,d6,d7,d8⟩
   all_goals
    go_enter Tryz.func133,Tryz.ntmps133
    go_wp2_with (first
     | (go_at_call 185
        (
          refine (HBR.out _ HT.out.2).mono ?_
          rintro e w1 ⟨rfl,hb⟩
          have hT1:=HT.out.below hb
          have px0:=Kae (o:=0) hT1.1 rfl;have px1:=Kae (o:=1) hT1.1 rfl;have px2:=Kae (o:=2) hT1.1 rfl;have px3:=Kae (o:=3) hT1.1 rfl;have px4:=Kae (o:=4) hT1.1 rfl;have px5:=Kae (o:=5) hT1.1 rfl
          have HT:=yh hT1
          clear hT1 hb))
     | (go_at_call 95;refine (HU.out _).mono ?_;rintro e w' ⟨rfl,rfl⟩))
    clear d5 d6 d7 d8 g0 g7 px0 px1 px2 px3 px4 px5
    have HT0:=HT
    go_loopw [3] (fun i W=>∃ j : Nat,j ≤ ks.length ∧ i = .int .i64 (j : Int) ∧ Hid (KeysOk (ks.take j)) ∧ Hid (OneB w W #[.int .i64 k,.bool b,.int .i64 n,.string (strB t),.slice pk ks.length ck,.slice pl l.length cl])) (fun i _=>ks.length - (intOf i).toNat)
    case atStart=>exact ⟨0,Nat.zero_le _,rfl,yh ⟨rfl,rfl⟩,HT0⟩
    case round =>
     clear HT HT0
     obtain ⟨j,hj,rfl,HQ,HT⟩:=hrel
     have hT1:=HT.out
     have px0:=Kae (o:=0) hT1.1 rfl;have px1:=Kae (o:=1) hT1.1 rfl;have px2:=Kae (o:=2) hT1.1 rfl;have px3:=Kae (o:=3) hT1.1 rfl;have px4:=Kae (o:=4) hT1.1 rfl;have px5:=Kae (o:=5) hT1.1 rfl
     by_cases hlt : j < ks.length
     ·have hlt1 : j + 1 ≤ ks.length:=hlt
      obtain ⟨bk,ok,rfl,q0,ql⟩:=(HK.out.1.below hT1.2).get hlt
      have hcu:=fun (W : World)=>utfR_any ks[j] W ql
      have htk : ks.take (j + 1) = ks.take j ++ [ks[j]]:=List.take_succ_eq_append_getElem hlt
      have hall : (ks.take (j + 1)).all Lib.validD = Lib.validD ks[j]:=by rw [htk,List.all_append,HQ.out.1];simp
      have hno : Lib.validD ks[j] = false → ks.all Lib.validD = false:=fun h=>List.all_eq_false.2 ⟨ks[j],List.getElem_mem hlt,by rw [h];simp⟩
      clear hT1 ql
      go_wp2
      cases hv : Lib.validD ks[j] with
      | false =>
        simp only [hv] at hcu
        have hU : KeyU w #[.int .i64 k,.bool b,.int .i64 n,.string (strB t),.slice (some ⟨bk,ok,none⟩) ks.length ck,.slice pl l.length cl] bk (ok + j) (ok + j) ks[j] ks[j] wr.drew:=⟨HT.out.below (Below.refl _ _).drew,q0,q0⟩
        refine Kag (fun W=>KeyU w #[.int .i64 k,.bool b,.int .i64 n,.string (strB t),.slice (some ⟨bk,ok,none⟩) ks.length ck,.slice pl l.length cl] bk (ok + j) (ok + j) ks[j] ks[j] W) (by kernel_rfl) hU (fun hU=>?_)
        refine tk 0 60 (v:=.pointer (some ⟨w.heap.size,4,none⟩)) rfl rfl (fun W hW=>Kab rfl rfl (Ka1 _ _ (by decide) W)) ?_;simp only [zP]
        refine tk 1 61 (v:=.slice (some ⟨bk,ok,none⟩) ks.length ck) rfl rfl (fun W hW=>Kac rfl rfl (Kaf (w:=W) Tryz.underlying26 rfl (Kae hW.box.1 rfl))) ?_;simp only [zP]
        refine tm 2 62 (v:=.int .i64 (j : Int)) rfl rfl rfl ?_;simp only [zP]
        refine tk 3 63 (v:=.pointer (some ⟨bk,ok + j,none⟩)) rfl rfl (fun W hW=>Kai rfl rfl rfl (ia_keys _ _ _ _ _ hlt W)) ?_;simp only [zP]
        refine tk 4 64 (v:=.string (strB ks[j])) rfl rfl (fun W hW=>Kac rfl rfl (Kaf (w:=W) Tryz.underlying9 rfl hW.two)) ?_;simp only [zP]
        refine Kan 5 65 rfl rfl (by kernel_rfl) rfl (Kam [.string (strB ks[j])] rfl rfl Tryz.func95 (by kernel_rfl) (by kernel_rfl)) ?_
        refine (hcu _).mono ?_
        rintro e w' ⟨rfl,rfl⟩
        refine ⟨_,rfl,.inr (by assumption),?_⟩;simp only [zP]
        refine tk 6 66 (v:=.bool true) rfl rfl (fun W hW=>Kap (b:=false) rfl rfl) ?_;simp only [zP]
        refine tm 7 67 (v:=.bool true) rfl rfl rfl ?_;simp only [zP]
        refine tx 8 68 ?_;simp only [zP]
        refine tx 9 69 ?_;simp only [zP]
        refine tx 10 70 ?_;simp only [zP]
        refine tx 11 71 ?_;simp only [zP]
        refine tx 12 72 ?_;simp only [zP]
        refine tx 13 73 ?_;simp only [zP]
        refine tx 14 74 ?_;simp only [zP]
        refine tx 15 75 ?_;simp only [zP]
        refine tx 16 76 ?_;simp only [zP]
        refine tx 17 77 ?_;simp only [zP]
        refine tx 18 78 ?_;simp only [zP]
        refine tx 19 79 ?_;simp only [zP]
        refine tx 20 80 ?_;simp only [zP]
        refine tx 21 81 ?_;simp only [zP]
        refine tx 22 82 ?_;simp only [zP]
        refine tx 23 83 ?_;simp only [zP]
        refine tk 24 84 (v:=.bool true) rfl rfl (fun W hW=>rfl) ?_;simp only [zP]
        refine done (by kernel_rfl) ?_ _
        go_wp2
        go_ret
        exact ⟨Kak (by rw [hno hv];simp),hU.box.2⟩
      | true =>
        simp only [hv] at hcu
        rw [hv] at hall
        by_cases hj0 : j = 0
        ·have hgt : ∀ W : World,(binOp .gtr 3 (.int .i64 (j : Int)) (.int .i64 0)).run Tryz.prog W = .ok (.bool false) W:=by
          intro W;simp [go_sem,hj0]
         have hU : KeyU w #[.int .i64 k,.bool b,.int .i64 n,.string (strB t),.slice (some ⟨bk,ok,none⟩) ks.length ck,.slice pl l.length cl] bk (ok + j) (ok + j) ks[j] ks[j] wr.drew:=⟨HT.out.below (Below.refl _ _).drew,q0,q0⟩
         refine Kag (fun W=>KeyU w #[.int .i64 k,.bool b,.int .i64 n,.string (strB t),.slice (some ⟨bk,ok,none⟩) ks.length ck,.slice pl l.length cl] bk (ok + j) (ok + j) ks[j] ks[j] W) (by kernel_rfl) hU (fun hU=>?_)
         refine tk 0 60 (v:=.pointer (some ⟨w.heap.size,4,none⟩)) rfl rfl (fun W hW=>Kab rfl rfl (Ka1 _ _ (by decide) W)) ?_;simp only [zP]
         refine tk 1 61 (v:=.slice (some ⟨bk,ok,none⟩) ks.length ck) rfl rfl (fun W hW=>Kac rfl rfl (Kaf (w:=W) Tryz.underlying26 rfl (Kae hW.box.1 rfl))) ?_;simp only [zP]
         refine tm 2 62 (v:=.int .i64 (j : Int)) rfl rfl rfl ?_;simp only [zP]
         refine tk 3 63 (v:=.pointer (some ⟨bk,ok + j,none⟩)) rfl rfl (fun W hW=>Kai rfl rfl rfl (ia_keys _ _ _ _ _ hlt W)) ?_;simp only [zP]
         refine tk 4 64 (v:=.string (strB ks[j])) rfl rfl (fun W hW=>Kac rfl rfl (Kaf (w:=W) Tryz.underlying9 rfl hW.two)) ?_;simp only [zP]
         refine Kan 5 65 rfl rfl (by kernel_rfl) rfl (Kam [.string (strB ks[j])] rfl rfl Tryz.func95 (by kernel_rfl) (by kernel_rfl)) ?_
         refine (hcu _).mono ?_
         rintro e w' ⟨rfl,rfl⟩
         refine ⟨_,rfl,.inr (by assumption),?_⟩;simp only [zP]
         refine tk 6 66 (v:=.bool false) rfl rfl (fun W hW=>Kap (b:=true) rfl rfl) ?_;simp only [zP]
         refine tm 7 67 (v:=.bool false) rfl rfl rfl ?_;simp only [zP]
         refine tm 8 68 (v:=.int .i64 (j : Int)) rfl rfl rfl ?_;simp only [zP]
         refine tk 9 69 (v:=.bool false) rfl rfl (fun W hW=>Kal rfl rfl rfl (hgt W)) ?_;simp only [zP]
         refine tm 10 70 (v:=.bool false) rfl rfl rfl ?_;simp only [zP]
         refine tx 11 71 ?_;simp only [zP]
         refine tx 12 72 ?_;simp only [zP]
         refine tx 13 73 ?_;simp only [zP]
         refine tx 14 74 ?_;simp only [zP]
         refine tx 15 75 ?_;simp only [zP]
         refine tx 16 76 ?_;simp only [zP]
         refine tx 17 77 ?_;simp only [zP]
         refine tx 18 78 ?_;simp only [zP]
         refine tx 19 79 ?_;simp only [zP]
         refine tx 20 80 ?_;simp only [zP]
         refine tx 21 81 ?_;simp only [zP]
         refine tx 22 82 ?_;simp only [zP]
         refine tk 23 83 (v:=.bool false) rfl rfl (fun W hW=>rfl) ?_;simp only [zP]
         refine tk 24 84 (v:=.bool false) rfl rfl (fun W hW=>rfl) ?_;simp only [zP]
         refine done (by kernel_rfl) ?_ _
         have hr : Kav (ks.take (j + 1)) = true:=by
          have e : ks.take j = []:=by rw [hj0];rfl
          rw [htk,e];rfl
         have HN:=yh (show KeysOk (ks.take (j + 1)) from And.intro hall hr)
         have HT0:=yh hU.box
         have px4:=Kae (o:=4) hU.box.1 rfl
         clear hU hcu htk hall hno hr q0 HQ
         go_wp2
         go_roundw
         case rel=>exact ⟨j + 1,hlt1,by go_num,HN,HT0⟩
         case measure=>simp [intOf];omega
        ·obtain ⟨m,hm⟩ : ∃ m,j = m + 1:=⟨j - 1,by omega⟩
         have hmn : m < ks.length:=by omega
         obtain ⟨bk',ok',hp',q1,_⟩:=(HK.out.1.below HT.out.2).get hmn
         cases hp'
         have hgt : ∀ W : World,(binOp .gtr 3 (.int .i64 (j : Int)) (.int .i64 0)).run Tryz.prog W = .ok (.bool true) W:=by
          intro W;simp [go_sem];omega
         have hsub : ∀ W : World,(binOp .sub 3 (.int .i64 (j : Int)) (.int .i64 1)).run Tryz.prog W = .ok (.int .i64 (m : Int)) W:=by
          intro W
          have e : IntKind.i64.wrap ((j : Int) - 1) = m:=by simp [IntKind.wrap,IntKind.signed,IntKind.bits];omega
          simp [go_sem,e]
         have hU : KeyU w #[.int .i64 k,.bool b,.int .i64 n,.string (strB t),.slice (some ⟨bk,ok,none⟩) ks.length ck,.slice pl l.length cl] bk (ok + m) (ok + j) ks[m] ks[j] wr.drew:=⟨HT.out.below (Below.refl _ _).drew,q1,q0⟩
         have hrs : Kav (ks.take (j + 1)) = (Kav (ks.take j) && ltB ks[m] ks[j]):=by
          have h1:=Kc8 (l:=ks) (j:=m) (by omega)
          have e3 : ks[m + 1]'(by omega) = ks[j]:=by simp only [hm]
          rw [show ks.take (j + 1) = ks.take (m + 2) by rw [hm],h1,e3,show ks.take (m + 1) = ks.take j by rw [hm]]
         cases hlb : ltB ks[m] ks[j] with
         | false =>
           have hge : ∀ W : World,(binOp .geq 9 (.string (strB ks[m])) (.string (strB ks[j]))).run Tryz.prog W = .ok (.bool true) W:=fun W=>by rw [geq_str,hlb];rfl
           refine Kag (fun W=>KeyU w #[.int .i64 k,.bool b,.int .i64 n,.string (strB t),.slice (some ⟨bk,ok,none⟩) ks.length ck,.slice pl l.length cl] bk (ok + m) (ok + j) ks[m] ks[j] W) (by kernel_rfl) hU (fun hU=>?_)
           refine tk 0 60 (v:=.pointer (some ⟨w.heap.size,4,none⟩)) rfl rfl (fun W hW=>Kab rfl rfl (Ka1 _ _ (by decide) W)) ?_;simp only [zP]
           refine tk 1 61 (v:=.slice (some ⟨bk,ok,none⟩) ks.length ck) rfl rfl (fun W hW=>Kac rfl rfl (Kaf (w:=W) Tryz.underlying26 rfl (Kae hW.box.1 rfl))) ?_;simp only [zP]
           refine tm 2 62 (v:=.int .i64 (j : Int)) rfl rfl rfl ?_;simp only [zP]
           refine tk 3 63 (v:=.pointer (some ⟨bk,ok + j,none⟩)) rfl rfl (fun W hW=>Kai rfl rfl rfl (ia_keys _ _ _ _ _ hlt W)) ?_;simp only [zP]
           refine tk 4 64 (v:=.string (strB ks[j])) rfl rfl (fun W hW=>Kac rfl rfl (Kaf (w:=W) Tryz.underlying9 rfl hW.two)) ?_;simp only [zP]
           refine Kan 5 65 rfl rfl (by kernel_rfl) rfl (Kam [.string (strB ks[j])] rfl rfl Tryz.func95 (by kernel_rfl) (by kernel_rfl)) ?_
           refine (hcu _).mono ?_
           rintro e w' ⟨rfl,rfl⟩
           refine ⟨_,rfl,.inr (by assumption),?_⟩;simp only [zP]
           refine tk 6 66 (v:=.bool false) rfl rfl (fun W hW=>Kap (b:=true) rfl rfl) ?_;simp only [zP]
           refine tm 7 67 (v:=.bool false) rfl rfl rfl ?_;simp only [zP]
           refine tm 8 68 (v:=.int .i64 (j : Int)) rfl rfl rfl ?_;simp only [zP]
           refine tk 9 69 (v:=.bool true) rfl rfl (fun W hW=>Kal rfl rfl rfl (hgt W)) ?_;simp only [zP]
           refine tm 10 70 (v:=.bool true) rfl rfl rfl ?_;simp only [zP]
           refine tk 11 71 (v:=.pointer (some ⟨w.heap.size,4,none⟩)) rfl rfl (fun W hW=>Kab rfl rfl (Ka1 _ _ (by decide) W)) ?_;simp only [zP]
           refine tk 12 72 (v:=.slice (some ⟨bk,ok,none⟩) ks.length ck) rfl rfl (fun W hW=>Kac rfl rfl (Kaf (w:=W) Tryz.underlying26 rfl (Kae hW.box.1 rfl))) ?_;simp only [zP]
           refine tm 13 73 (v:=.int .i64 (j : Int)) rfl rfl rfl ?_;simp only [zP]
           refine tk 14 74 (v:=.int .i64 (m : Int)) rfl rfl (fun W hW=>Kal rfl rfl rfl (hsub W)) ?_;simp only [zP]
           refine tk 15 75 (v:=.pointer (some ⟨bk,ok + m,none⟩)) rfl rfl (fun W hW=>Kai rfl rfl rfl (ia_keys _ _ _ _ _ hmn W)) ?_;simp only [zP]
           refine tk 16 76 (v:=.string (strB ks[m])) rfl rfl (fun W hW=>Kac rfl rfl (Kaf (w:=W) Tryz.underlying9 rfl hW.one)) ?_;simp only [zP]
           refine tk 17 77 (v:=.pointer (some ⟨w.heap.size,4,none⟩)) rfl rfl (fun W hW=>Kab rfl rfl (Ka1 _ _ (by decide) W)) ?_;simp only [zP]
           refine tk 18 78 (v:=.slice (some ⟨bk,ok,none⟩) ks.length ck) rfl rfl (fun W hW=>Kac rfl rfl (Kaf (w:=W) Tryz.underlying26 rfl (Kae hW.box.1 rfl))) ?_;simp only [zP]
           refine tm 19 79 (v:=.int .i64 (j : Int)) rfl rfl rfl ?_;simp only [zP]
           refine tk 20 80 (v:=.pointer (some ⟨bk,ok + j,none⟩)) rfl rfl (fun W hW=>Kai rfl rfl rfl (ia_keys _ _ _ _ _ hlt W)) ?_;simp only [zP]
           refine tk 21 81 (v:=.string (strB ks[j])) rfl rfl (fun W hW=>Kac rfl rfl (Kaf (w:=W) Tryz.underlying9 rfl hW.two)) ?_;simp only [zP]
           refine tk 22 82 (v:=.bool true) rfl rfl (fun W hW=>Kcg rfl rfl rfl (hge W)) ?_;simp only [zP]
           refine tk 23 83 (v:=.bool true) rfl rfl (fun W hW=>rfl) ?_;simp only [zP]
           refine tk 24 84 (v:=.bool true) rfl rfl (fun W hW=>rfl) ?_;simp only [zP]
           refine done (by kernel_rfl) ?_ _
           have hrf : Kav ks = false:=by
            cases hrb : Kav ks with
            | false=>rfl
            | true =>
              have:=Keo hrb (j + 1) hlt1
              rw [hrs,hlb] at this
              simp at this
           go_wp2
           go_ret
           exact ⟨Kak (by rw [hrf];simp),hU.box.2⟩
         | true =>
           have hge : ∀ W : World,(binOp .geq 9 (.string (strB ks[m])) (.string (strB ks[j]))).run Tryz.prog W = .ok (.bool false) W:=fun W=>by rw [geq_str,hlb];rfl
           refine Kag (fun W=>KeyU w #[.int .i64 k,.bool b,.int .i64 n,.string (strB t),.slice (some ⟨bk,ok,none⟩) ks.length ck,.slice pl l.length cl] bk (ok + m) (ok + j) ks[m] ks[j] W) (by kernel_rfl) hU (fun hU=>?_)
           refine tk 0 60 (v:=.pointer (some ⟨w.heap.size,4,none⟩)) rfl rfl (fun W hW=>Kab rfl rfl (Ka1 _ _ (by decide) W)) ?_;simp only [zP]
           refine tk 1 61 (v:=.slice (some ⟨bk,ok,none⟩) ks.length ck) rfl rfl (fun W hW=>Kac rfl rfl (Kaf (w:=W) Tryz.underlying26 rfl (Kae hW.box.1 rfl))) ?_;simp only [zP]
           refine tm 2 62 (v:=.int .i64 (j : Int)) rfl rfl rfl ?_;simp only [zP]
           refine tk 3 63 (v:=.pointer (some ⟨bk,ok + j,none⟩)) rfl rfl (fun W hW=>Kai rfl rfl rfl (ia_keys _ _ _ _ _ hlt W)) ?_;simp only [zP]
           refine tk 4 64 (v:=.string (strB ks[j])) rfl rfl (fun W hW=>Kac rfl rfl (Kaf (w:=W) Tryz.underlying9 rfl hW.two)) ?_;simp only [zP]
           refine Kan 5 65 rfl rfl (by kernel_rfl) rfl (Kam [.string (strB ks[j])] rfl rfl Tryz.func95 (by kernel_rfl) (by kernel_rfl)) ?_
           refine (hcu _).mono ?_
           rintro e w' ⟨rfl,rfl⟩
           refine ⟨_,rfl,.inr (by assumption),?_⟩;simp only [zP]
           refine tk 6 66 (v:=.bool false) rfl rfl (fun W hW=>Kap (b:=true) rfl rfl) ?_;simp only [zP]
           refine tm 7 67 (v:=.bool false) rfl rfl rfl ?_;simp only [zP]
           refine tm 8 68 (v:=.int .i64 (j : Int)) rfl rfl rfl ?_;simp only [zP]
           refine tk 9 69 (v:=.bool true) rfl rfl (fun W hW=>Kal rfl rfl rfl (hgt W)) ?_;simp only [zP]
           refine tm 10 70 (v:=.bool true) rfl rfl rfl ?_;simp only [zP]
           refine tk 11 71 (v:=.pointer (some ⟨w.heap.size,4,none⟩)) rfl rfl (fun W hW=>Kab rfl rfl (Ka1 _ _ (by decide) W)) ?_;simp only [zP]
           refine tk 12 72 (v:=.slice (some ⟨bk,ok,none⟩) ks.length ck) rfl rfl (fun W hW=>Kac rfl rfl (Kaf (w:=W) Tryz.underlying26 rfl (Kae hW.box.1 rfl))) ?_;simp only [zP]
           refine tm 13 73 (v:=.int .i64 (j : Int)) rfl rfl rfl ?_;simp only [zP]
           refine tk 14 74 (v:=.int .i64 (m : Int)) rfl rfl (fun W hW=>Kal rfl rfl rfl (hsub W)) ?_;simp only [zP]
           refine tk 15 75 (v:=.pointer (some ⟨bk,ok + m,none⟩)) rfl rfl (fun W hW=>Kai rfl rfl rfl (ia_keys _ _ _ _ _ hmn W)) ?_;simp only [zP]
           refine tk 16 76 (v:=.string (strB ks[m])) rfl rfl (fun W hW=>Kac rfl rfl (Kaf (w:=W) Tryz.underlying9 rfl hW.one)) ?_;simp only [zP]
           refine tk 17 77 (v:=.pointer (some ⟨w.heap.size,4,none⟩)) rfl rfl (fun W hW=>Kab rfl rfl (Ka1 _ _ (by decide) W)) ?_;simp only [zP]
           refine tk 18 78 (v:=.slice (some ⟨bk,ok,none⟩) ks.length ck) rfl rfl (fun W hW=>Kac rfl rfl (Kaf (w:=W) Tryz.underlying26 rfl (Kae hW.box.1 rfl))) ?_;simp only [zP]
           refine tm 19 79 (v:=.int .i64 (j : Int)) rfl rfl rfl ?_;simp only [zP]
           refine tk 20 80 (v:=.pointer (some ⟨bk,ok + j,none⟩)) rfl rfl (fun W hW=>Kai rfl rfl rfl (ia_keys _ _ _ _ _ hlt W)) ?_;simp only [zP]
           refine tk 21 81 (v:=.string (strB ks[j])) rfl rfl (fun W hW=>Kac rfl rfl (Kaf (w:=W) Tryz.underlying9 rfl hW.two)) ?_;simp only [zP]
           refine tk 22 82 (v:=.bool false) rfl rfl (fun W hW=>Kcg rfl rfl rfl (hge W)) ?_;simp only [zP]
           refine tk 23 83 (v:=.bool false) rfl rfl (fun W hW=>rfl) ?_;simp only [zP]
           refine tk 24 84 (v:=.bool false) rfl rfl (fun W hW=>rfl) ?_;simp only [zP]
           refine done (by kernel_rfl) ?_ _
           have hr : Kav (ks.take (j + 1)) = true:=by rw [hrs,hlb,HQ.out.2];rfl
           have HN:=yh (show KeysOk (ks.take (j + 1)) from And.intro hall hr)
           have HT0:=yh hU.box
           have px4:=Kae (o:=4) hU.box.1 rfl
           clear hU hcu htk hall hno hr q0 q1 HQ hrs hm hsub hgt hge
           go_wp2
           go_roundw
           case rel=>exact ⟨j + 1,hlt1,by go_num,HN,HT0⟩
           case measure=>simp [intOf];omega
     ·obtain rfl : j = ks.length:=by omega
      have hR:=HQ.out
      rw [List.take_length] at hR
      have HR:=yh hR
      have HT0:=HT
      clear hT1 hR HQ
      go_wp2
      go_loopw [4] (fun i W=>∃ j : Nat,j ≤ l.length ∧ i = .int .i64 (j : Int) ∧ Hid (ValsOk (l.take j)) ∧ Hid (OneB w W #[.int .i64 k,.bool b,.int .i64 n,.string (strB t),.slice pk ks.length ck,.slice pl l.length cl])) (fun i _=>l.length - (intOf i).toNat)
      case atStart=>exact ⟨0,Nat.zero_le _,rfl,yh rfl,HT0⟩
      case round =>
       clear HT HT0 px0 px1 px2 px3 px4 px5
       obtain ⟨j,hj,rfl,HQ,HT⟩:=hrel
       have hT1:=HT.out
       have px0:=Kae (o:=0) hT1.1 rfl;have px1:=Kae (o:=1) hT1.1 rfl;have px2:=Kae (o:=2) hT1.1 rfl;have px3:=Kae (o:=3) hT1.1 rfl;have px4:=Kae (o:=4) hT1.1 rfl;have px5:=Kae (o:=5) hT1.1 rfl
       by_cases hlt : j < l.length
       ·have hlt1 : j + 1 ≤ l.length:=hlt
        obtain ⟨g1,o1,pk1,ck1,pl1,cl1,rfl,⟨a0,a1,a2,a3,a4,a5⟩,hv1⟩:=(HK.out.2.1.below hT1.2).at hlt
        have hcall:=HK.out.2.2 l[j] (List.getElem_mem hlt) _ _ hv1
        have htk : (l.take (j + 1)).all (mayV Lib.validD) = mayV Lib.validD l[j]:=by
         have hq : (l.take j).all (mayV Lib.validD) = true:=HQ.out
         rw [List.take_succ_eq_append_getElem hlt,List.all_append,hq];simp
        have hno : mayV Lib.validD l[j] = false → l.all (mayV Lib.validD) = false:=fun h=>List.all_eq_false.2 ⟨l[j],List.getElem_mem hlt,by rw [h];simp⟩
        generalize mayV Lib.validD l[j] = on at *
        generalize l[j] = s1 at *
        have hok : on = true → ValsOk (l.take (j + 1)):=fun h=>htk.trans h
        have hnok : on = false → l.all (mayV Lib.validD) = false:=hno
        cases on with
        | true =>
          have hv:=hok rfl
          have HD:=yh (And.intro hcall (And.intro hv hT1))
          clear hcall htk hno hv1 hT1 hok hnok hv
          go_wp2_with (go_at_call 133
                       (
                         refine HD.out.1.mono ?_
                         rintro e w3 ⟨rfl,hb3⟩
                         have HG:=yh (HD.out.2.2.below hb3)
                         clear hb3))
          go_roundw
          case rel=>exact ⟨j + 1,hlt1,by go_num,yh HD.out.2.1,HG⟩
          case measure=>simp [intOf];omega
        | false =>
          have hv:=MayNo.mk (hnok rfl)
          have HD:=yh (And.intro hcall (And.intro hv hT1))
          clear hcall htk hno hv1 hT1 hok hnok hv
          go_wp2_with (go_at_call 133
                       (
                         refine HD.out.1.mono ?_
                         rintro e w3 ⟨rfl,hb3⟩
                         have HG:=yh (HD.out.2.2.below hb3)
                         clear hb3))
          go_ret
          exact ⟨Kak (by rw [HD.out.2.1.no];simp),HG.out.2⟩
       ·obtain rfl : j = l.length:=by omega
        have hQ:=HQ.out
        rw [List.take_length] at hQ
        have HQ2:=yh hQ
        clear hT1 hQ
        go_wp2
        go_ret
        exact ⟨Kak (by rw [HR.out.1,HR.out.2,HQ2.out];rfl),HT.out.2⟩
theorem countV_mk (k : Int) (b : Bool) (n : Int) (t : List UInt8) (ks : List (List UInt8)) (l : List V) : countV (.mk k b n t ks l) = 1 + Kb2 l:=by rw [countV]
theorem deepV_mk (k : Int) (b : Bool) (n : Int) (t : List UInt8) (ks : List (List UInt8)) (l : List V) : deepV (.mk k b n t ks l) = Kb1 l + 1:=by rw [deepV]
theorem bytesV_mk (k : Int) (b : Bool) (n : Int) (t : List UInt8) (ks : List (List UInt8)) (l : List V) : Kc1 (.mk k b n t ks l) = t.length + (ks.map List.length).sum + Kbm l:=by rw [Kc1]
theorem longV_mk (k : Int) (b : Bool) (n : Int) (t : List UInt8) (ks : List (List UInt8)) (l : List V) : longV (.mk k b n t ks l) = max l.length (Kcc l):=by rw [longV]
theorem countVs_snoc (l : List V) (v : V) : Kb2 (l ++ [v]) = Kb2 l + countV v:=by
 induction l with
 | nil=>simp [Kb2]
 | cons a r ih=>simp only [List.cons_append,Kb2,ih];omega
theorem deepVs_snoc (l : List V) (v : V) : Kb1 (l ++ [v]) = max (Kb1 l) (deepV v):=by
 induction l with
 | nil=>simp [Kb1]
 | cons a r ih=>simp only [List.cons_append,Kb1,ih];omega
theorem bytesVs_snoc (l : List V) (v : V) : Kbm (l ++ [v]) = Kbm l + Kc1 v:=by
 induction l with
 | nil=>simp [Kbm]
 | cons a r ih=>simp only [List.cons_append,Kbm,ih];omega
theorem longVs_snoc (l : List V) (v : V) : Kcc (l ++ [v]) = max (Kcc l) (longV v):=by
 induction l with
 | nil=>simp [Kcc]
 | cons a r ih=>simp only [List.cons_append,Kcc,ih];omega
theorem sizes_tot : ∀ v : V,countV v ≤ totV v ∧ deepV v ≤ totV v ∧ Kc1 v ≤ totV v ∧ longV v ≤ totV v:=by
 refine V.ind fun k b n t ks l ih=>?_
 have hl : Kb2 l ≤ totVs l ∧ Kb1 l ≤ totVs l ∧ Kbm l ≤ totVs l ∧ Kcc l ≤ totVs l:=by
  induction l with
  | nil=>simp [Kb2,Kb1,Kbm,Kcc]
  | cons a r ihr =>
    have h1:=ih a (by simp)
    have h2:=ihr fun v hv=>ih v (by simp [hv])
    simp only [Kb2,Kb1,Kbm,Kcc,totVs]
    omega
 have hn:=Kdz l
 rw [countV_mk,deepV_mk,bytesV_mk,longV_mk,Ker]
 omega
theorem exec_lenB {a : Act} {w : World} {o : Oper} {x : Operand} {l : List UInt8} (ho : o.op = .call { callee:=.builtin .len,args:=#[x],argTypes:=#[9] }) (hx : a.eval x = .string (strB l)) : (execOp a.eval o).run Tryz.prog w = .ok (.value (.int .i64 (l.length : Int))) w:=by
 have e : (strB l).size = l.length:=rfl
 unfold execOp;simp only [ho,resolve,invoke,Sem.run_bind,Sem.run_pure,Result.andThen_ok,List.map_toArray,List.map_cons,List.map_nil,hx];simp [go_sem,e]
theorem keysum_take (ks : List (List UInt8)) (j : Nat) : ((ks.take j).map List.length).sum ≤ (ks.map List.length).sum:=by
 have e : ks.take j ++ ks.drop j = ks:=List.take_append_drop _ _
 have h:=congrArg (fun l=>(l.map List.length).sum) e
 simp only [List.map_append,List.sum_append] at h
 omega
theorem totVs_take (l : List V) (j : Nat) : totVs (l.take j) ≤ totVs l:=by
 have e : l.take j ++ l.drop j = l:=List.take_append_drop _ _
 have:=congrArg totVs e
 rw [totVs_append] at this
 omega
theorem sizes_tots (l : List V) : Kb2 l ≤ totVs l ∧ Kb1 l ≤ totVs l ∧ Kbm l ≤ totVs l ∧ Kcc l ≤ totVs l:=by
 induction l with
 | nil=>simp [Kb2,Kb1,Kbm,Kcc]
 | cons a r ihr =>
   have h1:=sizes_tot a
   simp only [Kb2,Kb1,Kbm,Kcc,totVs]
   omega
structure SixU (w : World) (X : Array Value) (bl o : Nat) (c0 c1 c2 c3 c4 c5 : Value) (W : World) : Prop where
 box : OneB w W X
 h0 : W.cell? ⟨bl,o,none⟩ = some c0
 h1 : W.cell? ⟨bl,o + 1,none⟩ = some c1
 h2 : W.cell? ⟨bl,o + 2,none⟩ = some c2
 h3 : W.cell? ⟨bl,o + 3,none⟩ = some c3
 h4 : W.cell? ⟨bl,o + 4,none⟩ = some c4
 h5 : W.cell? ⟨bl,o + 5,none⟩ = some c5
theorem SixU.keep {w W W' : World} {X : Array Value} {bl o : Nat} {c0 c1 c2 c3 c4 c5 : Value} (h : SixU w X bl o c0 c1 c2 c3 c4 c5 W) (b : Below W.heap.size W W') : SixU w X bl o c0 c1 c2 c3 c4 c5 W' :=
 ⟨h.box.below b,Kad b (ltOf h.h0) h.h0,Kad b (ltOf h.h1) h.h1,Kad b (ltOf h.h2) h.h2,Kad b (ltOf h.h3) h.h3,Kad b (ltOf h.h4) h.h4,Kad b (ltOf h.h5) h.h5⟩
theorem sizeR_any : ∀ (v : V) (w : World) (x : Array Value),totV v ≤ 1099511627776 → VRd w v x →
 Calls Tryz.prog 32 #[.agg x] w fun e w'=>e = .returned (.tuple #[.int .i64 (countV v : Int),.int .i64 (deepV v : Int),.int .i64 (Kc1 v : Int),.int .i64 (longV v : Int)]) ∧ Below w.heap.size w w':=by
 refine V.ind fun k b n t ks l ih=>?_
 intro w x htot hx
 rw [Ker] at htot
 have hT:=OneB.start w x
 obtain ⟨pk,ck,pl,cl,rfl,htx,hk1,hl1⟩:=Kb8.1 hx
 have z1 : (ks.length : Int) ≤ 140737488355328:=by have:=hk1.1;have:=hk1.2.1;omega
 have z2 : (l.length : Int) ≤ 140737488355328:=by have:=hl1.1.2.1;omega
 have HK:=yh (And.intro hk1 (And.intro hl1 (And.intro ih htot)))
 rw [countV_mk,deepV_mk,bytesV_mk,longV_mk]
 have hb0 : Kc1 (.mk 0 false 0 t [] []) = t.length:=by rw [bytesV_mk];simp [Kbm]
 have hT0 : OneB w (w.alloc (.cells #[.int .i64 k,.bool b,.int .i64 n,.string (strB t),.slice pk ks.length ck,.slice pl l.length cl] 31)).drew #[.int .i64 k,.bool b,.int .i64 n,.string (strB t),.slice pk ks.length ck,.slice pl l.length cl]:=hT.below (Below.refl _ _).drew
 clear ih hx hk1 hl1 hT htx htot hb0
 go_enter Tryz.func32,Tryz.ntmps32
 go_wp2
 refine Kag (fun W=>OneB w W #[.int .i64 k,.bool b,.int .i64 n,.string (strB t),.slice pk ks.length ck,.slice pl l.length cl]) (by kernel_rfl) hT0 (fun hU=>?_)
 refine tk 0 16 (v:=.pointer (some ⟨w.heap.size,3,none⟩)) rfl rfl (fun W hW=>Kab rfl rfl (Ka1 _ _ (by decide) W)) ?_;simp only [zP]
 refine tk 1 17 (v:=.string (strB t)) rfl rfl (fun W hW=>Kac rfl rfl (Kaf (w:=W) Tryz.underlying9 rfl (Kae hW.1 rfl))) ?_;simp only [zP]
 refine tk 2 18 (v:=.int .i64 (t.length : Int)) rfl rfl (fun W hW=>exec_lenB rfl rfl) ?_;simp only [zP]
 refine tk 3 19 (v:=.pointer (some ⟨w.heap.size,5,none⟩)) rfl rfl (fun W hW=>Kab rfl rfl (Ka1 _ _ (by decide) W)) ?_;simp only [zP]
 refine tk 4 20 (v:=.slice pl l.length cl) rfl rfl (fun W hW=>Kac rfl rfl (Kaf (w:=W) Tryz.underlying29 rfl (Kae hW.1 rfl))) ?_;simp only [zP]
 refine tk 5 21 (v:=.int .i64 (l.length : Int)) rfl rfl (fun W hW=>exec_lenV rfl rfl) ?_;simp only [zP]
 refine tk 6 6 (v:=.int .i64 1) rfl rfl (fun W hW=>Kaw rfl rfl) ?_;simp only [zP]
 refine tk 7 7 (v:=.int .i64 0) rfl rfl (fun W hW=>Kaw rfl rfl) ?_;simp only [zP]
 refine tk 8 8 (v:=.int .i64 (t.length : Int)) rfl rfl (fun W hW=>Kaw rfl rfl) ?_;simp only [zP]
 refine tk 9 9 (v:=.int .i64 (l.length : Int)) rfl rfl (fun W hW=>Kaw rfl rfl) ?_;simp only [zP]
 refine done (by kernel_rfl) ?_ _
 have HT0:=yh hU
 clear hU hT0
 go_wp2
 go_loopw [8,10] (fun y i W=>∃ j : Nat,j ≤ ks.length ∧ i = .int .i64 (j : Int) ∧ y = .int .i64 ((t.length + ((ks.take j).map List.length).sum : Nat) : Int) ∧ Hid (OneB w W #[.int .i64 k,.bool b,.int .i64 n,.string (strB t),.slice pk ks.length ck,.slice pl l.length cl])) (fun _ i _=>ks.length - (intOf i).toNat)
 case atStart=>exact ⟨0,Nat.zero_le _,rfl,by simp,HT0⟩
 case round =>
  clear HT0
  obtain ⟨j,hj,rfl,rfl,HT⟩:=hrel
  have hT1:=HT.out
  have px0:=Kae (o:=0) hT1.1 rfl;have px1:=Kae (o:=1) hT1.1 rfl;have px2:=Kae (o:=2) hT1.1 rfl;have px3:=Kae (o:=3) hT1.1 rfl;have px4:=Kae (o:=4) hT1.1 rfl;have px5:=Kae (o:=5) hT1.1 rfl
  have hsl:=keysum_take ks j
  by_cases hlt : j < ks.length
  ·have hlt1 : j + 1 ≤ ks.length:=hlt
   obtain ⟨bk,ok,rfl,q0,ql⟩:=(HK.out.1.below hT1.2).get hlt
   have hsum : t.length + ((ks.take (j + 1)).map List.length).sum = t.length + ((ks.take j).map List.length).sum + ks[j].length:=by
    rw [List.take_succ_eq_append_getElem hlt,List.map_append,List.sum_append];simp;omega
   have hsl2:=keysum_take ks (j + 1)
   have z5 : ((t.length + ((ks.take j).map List.length).sum : Nat) : Int) + (ks[j].length : Int) ≤ 1099511627776:=by have:=HK.out.2.2.2;omega
   have zs2 : (strB ks[j]).size = ks[j].length:=rfl
   have HS:=yh hsum
   generalize t.length + ((ks.take j).map List.length).sum = S at *
   clear hsl hsl2 hsum hT1
   go_wp2
   go_roundw
   case rel=>exact ⟨j + 1,hlt1,by go_num,by rw [HS.out];go_num,HT⟩
   case measure=>simp [intOf];omega
  ·obtain rfl : j = ks.length:=by omega
   rw [List.take_length]
   have zb : t.length + (ks.map List.length).sum + totVs l ≤ 1099511627776:=by have:=HK.out.2.2.2;omega
   have HZB:=yh zb
   generalize hY : t.length + (ks.map List.length).sum = Y at *
   have HY:=yh hY
   have HT0:=HT
   clear hsl hT1 hY zb
   go_wp2
   go_loopw [6,7,8,9,11] (fun c d y g i W=>∃ j : Nat,j ≤ l.length ∧ i = .int .i64 (j : Int) ∧ c = .int .i64 ((1 + Kb2 (l.take j) : Nat) : Int) ∧ d = .int .i64 ((Kb1 (l.take j) : Nat) : Int) ∧ y = .int .i64 ((Y + Kbm (l.take j) : Nat) : Int) ∧ g = .int .i64 ((max l.length (Kcc (l.take j)) : Nat) : Int) ∧ Hid (OneB w W #[.int .i64 k,.bool b,.int .i64 n,.string (strB t),.slice pk ks.length ck,.slice pl l.length cl])) (fun _ _ _ _ i _=>l.length - (intOf i).toNat)
   case atStart=>exact ⟨0,Nat.zero_le _,rfl,by simp [Kb2],by simp [Kb1],by simp [Kbm],by simp [Kcc],HT0⟩
   case round =>
    clear HT0 HT
    obtain ⟨j,hj,rfl,rfl,rfl,rfl,rfl,HT⟩:=hrel
    have hT1:=HT.out
    clear px0 px1 px2 px3 px4 px5
    have px0:=Kae (o:=0) hT1.1 rfl;have px1:=Kae (o:=1) hT1.1 rfl;have px2:=Kae (o:=2) hT1.1 rfl;have px3:=Kae (o:=3) hT1.1 rfl;have px4:=Kae (o:=4) hT1.1 rfl;have px5:=Kae (o:=5) hT1.1 rfl
    have hs0:=sizes_tots (l.take j)
    have htl:=totVs_take l j
    by_cases hlt : j < l.length
    ·have hlt1 : j + 1 ≤ l.length:=hlt
     obtain ⟨g1,o1,pk1,ck1,pl1,cl1,rfl,⟨a0,a1,a2,a3,a4,a5⟩,hv1⟩:=(HK.out.2.1.below hT1.2).at hlt
     have htl2:=totVs_take l (j + 1)
     have hss:=sizes_tot l[j]
     have htk : l.take (j + 1) = l.take j ++ [l[j]]:=List.take_succ_eq_append_getElem hlt
     rw [htk,totVs_append] at htl2
     have htv : totVs [l[j]] = totV l[j]:=by simp [totVs]
     have hcall:=HK.out.2.2.1 l[j] (List.getElem_mem hlt)
     have hn1 : Kb2 (l.take (j + 1)) = Kb2 (l.take j) + countV l[j]:=by rw [htk,countVs_snoc]
     have hn2 : Kb1 (l.take (j + 1)) = max (Kb1 (l.take j)) (deepV l[j]):=by rw [htk,deepVs_snoc]
     have hn3 : Kbm (l.take (j + 1)) = Kbm (l.take j) + Kc1 l[j]:=by rw [htk,bytesVs_snoc]
     have hn4 : Kcc (l.take (j + 1)) = max (Kcc (l.take j)) (longV l[j]):=by rw [htk,longVs_snoc]
     have hzb:=HZB.out
     have hq1 : 1 + Kb2 (l.take j) + countV l[j] ≤ 4398046511104:=by omega
     have hq2 : Y + Kbm (l.take j) + Kc1 l[j] ≤ 4398046511104:=by omega
     have HN:=yh (And.intro hn1 (And.intro hn2 (And.intro hn3 hn4)))
     have hcv : totV l[j] ≤ 1099511627776:=by omega
     generalize l[j] = s1 at *
     generalize Kb2 (l.take j) = C at *
     generalize Kb1 (l.take j) = D at *
     generalize Kbm (l.take j) = B at *
     generalize Kcc (l.take j) = G at *
     have hcl:=hcall wr _ hcv hv1
     have HD:=yh (And.intro hcl hT1)
     clear hn1 hn2 hn3 hn4 hss htl htl2 htv hs0 hzb hcall hv1 hT1 htk hcl
     go_wp2_with (go_at_call 32
                  (
                    refine HD.out.1.mono ?_
                    rintro e w5 ⟨rfl,hb5⟩
                    have hT5:=HD.out.2.below hb5
                    have HT5:=yh hT5
                    clear hb5 hT5))
     go_roundw
     case rel=>exact ⟨j + 1,hlt1,by go_num,by rw [HN.out.1];congr 1;omega,by rw [HN.out.2.1];congr 1;omega,by rw [HN.out.2.2.1];congr 1;omega,by rw [HN.out.2.2.2];congr 1;omega,HT5⟩
     case measure=>simp [intOf];omega
    ·obtain rfl : j = l.length:=by omega
     rw [List.take_length] at *
     have HF:=yh hT1.2
     have hzb:=HZB.out
     have hd1 : Kb1 l + 1 ≤ 4398046511104:=by omega
     clear hs0 htl hT1 hzb
     go_wp2
     refine bodyPost_ret (v:=.tuple #[.int .i64 ((1 + Kb2 l : Nat) : Int),.int .i64 ((Kb1 l + 1 : Nat) : Int),.int .i64 ((Y + Kbm l : Nat) : Int),.int .i64 ((max l.length (Kcc l) : Nat) : Int)]) (by simp [results,Tryz.results32,go_sem]) rfl ⟨by rw [HY.out],HF.out⟩
theorem checkR_any {v : V} {w : World} {x : Array Value} (htot : totV v ≤ 1099511627776) (hx : VRd w v x) : Calls Tryz.prog 83 #[.agg x] w fun e w'=>e = .returned (.int .i64 (Kcv Lib.validD v)) ∧ Below w.heap.size w w':=by
 have hT:=OneB.start w x
 have hmay:=mayR_any v _ _ (hx.below hT.2)
 have hsz:=fun (W : World) (hb : Below w.heap.size w W)=>sizeR_any v W x htot (hx.below hb)
 have hst:=sizes_tot v
 obtain ⟨pk,ck,pl,cl,rfl,_⟩:=hx.open
 have HM:=yh hmay
 have HS:=yh hsz
 have HT:=yh hT
 have hc : Kcv Lib.validD v = if mayV Lib.validD v then (if 64 < deepV v || 1048576 < Kc1 v || 65536 < longV v then 3 else 0) else 110:=rfl
 have z1 : ((deepV v : Nat) : Int) ≤ 1099511627776:=by omega
 have z2 : ((Kc1 v : Nat) : Int) ≤ 1099511627776:=by omega
 have z3 : ((longV v : Nat) : Int) ≤ 1099511627776:=by omega
 have HC:=yh hc
 clear hmay hsz hT hx hst htot hc
 generalize Kcv Lib.validD v = R at *
 generalize mayV Lib.validD v = M at *
 generalize deepV v = D at *
 generalize Kc1 v = B at *
 generalize longV v = G at *
 cases M with
 | false =>
   have hR:=HC.out
   have HR:=yh hR
   clear hR
   go_enter Tryz.func83,Tryz.ntmps83
   go_wp2_with (go_at_call 133
                (
                  refine HM.out.mono ?_
                  rintro e w1 ⟨rfl,hb⟩
                  have HT1:=yh (HT.out.below hb)
                  clear hb))
   go_ret
   exact ⟨Ka6 HR.out.symm,HT1.out.2⟩
 | true =>
   go_enter Tryz.func83,Tryz.ntmps83
   go_wp2_with (first
    | (go_at_call 133
       (
         refine HM.out.mono ?_
         rintro e w1 ⟨rfl,hb⟩
         have HT1:=yh (HT.out.below hb)
         have HL1:=yh (get_val HT1.out.1)
         clear hb))
    | (refine Kcp rfl _ _ _ rfl rfl HL1.out ?_)
    | (go_at_call 32
       (
         refine (HS.out _ HT1.out.2).mono ?_
         rintro e w2 ⟨rfl,hb⟩
         have HB:=yh (Kaa HT1.out.2 hb)
         clear hb)))
   all_goals
    go_ret
    refine ⟨Ka6 ?_,HB.out⟩
    have h:=HC.out
    rw [if_pos trivial] at h
    rw [h]
    (repeat' split) <;> first | rfl | (simp only [Bool.or_eq_true,decide_eq_true_eq] at * <;> omega)
structure PairU (w : World) (s1 s2 : V) (g1 o1 g2 o2 : Nat) (c0 c1 c2 c3 c4 c5 d0 d1 d2 d3 d4 d5 : Value) (W : World) : Prop where
 b : Below w.heap.size w W
 h0 : W.cell? ⟨g1,o1,none⟩ = some c0
 h1 : W.cell? ⟨g1,o1 + 1,none⟩ = some c1
 h2 : W.cell? ⟨g1,o1 + 2,none⟩ = some c2
 h3 : W.cell? ⟨g1,o1 + 3,none⟩ = some c3
 h4 : W.cell? ⟨g1,o1 + 4,none⟩ = some c4
 h5 : W.cell? ⟨g1,o1 + 5,none⟩ = some c5
 q0 : W.cell? ⟨g2,o2,none⟩ = some d0
 q1 : W.cell? ⟨g2,o2 + 1,none⟩ = some d1
 q2 : W.cell? ⟨g2,o2 + 2,none⟩ = some d2
 q3 : W.cell? ⟨g2,o2 + 3,none⟩ = some d3
 q4 : W.cell? ⟨g2,o2 + 4,none⟩ = some d4
 q5 : W.cell? ⟨g2,o2 + 5,none⟩ = some d5
 r1 : VRd W s1 #[c0,c1,c2,c3,c4,c5]
 r2 : VRd W s2 #[d0,d1,d2,d3,d4,d5]
theorem PairU.keep {w W W' : World} {s1 s2 : V} {g1 o1 g2 o2 : Nat} {c0 c1 c2 c3 c4 c5 d0 d1 d2 d3 d4 d5 : Value} (h : PairU w s1 s2 g1 o1 g2 o2 c0 c1 c2 c3 c4 c5 d0 d1 d2 d3 d4 d5 W) (b : Below W.heap.size W W') : PairU w s1 s2 g1 o1 g2 o2 c0 c1 c2 c3 c4 c5 d0 d1 d2 d3 d4 d5 W' :=
 ⟨Kaa h.b b,Kad b (ltOf h.h0) h.h0,Kad b (ltOf h.h1) h.h1,Kad b (ltOf h.h2) h.h2,Kad b (ltOf h.h3) h.h3,Kad b (ltOf h.h4) h.h4,Kad b (ltOf h.h5) h.h5,
  Kad b (ltOf h.q0) h.q0,Kad b (ltOf h.q1) h.q1,Kad b (ltOf h.q2) h.q2,Kad b (ltOf h.q3) h.q3,Kad b (ltOf h.q4) h.q4,Kad b (ltOf h.q5) h.q5,h.r1.below b,h.r2.below b⟩
structure KeyTwo (w : World) (X Y : Array Value) (b1 o1 b2 o2 : Nat) (s1 s2 : List UInt8) (W : World) : Prop where
 two : TwoV w W X Y
 one : W.cell? ⟨b1,o1,none⟩ = some (.string (strB s1))
 sec : W.cell? ⟨b2,o2,none⟩ = some (.string (strB s2))
theorem KeyTwo.keep {w W W' : World} {X Y : Array Value} {b1 o1 b2 o2 : Nat} {s1 s2 : List UInt8} (h : KeyTwo w X Y b1 o1 b2 o2 s1 s2 W) (b : Below W.heap.size W W') : KeyTwo w X Y b1 o1 b2 o2 s1 s2 W' :=
 ⟨h.two.below b,Kad b (ltOf h.one) h.one,Kad b (ltOf h.sec) h.sec⟩
structure AlU (w : World) (X Y : Array Value) (s1 : V) (g1 o1 g2 o2 : Nat) (c0 c1 c2 c3 c4 c5 d0 d1 d2 d3 d4 d5 : Value) (W : World) : Prop where
 two : TwoV w W X Y
 p : PairU w s1 s1 g1 o1 g2 o2 c0 c1 c2 c3 c4 c5 d0 d1 d2 d3 d4 d5 W
theorem AlU.keep {w W W' : World} {X Y : Array Value} {s1 : V} {g1 o1 g2 o2 : Nat} {c0 c1 c2 c3 c4 c5 d0 d1 d2 d3 d4 d5 : Value} (h : AlU w X Y s1 g1 o1 g2 o2 c0 c1 c2 c3 c4 c5 d0 d1 d2 d3 d4 d5 W) (b : Below W.heap.size W W') : AlU w X Y s1 g1 o1 g2 o2 c0 c1 c2 c3 c4 c5 d0 d1 d2 d3 d4 d5 W':=⟨h.two.below b,h.p.keep b⟩
structure StoU (w : World) (X : Array Value) (g o q : Nat) (kj k0 : Int) (W : World) : Prop where
 one : OneB w W X
 kj : W.cell? ⟨g,q,none⟩ = some (.int .i64 kj)
 k0 : W.cell? ⟨g,o,none⟩ = some (.int .i64 k0)
def SameK (l : List V) (j : Nat) : Prop:=∀ i v u,i < j → l[i]? = some v → l[0]? = some u → v.kind = u.kind
theorem badB_eq (k k0 : Int) : badB k k0 = true ↔ k ≠ k0 ∨ k < 1 ∨ 3 < k:=by unfold badB;simp [Bool.or_eq_true,or_assoc]
theorem storL_bad {l : List V} {i : Nat} {v u : V} (h : l[i]? = some v) (h0 : l[0]? = some u) (hk : v.kind ≠ u.kind) : storL l = false:=by
 unfold storL
 rw [List.all_eq_false]
 refine ⟨v,List.mem_of_getElem? h,?_⟩
 have e : (l.map V.kind).headD 0 = u.kind:=by cases l with
  | nil=>simp at h0
  | cons a r=>simp only [List.getElem?_cons_zero,Option.some.injEq] at h0;subst h0;rfl
 rw [e,(badB_eq _ _).2 (.inl hk)];simp
theorem storL_same {l : List V} {u : V} (h0 : l[0]? = some u) (hs : SameK l l.length) : storL l = (decide (1 ≤ u.kind) && decide (u.kind ≤ 3)):=by
 have e : (l.map V.kind).headD 0 = u.kind:=by cases l with
  | nil=>simp at h0
  | cons a r=>simp only [List.getElem?_cons_zero,Option.some.injEq] at h0;subst h0;rfl
 have hall : ∀ x ∈ l,x.kind = u.kind:=fun x hx=>by
  obtain ⟨i,hi,rfl⟩:=List.getElem_of_mem hx
  exact hs i _ _ hi (List.getElem?_eq_getElem hi) h0
 unfold storL
 rw [e,Bool.eq_iff_iff,List.all_eq_true]
 simp only [Bool.and_eq_true,decide_eq_true_eq,Bool.not_eq_true']
 constructor
 ·intro h
  have:=h u (List.mem_of_getElem? h0)
  have hb : (u.kind ≠ u.kind ∨ u.kind < 1 ∨ 3 < u.kind) → False:=fun hh=>by rw [(badB_eq u.kind u.kind).2 hh] at this;cases this
  constructor
  ·by_cases h1 : u.kind < 1
   ·exact (hb (.inr (.inl h1))).elim
   ·omega
  ·by_cases h1 : 3 < u.kind
   ·exact (hb (.inr (.inr h1))).elim
   ·omega
 ·rintro ⟨h1,h2⟩ x hx
  rw [hall x hx]
  cases hb : badB u.kind u.kind with
  | false=>rfl
  | true=>rcases (badB_eq _ _).1 hb with h | h | h <;> omega
theorem storL_one (v : V) : storL [v] = (decide (1 ≤ v.kind) && decide (v.kind ≤ 3)):=storL_same (u:=v) rfl (fun i x u hi h h0=>by
 have : i = 0:=by simpa using hi
 subst this;rw [h] at h0;cases h0;rfl)
theorem kinds3 (k : Int) : ((k == 1) = true ∧ (decide (1 ≤ k) && decide (k ≤ 3)) = true) ∨ ((k == 1) = false ∧ (k == 2) = true ∧ (decide (1 ≤ k) && decide (k ≤ 3)) = true) ∨ ((k == 1) = false ∧ (k == 2) = false ∧ (k == 3) = true ∧ (decide (1 ≤ k) && decide (k ≤ 3)) = true) ∨ ((k == 1) = false ∧ (k == 2) = false ∧ (k == 3) = false ∧ (decide (1 ≤ k) && decide (k ≤ 3)) = false):=by
 by_cases h1 : k = 1
 ·subst h1;exact .inl ⟨rfl,rfl⟩
 ·by_cases h2 : k = 2
  ·subst h2;exact .inr (.inl ⟨rfl,rfl,rfl⟩)
  ·by_cases h3 : k = 3
   ·subst h3;exact .inr (.inr (.inl ⟨rfl,rfl,rfl,rfl⟩))
   ·refine .inr (.inr (.inr ⟨by simpa using h1,by simpa using h2,by simpa using h3,?_⟩))
    rw [Bool.and_eq_false_iff,decide_eq_false_iff_not,decide_eq_false_iff_not];omega
theorem storR_any {v : V} {w : World} {x : Array Value} (hx : VRd w v x) (ho : okV v = true) :
 Calls Tryz.prog 136 #[.agg x] w fun e w'=>e = .returned (.bool (storB v)) ∧ Below w.heap.size w w':=by
 obtain ⟨pk,ck,pl,cl,rfl,htx,hk1,hl1⟩:=hx.open
 have hF:=oneV_iff.1 (mayV_iff.1 (okV_may ho)).1
 have hls : v.kind ≠ 4 → v.kind ≠ 5 → v.list = []:=hF.list
 have hR : storB v = storL (if v.kind = 4 then v.list else [v]):=rfl
 have hbad : ∀ (i : Nat) (s u : V),v.list[i]? = some s → v.list[0]? = some u → s.kind ≠ u.kind → storB v = false:=by
  intro i s u h h0 hne
  by_cases h4 : v.kind = 4
  ·rw [hR,if_pos h4];exact storL_bad h h0 hne
  ·by_cases h5 : v.kind = 5
   ·rw [hR,if_neg h4,storL_one,h5];rfl
   ·rw [hls h4 h5] at h;simp at h
 have hend : SameK v.list v.list.length → storB v = if v.kind = 4 then (match v.list[0]? with | some u=>decide (1 ≤ u.kind) && decide (u.kind ≤ 3) | none=>true) else (decide (1 ≤ v.kind) && decide (v.kind ≤ 3)):=by
  intro hs
  by_cases h4 : v.kind = 4
  ·rw [hR,if_pos h4,if_pos h4]
   cases h0 : v.list[0]? with
   | none =>
     have : v.list = []:=by cases hv : v.list with
      | nil=>rfl
      | cons a r=>rw [hv] at h0;simp at h0
     rw [this];rfl
   | some u=>exact storL_same h0 hs
  ·rw [hR,if_neg h4,if_neg h4,storL_one]
 generalize storB v = R at *
 have hT:=OneB.start w #[.int .i64 v.kind,.bool v.b,.int .i64 v.n,.string (strB v.text),.slice pk v.keys.length ck,.slice pl v.list.length cl]
 have z1 : (v.list.length : Int) ≤ 140737488355328:=by have:=hl1.1.2.1;omega
 have px0:=Kae (o:=0) hT.1 rfl;have px5:=Kae (o:=5) hT.1 rfl
 have HT:=yh hT
 have HL:=yh hl1
 have HB:=yh hbad
 have HE:=yh hend
 clear hx hk1 hl1 hT hbad hend hR hls hF ho
 go_enter Tryz.func136,Tryz.ntmps136
 go_wp2
 clear px0 px5
 go_loopw [3] (fun i W=>∃ j : Nat,j ≤ v.list.length ∧ i = .int .i64 (j : Int) ∧ Hid (SameK v.list j ∧ OneB w W #[.int .i64 v.kind,.bool v.b,.int .i64 v.n,.string (strB v.text),.slice pk v.keys.length ck,.slice pl v.list.length cl])) (fun i _=>v.list.length - (intOf i).toNat)
 case atStart=>exact ⟨0,Nat.zero_le _,rfl,yh ⟨fun i _ _ hi=>by omega,HT.out⟩⟩
 case round =>
  clear HT
  obtain ⟨j,hj,rfl,HJ⟩:=hrel
  have hT1:=HJ.out.2
  have px0:=Kae (o:=0) hT1.1 rfl;have px5:=Kae (o:=5) hT1.1 rfl
  by_cases hlt : j < v.list.length
  ·have hlt1 : j + 1 ≤ v.list.length:=hlt
   have hpos : 0 < v.list.length:=by omega
   have hbd : Below w.heap.size w wr.drew:=Kaa hT1.2 (Below.refl _ _).drew
   obtain ⟨g1,o1,pk1,ck1,pl1,cl1,rfl,⟨a0,_⟩,_⟩:=(HL.out.below hbd).at hlt
   obtain ⟨g2,o2,pk2,ck2,pl2,cl2,e2,⟨q0,_⟩,_⟩:=(HL.out.below hbd).at hpos
   cases e2
   have hsj : v.list[j]? = some v.list[j]:=List.getElem?_eq_getElem hlt
   have hs0 : v.list[0]? = some v.list[0]:=List.getElem?_eq_getElem hpos
   rw [Nat.zero_mul,Nat.add_zero] at q0
   have hstep : v.list[j].kind = v.list[0].kind → SameK v.list (j + 1):=fun e i s u hi h h0=>by
    by_cases hij : i = j
    ·subst hij;rw [hsj] at h;rw [hs0] at h0;cases h;cases h0;exact e
    ·exact HJ.out.1 i s u (by omega) h h0
   have hbad2 : v.list[j].kind ≠ v.list[0].kind → R = false:=HB.out j _ _ hsj hs0
   generalize v.list[j].kind = kj at *
   generalize v.list[0].kind = k0 at *
   have hU0 : StoU w #[.int .i64 v.kind,.bool v.b,.int .i64 v.n,.string (strB v.text),.slice pk v.keys.length ck,.slice (some ⟨g1,o1,none⟩) v.list.length cl] g1 o1 (o1 + j * 6) kj k0 wr.drew:=⟨hT1.below (Below.refl _ _).drew,a0,q0⟩
   clear a0 q0 hsj hs0 hbd hT1
   by_cases e : kj = k0
   ·have HS:=yh (hstep e)
    have hne : ∀ W,(binOp .neq 28 (.int .i64 kj) (.int .i64 k0)).run Tryz.prog W = .ok (.bool false) W:=fun W=>by simp [go_sem,e]
    clear hstep hbad2 e HJ
    go_wp2
    refine Kag (fun W=>StoU w #[.int .i64 v.kind,.bool v.b,.int .i64 v.n,.string (strB v.text),.slice pk v.keys.length ck,.slice (some ⟨g1,o1,none⟩) v.list.length cl] g1 o1 (o1 + j * 6) kj k0 W) (by kernel_rfl) hU0 (fun hU=>?_)
    refine tk 0 12 (v:=.pointer (some ⟨w.heap.size,5,none⟩)) rfl rfl (fun W hW=>Kab rfl rfl (Ka1 _ _ (by decide) W)) ?_;simp only [zP]
    refine tk 1 13 (v:=.slice (some ⟨g1,o1,none⟩) v.list.length cl) rfl rfl (fun W hW=>Kac rfl rfl (Kaf (w:=W) Tryz.underlying29 rfl (Kae hW.one.1 rfl))) ?_;simp only [zP]
    refine tm 2 14 (v:=.int .i64 (j : Int)) rfl rfl rfl ?_;simp only [zP]
    refine tk 3 15 (v:=.pointer (some ⟨g1,o1 + j * 6,none⟩)) rfl rfl (fun W hW=>Kai rfl rfl rfl (ia_vals _ _ _ _ _ hlt W)) ?_;simp only [zP]
    refine tk 4 16 (v:=.pointer (some ⟨g1,o1 + j * 6,none⟩)) rfl rfl (fun W hW=>Kab rfl rfl (Kei _ _ W)) ?_;simp only [zP]
    refine tk 5 17 (v:=.int .i64 kj) rfl rfl (fun W hW=>Kac rfl rfl (Kaf (w:=W) Tryz.underlying28 rfl hW.kj)) ?_;simp only [zP]
    refine tk 6 18 (v:=.pointer (some ⟨w.heap.size,5,none⟩)) rfl rfl (fun W hW=>Kab rfl rfl (Ka1 _ _ (by decide) W)) ?_;simp only [zP]
    refine tk 7 19 (v:=.slice (some ⟨g1,o1,none⟩) v.list.length cl) rfl rfl (fun W hW=>Kac rfl rfl (Kaf (w:=W) Tryz.underlying29 rfl (Kae hW.one.1 rfl))) ?_;simp only [zP]
    refine tk 8 20 (v:=.pointer (some ⟨g1,o1,none⟩)) rfl rfl (fun W hW=>Kai rfl rfl rfl (ia_first _ _ _ _ hpos W)) ?_;simp only [zP]
    refine tk 9 21 (v:=.pointer (some ⟨g1,o1,none⟩)) rfl rfl (fun W hW=>Kab rfl rfl (Kei _ _ W)) ?_;simp only [zP]
    refine tk 10 22 (v:=.int .i64 k0) rfl rfl (fun W hW=>Kac rfl rfl (Kaf (w:=W) Tryz.underlying28 rfl hW.k0)) ?_;simp only [zP]
    refine tk 11 23 (v:=.bool false) rfl rfl (fun W hW=>Kal rfl rfl rfl (hne W)) ?_;simp only [zP]
    refine done (by kernel_rfl) ?_ _
    have HT0:=yh (And.intro HS.out hU.one)
    clear hU hU0 hne HS px0 px5
    go_wp2
    go_roundw
    case rel=>exact ⟨j + 1,by omega,by go_num,HT0⟩
    case measure=>simp [intOf];omega
   ·have HR:=yh (hbad2 e)
    have hne : ∀ W,(binOp .neq 28 (.int .i64 kj) (.int .i64 k0)).run Tryz.prog W = .ok (.bool true) W:=fun W=>by simp [go_sem,e]
    clear hstep hbad2 e HJ
    go_wp2
    refine Kag (fun W=>StoU w #[.int .i64 v.kind,.bool v.b,.int .i64 v.n,.string (strB v.text),.slice pk v.keys.length ck,.slice (some ⟨g1,o1,none⟩) v.list.length cl] g1 o1 (o1 + j * 6) kj k0 W) (by kernel_rfl) hU0 (fun hU=>?_)
    refine tk 0 12 (v:=.pointer (some ⟨w.heap.size,5,none⟩)) rfl rfl (fun W hW=>Kab rfl rfl (Ka1 _ _ (by decide) W)) ?_;simp only [zP]
    refine tk 1 13 (v:=.slice (some ⟨g1,o1,none⟩) v.list.length cl) rfl rfl (fun W hW=>Kac rfl rfl (Kaf (w:=W) Tryz.underlying29 rfl (Kae hW.one.1 rfl))) ?_;simp only [zP]
    refine tm 2 14 (v:=.int .i64 (j : Int)) rfl rfl rfl ?_;simp only [zP]
    refine tk 3 15 (v:=.pointer (some ⟨g1,o1 + j * 6,none⟩)) rfl rfl (fun W hW=>Kai rfl rfl rfl (ia_vals _ _ _ _ _ hlt W)) ?_;simp only [zP]
    refine tk 4 16 (v:=.pointer (some ⟨g1,o1 + j * 6,none⟩)) rfl rfl (fun W hW=>Kab rfl rfl (Kei _ _ W)) ?_;simp only [zP]
    refine tk 5 17 (v:=.int .i64 kj) rfl rfl (fun W hW=>Kac rfl rfl (Kaf (w:=W) Tryz.underlying28 rfl hW.kj)) ?_;simp only [zP]
    refine tk 6 18 (v:=.pointer (some ⟨w.heap.size,5,none⟩)) rfl rfl (fun W hW=>Kab rfl rfl (Ka1 _ _ (by decide) W)) ?_;simp only [zP]
    refine tk 7 19 (v:=.slice (some ⟨g1,o1,none⟩) v.list.length cl) rfl rfl (fun W hW=>Kac rfl rfl (Kaf (w:=W) Tryz.underlying29 rfl (Kae hW.one.1 rfl))) ?_;simp only [zP]
    refine tk 8 20 (v:=.pointer (some ⟨g1,o1,none⟩)) rfl rfl (fun W hW=>Kai rfl rfl rfl (ia_first _ _ _ _ hpos W)) ?_;simp only [zP]
    refine tk 9 21 (v:=.pointer (some ⟨g1,o1,none⟩)) rfl rfl (fun W hW=>Kab rfl rfl (Kei _ _ W)) ?_;simp only [zP]
    refine tk 10 22 (v:=.int .i64 k0) rfl rfl (fun W hW=>Kac rfl rfl (Kaf (w:=W) Tryz.underlying28 rfl hW.k0)) ?_;simp only [zP]
    refine tk 11 23 (v:=.bool true) rfl rfl (fun W hW=>Kal rfl rfl rfl (hne W)) ?_;simp only [zP]
    refine done (by kernel_rfl) ?_ _
    have HF:=yh hU.one.2
    clear hU hU0 hne px0 px5
    go_wp2
    go_ret
    exact ⟨Kak HR.out.symm,HF.out⟩
  ·obtain rfl : j = v.list.length:=by omega
   have HF:=yh hT1.2
   have hE:=HE.out HJ.out.1
   by_cases h4 : v.kind = 4
   ·rw [if_pos h4] at hE
    have d4 : (v.kind == 4) = true:=by simpa using h4
    by_cases hpos : 0 < v.list.length
    ·obtain ⟨g2,o2,pk2,ck2,pl2,cl2,rfl,⟨q0,_⟩,_⟩:=(HL.out.below hT1.2).at hpos
     rw [List.getElem?_eq_getElem hpos] at hE
     simp only at hE
     rw [Nat.zero_mul,Nat.add_zero] at q0
     have d5 : decide ((0 : Int) < (v.list.length : Int)) = true:=by rw [decide_eq_true_iff];omega
     have d6 : decide (0 < v.list.length) = true:=by rw [decide_eq_true_iff];omega
     generalize v.list[0].kind = k0 at *
     have hk:=kinds3 k0
     generalize (decide (1 ≤ k0) && decide (k0 ≤ 3)) = B at *
     have HR:=yh hE
     clear hE hT1 h4 HJ HE HB HL
     rcases hk with ⟨k1,hB⟩ | ⟨k1,k2,hB⟩ | ⟨k1,k2,k3,hB⟩ | ⟨k1,k2,k3,hB⟩
     all_goals
      have HB2:=yh (HR.out.trans hB)
      clear hB HR
      go_wp2
      go_ret
      exact ⟨Kak HB2.out.symm,HF.out⟩
    ·have hnil : v.list = []:=List.eq_nil_of_length_eq_zero (by omega)
     have d5 : decide ((0 : Int) < (v.list.length : Int)) = false:=by rw [decide_eq_false_iff_not];omega
     have d6 : decide (0 < v.list.length) = false:=by rw [decide_eq_false_iff_not];omega
     have hE2 : R = true:=by rw [hE,hnil];rfl
     have HR:=yh hE2
     clear hE hE2 hT1 h4 HJ HE HB HL hnil
     go_wp2
     go_ret
     exact ⟨Kak HR.out.symm,HF.out⟩
   ·rw [if_neg h4] at hE
    have d4 : (v.kind == 4) = false:=by simpa using h4
    generalize v.kind = k0 at *
    have hk:=kinds3 k0
    generalize (decide (1 ≤ k0) && decide (k0 ≤ 3)) = B at *
    have HR:=yh hE
    clear hE hT1 h4 HJ HE HB HL
    rcases hk with ⟨k1,hB⟩ | ⟨k1,k2,hB⟩ | ⟨k1,k2,k3,hB⟩ | ⟨k1,k2,k3,hB⟩
    all_goals
     have HB2:=yh (HR.out.trans hB)
     clear hB HR
     go_wp2
     go_ret
     exact ⟨Kak HB2.out.symm,HF.out⟩
end Go.Proofs.YtihfnegakcghiaaGreatDoor
