/- Texts that the proof shares (each declaration is a lemma of this layer). -/
import Derived.Test.YtihfnegakcghiaaGreatDoorZGapplya
import Derived.Test.YtihfnegakcghiaaGreatDoorZGapplyb
import Derived.Test.YtihfnegakcghiaaGreatDoorZGapplyc
set_option linter.unusedSimpArgs false
set_option linter.unusedVariables false
set_option linter.unnecessarySimpa false
set_option maxRecDepth 100000
set_option maxHeartbeats 64000000
namespace Go.Proofs.YtihfnegakcghiaaGreatDoor
open Go.RowKit
def kM (ks : List (List UInt8)) : List UInt8 → Option Value:=fun t=>if t ∈ ks then some (.int .i64 1) else none
theorem kM_snoc (ks : List (List UInt8)) (k : List UInt8) : updS (kM ks) k (.int .i64 1) = kM (ks ++ [k]):=by
 funext t
 unfold updS kM
 by_cases h : t = k
 ·simp [h]
 ·simp [h]
theorem kM_in {ks : List (List UInt8)} {k : List UInt8} (h : k ∈ ks) : (kM ks k).getD (.int .i64 0) = .int .i64 1:=by unfold kM;rw [if_pos h];rfl
theorem kM_out {ks : List (List UInt8)} {k : List UInt8} (h : k ∉ ks) : (kM ks k).getD (.int .i64 0) = .int .i64 0:=by unfold kM;rw [if_neg h];rfl
def keepD (l : List PropD) : List PropD:=l.filter fun p=>!decide (p.val.kind = 0)
def okP0 (p : PropD) : Bool:=okNm p.key && (nullV9 p.val || okSt p.val)
theorem Keb (l : List PropD) : Kbq l = (decide ((l.map PropD.key).Nodup) && l.all okP0):=rfl
section
variable {l : List PropD} {j : Nat}
theorem mayStore_twice (hj : j < l.length) (h : l[j].key ∈ (l.take j).map PropD.key) : Kbq l = false:=by
 have : ¬ (l.map PropD.key).Nodup:=fun hn=>by
  rw [← List.take_append_drop j l,List.map_append,List.nodup_append] at hn
  exact hn.2.2 _ h l[j].key (List.mem_map_of_mem (by rw [List.drop_eq_getElem_cons hj];exact List.mem_cons_self)) rfl
 rw [Keb,decide_eq_false this,Bool.false_and]
theorem mayStore_no (hj : j < l.length) (h : okP0 l[j] = false) : Kbq l = false:=by
 have : l.all okP0 = false:=by
  rw [List.all_eq_false]
  exact ⟨l[j],List.getElem_mem hj,by simp [h]⟩
 rw [Keb,this,Bool.and_false]
theorem mayStore_step (hj : j < l.length) (h : Kbq (l.take j) = true) (hk : l[j].key ∉ (l.take j).map PropD.key) (ho : okP0 l[j] = true) : Kbq (l.take (j + 1)) = true:=by
 rw [Keb,Bool.and_eq_true,decide_eq_true_eq] at h ⊢
 rw [List.take_succ_eq_append_getElem hj,List.map_append,List.all_append,h.2]
 refine ⟨?_,by simp [ho]⟩
 rw [List.nodup_append]
 refine ⟨h.1,by simp,fun a ha b hb=>?_⟩
 simp at hb
 subst hb
 exact fun e=>hk (by rw [← e];exact ha)
theorem keepD_step (hj : j < l.length) : keepD (l.take (j + 1)) = keepD (l.take j) ++ (if l[j].val.kind = 0 then [] else [l[j]]):=by
 unfold keepD
 rw [List.take_succ_eq_append_getElem hj,List.filter_append]
 by_cases h : l[j].val.kind = 0
 ·rw [if_pos h];simp [h]
 ·rw [if_neg h];simp [h]
theorem keepD_len : (keepD (l.take j)).length ≤ j:=Nat.le_trans (List.length_filter_le _ _) (by rw [List.length_take];omega)
end
structure StInv (w W : World) (l : List PropD) (j : Nat) (o : Value) : Prop where
 row : GIn POwn 47 7 (fun b=>w.heap.size + 1 ≤ b) W o (keepD (l.take j))
 met : StrMap W w.heap.size (kM ((l.take j).map PropD.key))
 below : Below w.heap.size w W
 may : Kbq (l.take j) = true
theorem StInv.start {w : World} (l : List PropD) : StInv w (w.alloc (.map #[] 0)) l 0 (.slice none 0 0) :=
 ⟨GIn.start,by
   have:=StrMap.made w
   exact this,Kai _,rfl⟩
theorem GIn.nodes {w W : World} {vl : Value} {l : List PropD} {n : Nat} (h : GIn POwn 47 7 (fun b=>n ≤ b) W vl l) : GIn POwn 47 7 (fun b=>n ≤ b) W vl l:=h
theorem sort_store {l l' : List PropD} (h : Kbq l = true) (hp : l'.Perm (keepD l)) (hs : l'.Pairwise fun a b=>ltB b.key a.key = false) : l' = Kbi l:=by
 rw [Keb,Bool.and_eq_true,decide_eq_true_eq] at h
 have hn : (l'.map PropD.key).Nodup:=(hp.map _).nodup_iff.2 (List.Nodup.sublist (List.filter_sublist.map _) h.1)
 have hr : RiseB PropD.key l':=by
  unfold RiseB
  rw [List.pairwise_iff_getElem] at hs ⊢
  intro i j hi hj hij
  refine Kdc (hs i j hi hj hij) fun e=>?_
  have:=(List.pairwise_iff_getElem.1 (List.nodup_iff_pairwise_ne.1 hn)) i j (by simpa using hi) (by simpa using hj) hij
  simp only [List.getElem_map] at this
  exact this e.symm
 refine riseB_eq PropD.key hr (storeD_rise l) fun x=>?_
 rw [storeD_mem h.1,hp.mem_iff]
 unfold keepD
 rw [List.mem_filter]
 simp
theorem stored_any {w : World} (hE : Env w) {p : Option Addr} {c : Nat} {l : List PropD} (h : GRd PRd 7 w p c l) (ho : PsOk l) : Calls Tryz.prog 43 #[.slice p l.length c] w fun e w'=>Below w.heap.size w w' ∧ (Kbq l = false → e = .returned (.tuple #[.slice none 0 0,.bool false])) ∧
 (Kbq l = true → ∃ v,e = .returned (.tuple #[v,.bool true]) ∧ GOwn POwn 47 7 w' (fun b=>w.heap.size ≤ b) v (Kbi l)):=by
 have z1 : (l.length : Int) ≤ 140737488355328:=by have:=h.1.2.1;omega
 have H:=yh h
 have HE:=yh hE
 have HO:=yh ho
 have HS0:=yh (StInv.start (w:=w) l)
 have hmm:=@run_makeMap Tryz.prog
 clear h hE ho
 go_enter Tryz.func43,Tryz.ntmps43
 go_wp2
 go_loopw [4,11] (fun o i wr=>∃ (j n : Nat) (p : Option Addr) (c : Nat),j ≤ l.length ∧ i = .int .i64 (j : Int) ∧ o = .slice p n c ∧ Hid (StInv w wr l j (.slice p n c))) (fun _ i _=>l.length - (intOf i).toNat)
 case atStart=>exact ⟨0,0,none,0,Nat.zero_le _,rfl,rfl,HS0⟩
 case round =>
  clear HS0
  obtain ⟨j,no,po,co,hj,rfl,rfl,HJ⟩:=hrel
  by_cases hlt : j < l.length
  ·have hlt1 : j + 1 ≤ l.length:=hlt
   have hbw:=HJ.out.below
   obtain ⟨b,of,cs,rfl,hs,hc,hv⟩:=H.out.get hlt
   have htv:=(HO.out.2 l[j] (List.getElem_mem hlt)).2
   have hl1 : (keepD (l.take j)).length ≤ 1100000:=by have:=keepD_len (l:=l) (j:=j);have:=HO.out.1;omega
   have hv2:=hv
   have htwice:=mayStore_twice hlt
   have hno:=mayStore_no hlt
   have hstep:=mayStore_step hlt HJ.out.may
   have hkeep:=keepD_step hlt
   have htk : (l.take (j + 1)).map PropD.key = (l.take j).map PropD.key ++ [l[j].key]:=by rw [List.take_succ_eq_append_getElem hlt,List.map_append];rfl
   obtain ⟨xv,ex,hkx,hvx⟩:=hv
   have hbn:=Kai (w:=wr) (.cells cs 47)
   have hbx:=heap_alloc_new wr (.cells cs 47)
   have k0 : cs[0]? = some (.string (strB l[j].key)):=by rw [ex,Array.getElem?_append_left (by simp)];rfl
   have k1 : ∀ (i : Nat) (u : Value),xv[i]? = some u → cs[1 + i]? = some u:=fun i u hu=>by rw [ex,Array.getElem?_append_right (by simp)];simpa using hu
   have kk : xv[0]? = some (.int .i64 l[j].val.kind):=by obtain ⟨_,_,_,_,rfl,_⟩:=hvx.open;rfl
   have HL1:=yh (StT.load (P:=Tryz.prog) (g:=b) (o:=of + j * 7) (W:=wr) st_prop hs fun i u hu=>Kag hbw (ltOf (hc i u hu)) (hc i u hu))
   have HS1:=yh (StT.fresh st_prop hs (ef_prop.ones hv2) (W:=wr))
   have hmt:=HJ.out.met.grow hbn
   have hlk:=Kdn (P:=Tryz.prog) (T:=143) hmt Tryz.underlying143 Tryz.underlying9 (fun w=>Tryz.zeroValue3 w) l[j].key
   have hne : wr.heap.size ≠ w.heap.size:=fun e=>by have:=HJ.out.met.lt;omega
   have hbw2:=Kaa hbw hbn
   have hvb : ∀ W,Below wr.heap.size wr W → VRd W l[j].val xv:=fun W g=>(hvx.below hbw).below g
   have hrow:=HJ.out.row
   have hokp : okP0 l[j] = (okNm l[j].key && (nullV9 l[j].val || (okV l[j].val && storB l[j].val))):=rfl
   rw [hokp] at hno hstep
   clear hokp
   have hlj : (⟨l[j].key,l[j].val⟩ : PropD) = l[j]:=rfl
   rw [← hlj] at hkeep
   clear hlj hv2 ex hs hc
   generalize (l.take j).map PropD.key = ks at *
   generalize l[j].key = key at *
   generalize l[j].val = val at *
   have pk1:=Kah (o:=0) hbx k0
   by_cases hin : key ∈ ks
   ·-- met before
    have HF:=yh (htwice hin)
    rw [kM_in hin] at hlk
    obtain ⟨W3,hup,hT3,hM3,hz3⟩:=Kd0 (P:=Tryz.prog) (T:=143) hmt Tryz.underlying143 Tryz.underlying9 key (.int .i64 2)
    have hb3 : Below w.heap.size w W3:=hT3.below hbw2 (fun b hb e=>by omega) hbw2.size
    have hbx3:=hT3.heap hbx hne
    have pk3:=Kah (o:=0) hbx3 k0
    have hnm:=Kca (HE.out.b hb3) key hkx
    have hlk4 : ∀ W4,Below W3.heap.size W3 W4 → (Instr.lookup 143 (.map (some w.heap.size)) (.string (strB key)) false).run Tryz.prog W4 = .ok (.int .i64 2) W4:=fun W4 g=>by
     have:=Kdn (P:=Tryz.prog) (T:=143) (hM3.grow g) Tryz.underlying143 Tryz.underlying9 (fun w=>Tryz.zeroValue3 w) key
     rw [this];unfold updS;simp
    have HK4:=yh hlk4
    have H1:=yh hlk
    have H2:=yh hup
    have HNM:=yh hnm
    have HB3:=yh hb3
    have HC3:=yh (And.intro hbx3 k0)
    clear hup hT3 hM3 hz3 hb3 hbx3 hnm hlk4 hlk hmt hin htwice hno hstep hkeep htk hbn hbx k0 k1 kk hbw hbw2 hvx hvb hrow hl1 htv HJ
    cases hok : okNm key with
    | false =>
      rw [hok] at HNM
      go_wp2_with (first
       | ((with_reducible apply Kap);exact HL1.out;exact rfl;clear HL1)
       | ((with_reducible apply Kaq);exact HS1.out _ rfl;exact rfl;exact rfl;clear HS1)
       | ((with_reducible apply Ka4);exact H1.out;exact rfl;exact rfl;clear H1)
       | ((with_reducible apply Kb1);exact H2.out;exact rfl;exact rfl;exact rfl;clear H2)
       | (go_at_call 49
          (
           refine HNM.out.mono ?_
           rintro e W4 ⟨rfl,hb⟩
           have HB4:=yh (Kaa HB3.out hb)
           clear hb)))
      go_ret2
      exact ⟨HB4.out,fun _=>rfl,fun h=>absurd (h.symm.trans HF.out) (by decide)⟩
    | true =>
      rw [hok] at HNM
      go_wp2_with (first
       | ((with_reducible apply Kap);exact HL1.out;exact rfl;clear HL1)
       | ((with_reducible apply Kaq);exact HS1.out _ rfl;exact rfl;exact rfl;clear HS1)
       | ((with_reducible apply Ka4);exact H1.out;exact rfl;exact rfl;clear H1)
       | ((with_reducible apply Kb1);exact H2.out;exact rfl;exact rfl;exact rfl;clear H2)
       | ((with_reducible apply Kdq);exact HK5.out;exact rfl;exact rfl;exact rfl;clear HK5)
       | (go_at_call 49
          (
           refine HNM.out.mono ?_
           rintro e W4 ⟨rfl,hb⟩
           have HK5:=yh (HK4.out W4 hb)
           have HB4:=yh (Kaa HB3.out hb)
           have pk4:=Kah (o:=0) (Kak hb (Array.getElem?_eq_some_iff.1 HC3.out.1).1 HC3.out.1) HC3.out.2
           clear hb)))
      go_ret2
      exact ⟨HB4.out,fun _=>rfl,fun h=>absurd (h.symm.trans HF.out) (by decide)⟩
   ·-- new
    rw [kM_out hin] at hlk
    obtain ⟨W3,hup,hT3,hM3,hz3⟩:=Kd0 (P:=Tryz.prog) (T:=143) hmt Tryz.underlying143 Tryz.underlying9 key (.int .i64 1)
    rw [kM_snoc,← htk] at hM3
    have hb3 : Below w.heap.size w W3:=hT3.below hbw2 (fun b hb e=>by omega) hbw2.size
    have hbx3:=hT3.heap hbx hne
    have pk3:=Kah (o:=0) hbx3 k0
    have hnm:=Kca (HE.out.b hb3) key hkx
    have hkin : key ∈ (l.take (j + 1)).map PropD.key:=by rw [htk];simp
    have hlk4 : ∀ W4,Below W3.heap.size W3 W4 → (Instr.lookup 143 (.map (some w.heap.size)) (.string (strB key)) false).run Tryz.prog W4 = .ok (.int .i64 1) W4:=fun W4 g=>by
     have:=Kdn (P:=Tryz.prog) (T:=143) (hM3.grow g) Tryz.underlying143 Tryz.underlying9 (fun w=>Tryz.zeroValue3 w) key
     rw [this,kM_in hkin]
    have hvx3 : ∀ W4,Below W3.heap.size W3 W4 → VRd W4 val xv:=fun W4 g=>by
     have h1 : VRd W3 val xv:=by
      have h0:=hvx
      exact h0.below hb3
     exact h1.below g
    have hlv : ∀ W : World,W.heap[wr.heap.size]? = some (.cells cs 47 (0,0)) → (loadVar 31 ⟨wr.heap.size,1,none⟩).run Tryz.prog W = .ok (.agg xv) W:=fun W hW=>StT.load (P:=Tryz.prog) (g:=wr.heap.size) (o:=1) (W:=W) Kdo (ef_val.size hvx) fun i u hu=>Kah (o:=1 + i) hW (k1 i u hu)
    have hbox : ∀ b,Value.ownBlock (.slice po no co) = some b → b ≠ wr.heap.size:=fun b e=>by have:=(hrow.lt b e).1;omega
    have hrow3 : GIn POwn 47 7 (fun b=>w.heap.size + 1 ≤ b) W3 (.slice po no co) (keepD (l.take j)):=hrow.kept Ka6 (fun b hp hl=>by
     have e1 : (wr.alloc (.cells cs 47)).heap[b]? = wr.heap[b]?:=hbn.block b hl
     rw [← e1]
     exact hT3.block b (by have:=hbn.size;omega) (by omega)) fun b _ hp=>hp
    have HK4:=yh hlk4
    have H1:=yh hlk
    have H2:=yh hup
    have HNM:=yh hnm
    have HB3:=yh hb3
    have HC3:=yh (And.intro hbx3 (And.intro k0 (k1 0 _ kk)))
    have HV3:=yh hvx3
    have HLV:=yh hlv
    have HR:=yh (And.intro hrow3 (And.intro hM3 hl1))
    have HHT:=yh htv
    have HNO:=yh hno
    have HST:=yh (hstep hin)
    have HKP:=yh hkeep
    clear hup hT3 hM3 hz3 hb3 hbx3 hnm hlk4 hlk hmt hin htwice hno hstep hkeep htk hbn hbx k0 k1 kk hbw hbw2 hvx hvb hrow hl1 htv HJ hkin hvx3 hlv hrow3
    cases hok : okNm key with
    | false =>
      rw [hok] at HNM
      have HF:=yh (HNO.out (by rw [hok];rfl))
      go_wp2_with (first
       | ((with_reducible apply Kap);exact HL1.out;exact rfl;clear HL1)
       | ((with_reducible apply Kaq);exact HS1.out _ rfl;exact rfl;exact rfl;clear HS1)
       | ((with_reducible apply Ka4);exact H1.out;exact rfl;exact rfl;clear H1)
       | ((with_reducible apply Kb1);exact H2.out;exact rfl;exact rfl;exact rfl;clear H2)
       | (go_at_call 49
          (
           refine HNM.out.mono ?_
           rintro e W4 ⟨rfl,hb⟩
           have HB4:=yh (Kaa HB3.out hb)
           clear hb)))
      go_ret2
      exact ⟨HB4.out,fun _=>rfl,fun h=>absurd (h.symm.trans HF.out) (by decide)⟩
    | true =>
      rw [hok] at HNM
      by_cases hk0 : val.kind = 0
      ·cases hcv : decide (Kcr Lib.validD val = 0) with
       | true =>
         have hc0 : Kcr Lib.validD val = 0:=by simpa using hcv
         have HN0:=yh (show nullV9 val = true by unfold nullV9 okV;simp [hk0,hc0])
         have HCV:=yh hc0
         have HK0:=yh hk0
         clear hcv hc0
         generalize hkk : val.kind = kd at *
         subst hk0
         go_wp2_with (first
          | ((with_reducible apply Kap);exact HL1.out;exact rfl;clear HL1)
          | ((with_reducible apply Kaq);exact HS1.out _ rfl;exact rfl;exact rfl;clear HS1)
          | ((with_reducible apply Ka4);exact H1.out;exact rfl;exact rfl;clear H1)
          | ((with_reducible apply Kb1);exact H2.out;exact rfl;exact rfl;exact rfl;clear H2)
          | ((with_reducible apply Kdq);exact HK5.out;exact rfl;exact rfl;exact rfl;clear HK5)
          | ((with_reducible apply Kcu);exact HL5.out;exact rfl;exact rfl;clear HL5)
          | (go_at_call 49
             (
              refine HNM.out.mono ?_
              rintro e W4 ⟨rfl,hb⟩
              have HK5:=yh (HK4.out W4 hb)
              have hx4:=Kak hb (Array.getElem?_eq_some_iff.1 HC3.out.1).1 HC3.out.1
              have pk4:=Kah (o:=0) hx4 HC3.out.2.1
              have pk5:=Kah (o:=1) hx4 HC3.out.2.2
              have HL5:=yh (HLV.out W4 hx4)
              have hck:=check_ok (HE.out.b (Kaa HB3.out hb)) (HV3.out W4 hb) (Nat.le_trans HHT.out (by decide))
              rw [HCV.out] at hck
              have HCK:=yh hck
              have HB4:=yh (Kaa HB3.out hb)
              have HB43:=yh hb
              clear hb hx4 hck))
          | (go_at_call 100
             (
              refine HCK.out.mono ?_
              rintro e W5 ⟨rfl,hb⟩
              have HB5:=yh (Kaa HB43.out hb)
              clear hb)))
         go_roundw
         case rel =>
          refine ⟨j + 1,_,_,_,hlt1,by go_num,rfl,yh ⟨?_,HR.out.2.1.grow HB5.out,Kaa HB3.out HB5.out,HST.out (by rw [hok,HN0.out];rfl)⟩⟩
          rw [HKP.out,if_pos HK0.out,List.append_nil]
          exact HR.out.1.kept Ka6 (fun b _ hl=>HB5.out.block b hl) fun b _ hp=>hp
         case measure=>simp [intOf];omega
       | false =>
         have hcv0 : ¬ Kcr Lib.validD val = 0:=by simpa using hcv
         have hov : okV val = false:=by unfold okV;rw [beq_eq_false_iff_ne];exact hcv0
         have HF:=yh (HNO.out (by rw [hok,hov];unfold nullV9;rw [hov];simp))
         have hcb : (Kcr Lib.validD val == 0) = false:=by rw [beq_eq_false_iff_ne];exact hcv0
         have HOV:=yh hov
         have HKD:=yh hk0
         clear hcv hov
         generalize hck0 : Kcr Lib.validD val = ck at *
         have HCV:=yh hck0
         clear hck0
         generalize hkk : val.kind = kd at *
         subst hk0
         go_wp2_with (first
          | ((with_reducible apply Kap);exact HL1.out;exact rfl;clear HL1)
          | ((with_reducible apply Kaq);exact HS1.out _ rfl;exact rfl;exact rfl;clear HS1)
          | ((with_reducible apply Kap);exact HL6.out;exact rfl;clear HL6)
          | ((with_reducible apply Ka4);exact H1.out;exact rfl;exact rfl;clear H1)
          | ((with_reducible apply Kb1);exact H2.out;exact rfl;exact rfl;exact rfl;clear H2)
          | ((with_reducible apply Kdq);exact HK5.out;exact rfl;exact rfl;exact rfl;clear HK5)
          | ((with_reducible apply Kcu);exact HL5.out;exact rfl;exact rfl;clear HL5)
          | (go_at_call 49
             (
              refine HNM.out.mono ?_
              rintro e W4 ⟨rfl,hb⟩
              have HK5:=yh (HK4.out W4 hb)
              have hx4:=Kak hb (Array.getElem?_eq_some_iff.1 HC3.out.1).1 HC3.out.1
              have pk4:=Kah (o:=0) hx4 HC3.out.2.1
              have pk5:=Kah (o:=1) hx4 HC3.out.2.2
              have HL5:=yh (HLV.out W4 hx4)
              have hck:=check_ok (HE.out.b (Kaa HB3.out hb)) (HV3.out W4 hb) (Nat.le_trans HHT.out (by decide))
              rw [HCV.out] at hck
              have HCK:=yh hck
              have HB4:=yh (Kaa HB3.out hb)
              have HB43:=yh hb
              clear hb hx4 hck))
          | (go_at_call 100
             (
              refine HCK.out.mono ?_
              rintro e W5 ⟨rfl,hb⟩
              have hb5:=Kaa HB43.out hb
              have hx5:=Kak hb5 (Array.getElem?_eq_some_iff.1 HC3.out.1).1 HC3.out.1
              have HL6:=yh (HLV.out W5 hx5)
              have hsq:=Kdk (HE.out.b (Kaa HB3.out hb5)) (HV3.out W5 hb5) (Nat.le_trans HHT.out (by decide))
              rw [HOV.out,Bool.false_and] at hsq
              have HSQ:=yh hsq
              have HB5:=yh hb5
              clear hb hb5 hx5 hsq))
          | (go_at_call 101
             (
              refine HSQ.out.mono ?_
              rintro e W6 ⟨rfl,hb⟩
              have HB6:=yh (Kaa HB3.out (Kaa HB5.out hb))
              clear hb)))
         go_ret2
         exact ⟨HB6.out,fun _=>rfl,fun h=>absurd (h.symm.trans HF.out) (by decide)⟩
      ·have HK0:=yh hk0
       have HN0:=yh (show nullV9 val = false by unfold nullV9;rw [decide_eq_false hk0];rfl)
       have hkb : (val.kind == 0) = false:=by rw [beq_eq_false_iff_ne];exact hk0
       cases hsq : (okV val && storB val) with
       | false =>
         have HF:=yh (HNO.out (by rw [hok,hsq,HN0.out];rfl))
         have HSV:=yh hsq
         clear hsq
         generalize val.kind = kd at *
         go_wp2_with (first
          | ((with_reducible apply Kap);exact HL1.out;exact rfl;clear HL1)
          | ((with_reducible apply Kaq);exact HS1.out _ rfl;exact rfl;exact rfl;clear HS1)
          | ((with_reducible apply Kap);exact HL6.out;exact rfl;clear HL6)
          | ((with_reducible apply Ka4);exact H1.out;exact rfl;exact rfl;clear H1)
          | ((with_reducible apply Kb1);exact H2.out;exact rfl;exact rfl;exact rfl;clear H2)
          | ((with_reducible apply Kdq);exact HK5.out;exact rfl;exact rfl;exact rfl;clear HK5)
          | (go_at_call 49
             (
              refine HNM.out.mono ?_
              rintro e W4 ⟨rfl,hb⟩
              have HK5:=yh (HK4.out W4 hb)
              have hx4:=Kak hb (Array.getElem?_eq_some_iff.1 HC3.out.1).1 HC3.out.1
              have pk4:=Kah (o:=0) hx4 HC3.out.2.1
              have pk5:=Kah (o:=1) hx4 HC3.out.2.2
              have HL6:=yh (HLV.out W4 hx4)
              have hsq:=Kdk (HE.out.b (Kaa HB3.out hb)) (HV3.out W4 hb) (Nat.le_trans HHT.out (by decide))
              rw [HSV.out] at hsq
              have HSQ:=yh hsq
              have HB4:=yh (Kaa HB3.out hb)
              clear hb hx4 hsq))
          | (go_at_call 101
             (
              refine HSQ.out.mono ?_
              rintro e W6 ⟨rfl,hb⟩
              have HB6:=yh (Kaa HB4.out hb)
              clear hb)))
         go_ret2
         exact ⟨HB6.out,fun _=>rfl,fun h=>absurd (h.symm.trans HF.out) (by decide)⟩
       | true =>
         have HSV:=yh hsq
         clear hsq
         have hkd : ∃ kd,kd = val.kind:=⟨_,rfl⟩
         obtain ⟨kd,hkd⟩:=hkd
         rw [← hkd] at hkb hk0 HC3
         have HKD:=yh hkd
         clear hkd
         go_wp2_with (first
          | ((with_reducible apply Kap);exact HL1.out;exact rfl;clear HL1)
          | ((with_reducible apply Kaq);exact HS1.out _ rfl;exact rfl;exact rfl;clear HS1)
          | ((with_reducible apply Kap);exact HL6.out;exact rfl;clear HL6)
          | ((with_reducible apply Ka4);exact H1.out;exact rfl;exact rfl;clear H1)
          | ((with_reducible apply Kb1);exact H2.out;exact rfl;exact rfl;exact rfl;clear H2)
          | ((with_reducible apply Kdq);exact HK5.out;exact rfl;exact rfl;exact rfl;clear HK5)
          | (go_at_call 49
             (
              refine HNM.out.mono ?_
              rintro e W4 ⟨rfl,hb⟩
              have HK5:=yh (HK4.out W4 hb)
              have hx4:=Kak hb (Array.getElem?_eq_some_iff.1 HC3.out.1).1 HC3.out.1
              have pk4:=Kah (o:=0) hx4 HC3.out.2.1
              have pk5:=Kah (o:=1) hx4 HC3.out.2.2
              have HL6:=yh (HLV.out W4 hx4)
              have hsq:=Kdk (HE.out.b (Kaa HB3.out hb)) (HV3.out W4 hb) (Nat.le_trans HHT.out (by decide))
              rw [HSV.out] at hsq
              have HSQ:=yh hsq
              have HB43:=yh hb
              clear hb hx4 hsq))
          | (go_at_call 101
             (
              refine HSQ.out.mono ?_
              rintro e W6 ⟨rfl,hb⟩
              have HB6:=yh (Kaa HB43.out hb)
              clear hb)))
         have hb36:=HB6.out
         have hx6:=Kak hb36 (Array.getElem?_eq_some_iff.1 HC3.out.1).1 HC3.out.1
         have k0:=HC3.out.2.1
         have hlv:=HLV.out
         have hcall:=copy_any val HHT.out W6.drew xv (HV3.out W6.drew hb36.drew)
         have hS0 : W6.drew.heap[wr.heap.size]? = some (.cells cs 47 (0,0)):=hx6
         have hsz3:=Array.getElem?_eq_some_iff.1 HC3.out.1 |>.1
         refine Kaf (fun W=>W.heap[wr.heap.size]? = some (.cells cs 47 (0,0))) (by kernel_rfl) hS0 (fun hS=>?_)
         refine tk 0 45 (v:=.slice po no co) rfl rfl (fun W hW=>Kab rfl rfl) ?_
         simp only [Act.put,sA,sZ,sS]
         refine tk 1 46 (v:=.pointer (some ⟨wr.heap.size,0,none⟩)) rfl rfl (fun W hW=>Kac rfl rfl (fa_prop0 _ W)) ?_
         simp only [Act.put,sA,sZ,sS]
         refine tk 2 47 (v:=.string (strB key)) rfl rfl (fun W hW=>Kad rfl rfl (Kae (w:=W) Tryz.underlying9 rfl (Kah (o:=0) hW k0))) ?_
         simp only [Act.put,sA,sZ,sS]
         refine tk 3 48 (v:=.pointer (some ⟨wr.heap.size,1,none⟩)) rfl rfl (fun W hW=>Kac rfl rfl (fa_prop1 _ W)) ?_
         simp only [Act.put,sA,sZ,sS]
         refine tk 4 49 (v:=.agg xv) rfl rfl (fun W hW=>Kad rfl rfl (hlv W hW)) ?_
         simp only [Act.put,sA,sZ,sS]
         refine Kao 5 50 rfl rfl (by kernel_rfl) rfl (Kan [.agg xv] rfl rfl Tryz.func102 (by kernel_rfl) (by kernel_rfl)) ?_
         refine hcall.mono ?_
         rintro e W7 ⟨x,rfl,hx,hb⟩
         have hs:=hx.size6
         obtain ⟨u0,u1,u2,u3,u4,u5,rfl⟩:=six hs
         clear hs
         have hb7 : Below W6.heap.size W6 W7:=Kaa (Below.refl _ W6).drew hb
         have hb37:=Kaa hb36 hb7
         have hsz : W3.heap.size ≤ W7.heap.size:=hb37.size
         have hS5 : W7.heap[wr.heap.size]? = some (.cells cs 47 (0,0)):=Kak hb7 (Array.getElem?_eq_some_iff.1 hx6).1 hx6
         have hp : POwn W7 (fun b=>W3.heap.size ≤ b ∧ w.heap.size + 1 ≤ b) ⟨key,val⟩ (#[.string (strB key)] ++ #[u0,u1,u2,u3,u4,u5]):=⟨_,rfl,hx.imp fun b _ hb=>by have hb' : W6.heap.size ≤ b:=hb;have:=hb36.size;have:=HB3.out.size;have:=HR.out.2.1.lt;omega⟩
         obtain ⟨v',W8,a1,a2,a3⟩:=HR.out.1.step Ka6 gt_prop (W1:=W7) (P':=fun b=>w.heap.size + 1 ≤ b) (fun b _ hl=>hb37.block b hl) hsz (fun b _ hp=>hp) (fun b hb=>by have:=HR.out.2.1.lt;omega) hp HR.out.2.2 27
         obtain ⟨p6,c6,rfl⟩:=a2.slice
         generalize (keepD (l.take j) ++ [(⟨key,val⟩ : PropD)]).length = n6 at *
         have e7 : #[Value.string (strB key)] ++ #[u0,u1,u2,u3,u4,u5] = #[Value.string (strB key),u0,u1,u2,u3,u4,u5]:=rfl
         rw [e7] at a1 a3
         have hbs:=Kas (P:=Tryz.prog) (w:=W7) (v:=.agg #[.string (strB key),u0,u1,u2,u3,u4,u5]) Tryz.underlying27 Tryz.sizeOf47 Tryz.zeroValue47 rfl (by omega) (by omega)
         have hS7 : (W7.alloc (.cells #[.string (strB key),u0,u1,u2,u3,u4,u5] 47)).heap[wr.heap.size]? = some (.cells cs 47 (0,0)):=Kak (Kai _) (Array.getElem?_eq_some_iff.1 hS5).1 hS5
         have hown : ∀ b,Value.ownBlock (.slice po no co) = some b → b < W3.heap.size ∧ w.heap.size + 1 ≤ b:=fun b e=>HR.out.1.lt b e
         have hS8 : W8.heap[wr.heap.size]? = some (.cells cs 47 (0,0)):=(a3.block _ (Array.getElem?_eq_some_iff.1 hS7).1 (fun e=>hbox _ e rfl)).trans hS7
         have hb38 : Below w.heap.size w (W7.alloc (.cells #[.string (strB key),u0,u1,u2,u3,u4,u5] 47)):=Kaa (Kaa HB3.out hb37) (Kai _)
         have hbl : Below w.heap.size w W8:=a3.below hb38 (fun b hb e=>by have:=(hown b e).2;omega) hb38.size
         have hmet : StrMap W8 w.heap.size (kM ((l.take (j + 1)).map PropD.key)):=(((HR.out.2.1.grow hb37).grow (Kai (.cells #[.string (strB key),u0,u1,u2,u3,u4,u5] 47))).touch a3 fun e=>by have:=(hown _ e).2;omega)
         clear hb37 hsz hp e7 hb38 hown
         refine ⟨_,rfl,.inr hS5,?_⟩
         simp only [Act.put,sA,sZ,sS]
         refine tk 6 51 (v:=.agg #[.string (strB key),u0,u1,u2,u3,u4,u5]) rfl rfl (fun W hW=>exec_buildProp rfl rfl rfl) ?_
         simp only [Act.put,sA,sZ,sS]
         refine Kce 7 52 (v:=.slice (some ⟨W7.heap.size,0,none⟩) 1 1) rfl rfl (by kernel_rfl) rfl (Kaz rfl rfl hbs) (.inr (by assumption)) ?_
         simp only [Act.put,sA,sZ,sS]
         refine Kce 8 53 (v:=.slice p6 n6 c6) rfl rfl (by kernel_rfl) rfl (Kch rfl rfl rfl a1) (.inr (by assumption)) ?_
         simp only [Act.put,sA,sZ,sS]
         refine tk 9 4 (v:=.slice p6 n6 c6) rfl rfl (fun W hW=>Ka1 rfl rfl) ?_
         simp only [Act.put,sA,sZ,sS]
         refine done (by kernel_rfl) ?_ _
         have HN:=yh (show StInv w W8 l (j + 1) (.slice p6 n6 c6) from ⟨by rw [HKP.out,if_neg HK0.out];exact a2,hmet,hbl,HST.out (by rw [hok,HN0.out,HSV.out];rfl)⟩)
         clear hb36 hx6 k0 hlv hcall hS0 hS hsz3 hbl hmet a2
         go_wp2
         go_roundw
         case rel=>exact ⟨j + 1,_,_,_,hlt1,by go_num,rfl,HN⟩
         case measure=>simp [intOf];omega
  ·obtain rfl : j = l.length:=by omega
   have h:=HJ.out
   have hr:=h.row
   have hm:=h.may
   rw [List.take_length] at hr hm
   have hps : PsOk (keepD l):=⟨Nat.le_trans (List.length_filter_le _ _) HO.out.1,fun p hp=>HO.out.2 p (List.mem_filter.1 hp).1⟩
   have HSRT:=yh (sortP_any hr hps)
   have HM:=yh (And.intro hm (And.intro h.below hr))
   clear h hr hm hps HJ
   go_wp2_with (first
    | (go_at_call 103
       (
        refine HSRT.out.mono ?_
        rintro e W2 ⟨rfl,l',hp,hs,ho,hT⟩
        have hb2 : Below w.heap.size w W2:=hT.below HM.out.2.1 (fun b hb e=>by have:=(HM.out.2.2.lt b e).2;omega) HM.out.2.1.size
        have HR:=yh (And.intro hb2 (And.intro (sort_store HM.out.1 hp hs) (ho.own Ka6)))
        clear hp hs ho hT hb2)))
   go_ret2
   refine ⟨HR.out.1,fun h=>absurd (h.symm.trans HM.out.1) (by decide),fun _=>⟨_,rfl,?_⟩⟩
   have ho:=HR.out.2.2
   rw [HR.out.2.1] at ho
   exact ho.imp Ka6 fun b _ hb=>by omega
theorem badName2_any {w : World} (hE : Env w) (s : List UInt8) (hs : s.length ≤ 140737488355328) : Calls Tryz.prog 48 #[.string (strB s)] w fun e w'=>e = .returned (.bool (!okNm s)) ∧ Below w.heap.size w w':=by
 have HV:=yh (Kca hE s hs)
 clear hE
 generalize okNm s = r at *
 go_enter Tryz.func48,Tryz.ntmps48
 go_wp2_with (go_at_call 49;refine HV.out.mono ?_;rintro e W1 ⟨rfl,hb⟩;have HB:=yh hb;clear hb)
 go_ret
 exact ⟨rfl,HB.out⟩
theorem badIdx2_any {w : World} (hE : Env w) {p : Option Addr} {c : Nat} {l : List (List UInt8)} (h : RdS w p c l) : Calls Tryz.prog 108 #[.slice p l.length c,.func (.func 48) #[] #[]] w fun e w'=>e = .returned (.int .i64 (badAt l)) ∧ Below w.heap.size w w':=by
 have z1 : (l.length : Int) ≤ 140737488355328:=by have:=h.2.1.1;omega
 have H:=yh h
 have HE:=yh hE
 clear h hE
 go_enter Tryz.func108,Tryz.ntmps108
 go_wp2
 go_loopw [8] (fun i W=>∃ j : Nat,j ≤ l.length ∧ i = .int .i64 (j : Int) ∧ Hid ((l.take j).all okNm = true ∧ Below w.heap.size w W)) (fun i _=>l.length - (intOf i).toNat)
 case atStart=>exact ⟨0,Nat.zero_le _,rfl,yh ⟨by simp,Below.refl _ _⟩⟩
 case round =>
  obtain ⟨j,hj,rfl,HI⟩:=hrel
  by_cases hlt : j < l.length
  ·have hlt1 : j + 1 ≤ l.length:=hlt
   obtain ⟨b,of,rfl,hc,hcl⟩:=(H.out.below HI.out.2).get hlt
   have hone:=badName2_any (HE.out.b HI.out.2) l[j] hcl
   have hst : ∀ r,okNm l[j] = r → (l.take (j + 1)).all okNm = r:=fun r hr=>by
    rw [List.take_succ_eq_append_getElem hlt,List.all_append,HI.out.1];simp [hr]
   have hbd:=badAt_hit hlt HI.out.1
   generalize l[j] = s at *
   have HC:=yh hone
   have HB:=yh HI.out.2
   cases hok : okNm s with
   | true =>
     have HN:=yh (hst true hok)
     rw [hok] at HC
     clear hone hst hbd hok HI
     go_wp2_with (go_at_call 48;refine HC.out.mono ?_;rintro e W2 ⟨rfl,hb⟩;have HB2:=yh (Kaa HB.out hb);clear hb)
     go_roundw
     case rel=>exact ⟨j + 1,hlt1,by go_num,yh ⟨HN.out,HB2.out⟩⟩
     case measure=>simp [intOf];omega
   | false =>
     have HN:=yh (hbd hok)
     rw [hok] at HC
     clear hone hst hbd hok HI
     go_wp2_with (go_at_call 48;refine HC.out.mono ?_;rintro e W2 ⟨rfl,hb⟩;have HB2:=yh (Kaa HB.out hb);clear hb)
     go_ret
     exact ⟨by rw [HN.out];rfl,HB2.out⟩
  ·obtain rfl : j = l.length:=by omega
   have hall:=HI.out.1
   rw [List.take_length] at hall
   have HF:=yh (And.intro (badAt_none hall) HI.out.2)
   clear HI hall
   go_wp2
   go_ret
   exact ⟨by rw [HF.out.1];rfl,HF.out.2⟩
theorem hasBad2_any {w : World} (hE : Env w) {p : Option Addr} {c : Nat} {l : List (List UInt8)} (h : RdS w p c l) : Calls Tryz.prog 47 #[.slice p l.length c,.func (.func 48) #[] #[]] w fun e w'=>e = .returned (.bool (!(l.all okNm))) ∧ Below w.heap.size w w':=by
 have HV:=yh (badIdx2_any hE h)
 have HG:=yh (badAt_ge l)
 generalize l.all okNm = r at *
 clear hE h
 go_enter Tryz.func47,Tryz.ntmps47
 go_wp2_with (go_at_call 108;refine HV.out.mono ?_;rintro e W1 ⟨rfl,hb⟩;have HB:=yh hb;clear hb)
 go_ret
 refine ⟨?_,HB.out⟩
 rw [← HG.out];rfl
theorem exec_lenN {a : Act} {w : World} {o : Oper} {x : Operand} {b : Nat} {es : Array MapEntry} {clk : Nat} {n : Nat} (ho : o.op = .call { callee:=.builtin .len,args:=#[x],argTypes:=#[68] }) (hx : a.eval x = .map (some b)) (hb : w.heap[b]? = some (.map es clk)) (hn : es.size = n) : (execOp a.eval o).run Tryz.prog w = .ok (.value (.int .i64 (n : Int))) w:=by
 unfold execOp
 simp only [ho,resolve,invoke,builtin,Sem.run_bind,Sem.run_pure,Result.andThen_ok,List.map_toArray,List.map_cons,List.map_nil,hx]
 have hg : (getObj b).run Tryz.prog w = .ok (.map es clk) w:=by simp [getObj,Sem.run,hb]
 simp [Builtin.len_,run_underlying Tryz.underlying68,hg,goInt,Result.andThen,hn]
theorem exec_lenR {a : Act} {w : World} {o : Oper} {x : Operand} {b : Nat} {es : Array MapEntry} {clk : Nat} {n : Nat} (ho : o.op = .call { callee:=.builtin .len,args:=#[x],argTypes:=#[69] }) (hx : a.eval x = .map (some b)) (hb : w.heap[b]? = some (.map es clk)) (hn : es.size = n) : (execOp a.eval o).run Tryz.prog w = .ok (.value (.int .i64 (n : Int))) w:=by
 unfold execOp
 simp only [ho,resolve,invoke,builtin,Sem.run_bind,Sem.run_pure,Result.andThen_ok,List.map_toArray,List.map_cons,List.map_nil,hx]
 have hg : (getObj b).run Tryz.prog w = .ok (.map es clk) w:=by simp [getObj,Sem.run,hb]
 simp [Builtin.len_,run_underlying Tryz.underlying69,hg,goInt,Result.andThen,hn]
theorem add_ints {i j : Nat} (h : i + j ≤ 281474976710656) (W : World) : (binOp .add 3 (.int .i64 (i : Int)) (.int .i64 (j : Int))).run Tryz.prog W = .ok (.int .i64 ((i + j : Nat) : Int)) W:=by
 have e : IntKind.i64.wrap ((i : Int) + (j : Int)) = ((i + j : Nat) : Int):=by rw [IntKind.wrap_i64];omega
 simp [go_sem,e]
theorem geq_most {i : Nat} (W : World) : (binOp .geq 3 (.int .i64 (i : Int)) (.int .i64 65536)).run Tryz.prog W = .ok (.bool (decide (65536 ≤ i))) W:=by
 have e : decide ((65536 : Int) ≤ (i : Int)) = decide (65536 ≤ i):=by rw [Bool.eq_iff_iff];simp;omega
 simp [go_sem,e]
theorem geq_next {n : Int} (W : World) : (binOp .geq 2 (.int .i64 n) (.int .i64 4611686018427387904)).run Tryz.prog W = .ok (.bool (decide (4611686018427387904 ≤ n))) W:=by
 simp [go_sem]
theorem full_any {S : Nat → Prop} {w : World} {B : GB} {ma : Int → Option Value} {s : GS} (h : GM S w B ma s) (hl : s.nodes.length + s.rels.length ≤ 1100000) (next : Int) : Calls Tryz.prog 50 #[.pointer (some ⟨B.gx,0,none⟩),.int .i64 next] w fun e w'=>e = .returned (.bool (fullD s.graph next)) ∧ Below w.heap.size w w':=by
 obtain ⟨e1,c1,hn,hn2⟩:=h.nodes.entries
 obtain ⟨e2,c2,hr,hr2⟩:=h.rels.entries
 have hadd:=add_ints (i:=s.nodes.length) (j:=s.rels.length) (by omega)
 have hge:=geq_most (i:=s.nodes.length + s.rels.length)
 have hgn:=geq_next (n:=next)
 have hF : fullD s.graph next = (decide (65536 ≤ s.nodes.length + s.rels.length) || decide (4611686018427387904 ≤ next)):=rfl
 have hS0 : w.heap[B.gx]? = some (.cells (gBoxV B s) 72 (0,0)) ∧ w.heap[B.bn]? = some (.map e1 c1) ∧ w.heap[B.br]? = some (.map e2 c2):=⟨h.box,hn,hr⟩
 have HX:=yh (And.intro hadd (And.intro hge (And.intro hgn (And.intro hn2 (And.intro hr2 hS0)))))
 have HF:=yh hF
 clear h hn hr hadd hge hgn hn2 hr2 hS0 hF
 go_enter Tryz.func50,Tryz.ntmps50
 go_wp2
 obtain ⟨hadd,hge,hgn,hn2,hr2,hS0⟩:=HX.out
 cases hc : decide (65536 ≤ s.nodes.length + s.rels.length) with
 | true =>
   rw [hc] at hge
   refine Kaf (fun W=>W.heap[B.gx]? = some (.cells (gBoxV B s) 72 (0,0)) ∧ W.heap[B.bn]? = some (.map e1 c1) ∧ W.heap[B.br]? = some (.map e2 c2)) (by kernel_rfl) hS0 (fun hS=>?_)
   refine tk 0 5 (v:=.pointer (some ⟨B.gx,0,none⟩)) rfl rfl (fun W hW=>Kab rfl rfl) ?_
   simp only [Act.put,sA,sZ,sS]
   refine tk 1 6 (v:=.pointer (some ⟨B.gx,0,none⟩)) rfl rfl (fun W hW=>rfl) ?_
   simp only [Act.put,sA,sZ,sS]
   refine tk 2 7 (v:=.pointer (some ⟨B.gx,0,none⟩)) rfl rfl (fun W hW=>Kac rfl rfl (Kbf 0 (by omega) _ W)) ?_
   simp only [Act.put,sA,sZ,sS]
   refine tk 3 8 (v:=.map (some B.bn)) rfl rfl (fun W hW=>Kad rfl rfl (Kae (w:=W) Tryz.underlying68 rfl (Kah (o:=0) hW.1 rfl))) ?_
   simp only [Act.put,sA,sZ,sS]
   refine tk 4 9 (v:=.int .i64 (s.nodes.length : Int)) rfl rfl (fun W hW=>exec_lenN rfl rfl hW.2.1 hn2) ?_
   simp only [Act.put,sA,sZ,sS]
   refine tk 5 10 (v:=.pointer (some ⟨B.gx,0,none⟩)) rfl rfl (fun W hW=>Kab rfl rfl) ?_
   simp only [Act.put,sA,sZ,sS]
   refine tk 6 11 (v:=.pointer (some ⟨B.gx,0,none⟩)) rfl rfl (fun W hW=>rfl) ?_
   simp only [Act.put,sA,sZ,sS]
   refine tk 7 12 (v:=.pointer (some ⟨B.gx,1,none⟩)) rfl rfl (fun W hW=>Kac rfl rfl (Kbf 1 (by omega) _ W)) ?_
   simp only [Act.put,sA,sZ,sS]
   refine tk 8 13 (v:=.map (some B.br)) rfl rfl (fun W hW=>Kad rfl rfl (Kae (w:=W) Tryz.underlying69 rfl (Kah (o:=1) hW.1 rfl))) ?_
   simp only [Act.put,sA,sZ,sS]
   refine tk 9 14 (v:=.int .i64 (s.rels.length : Int)) rfl rfl (fun W hW=>exec_lenR rfl rfl hW.2.2 hr2) ?_
   simp only [Act.put,sA,sZ,sS]
   refine tk 10 15 (v:=.int .i64 ((s.nodes.length + s.rels.length : Nat) : Int)) rfl rfl (fun W hW=>Kal rfl rfl rfl (hadd W)) ?_
   simp only [Act.put,sA,sZ,sS]
   refine tk 11 16 (v:=.bool true) rfl rfl (fun W hW=>Kal rfl rfl rfl (hge W)) ?_
   simp only [Act.put,sA,sZ,sS]
   refine tk 12 17 (v:=.bool true) rfl rfl (fun W hW=>Kab rfl rfl) ?_
   simp only [Act.put,sA,sZ,sS]
   refine tn 13 18 rfl rfl ?_
   simp only [Act.put,sA,sZ,sS]
   refine tn 14 19 rfl rfl ?_
   simp only [Act.put,sA,sZ,sS]
   refine tk 15 20 (v:=.bool true) rfl rfl (fun W hW=>rfl) ?_
   simp only [Act.put,sA,sZ,sS]
   refine tk 16 4 (v:=.bool true) rfl rfl (fun W hW=>Ka1 rfl rfl) ?_
   simp only [Act.put,sA,sZ,sS]
   refine done (by kernel_rfl) ?_ _
   clear hadd hge hgn hn2 hr2 hS0 hS HX
   go_wp2
   go_ret
   exact ⟨by rw [HF.out,hc];rfl,(Below.refl _ w).drew⟩
 | false =>
   rw [hc] at hge
   refine Kaf (fun W=>W.heap[B.gx]? = some (.cells (gBoxV B s) 72 (0,0)) ∧ W.heap[B.bn]? = some (.map e1 c1) ∧ W.heap[B.br]? = some (.map e2 c2)) (by kernel_rfl) hS0 (fun hS=>?_)
   refine tk 0 5 (v:=.pointer (some ⟨B.gx,0,none⟩)) rfl rfl (fun W hW=>Kab rfl rfl) ?_
   simp only [Act.put,sA,sZ,sS]
   refine tk 1 6 (v:=.pointer (some ⟨B.gx,0,none⟩)) rfl rfl (fun W hW=>rfl) ?_
   simp only [Act.put,sA,sZ,sS]
   refine tk 2 7 (v:=.pointer (some ⟨B.gx,0,none⟩)) rfl rfl (fun W hW=>Kac rfl rfl (Kbf 0 (by omega) _ W)) ?_
   simp only [Act.put,sA,sZ,sS]
   refine tk 3 8 (v:=.map (some B.bn)) rfl rfl (fun W hW=>Kad rfl rfl (Kae (w:=W) Tryz.underlying68 rfl (Kah (o:=0) hW.1 rfl))) ?_
   simp only [Act.put,sA,sZ,sS]
   refine tk 4 9 (v:=.int .i64 (s.nodes.length : Int)) rfl rfl (fun W hW=>exec_lenN rfl rfl hW.2.1 hn2) ?_
   simp only [Act.put,sA,sZ,sS]
   refine tk 5 10 (v:=.pointer (some ⟨B.gx,0,none⟩)) rfl rfl (fun W hW=>Kab rfl rfl) ?_
   simp only [Act.put,sA,sZ,sS]
   refine tk 6 11 (v:=.pointer (some ⟨B.gx,0,none⟩)) rfl rfl (fun W hW=>rfl) ?_
   simp only [Act.put,sA,sZ,sS]
   refine tk 7 12 (v:=.pointer (some ⟨B.gx,1,none⟩)) rfl rfl (fun W hW=>Kac rfl rfl (Kbf 1 (by omega) _ W)) ?_
   simp only [Act.put,sA,sZ,sS]
   refine tk 8 13 (v:=.map (some B.br)) rfl rfl (fun W hW=>Kad rfl rfl (Kae (w:=W) Tryz.underlying69 rfl (Kah (o:=1) hW.1 rfl))) ?_
   simp only [Act.put,sA,sZ,sS]
   refine tk 9 14 (v:=.int .i64 (s.rels.length : Int)) rfl rfl (fun W hW=>exec_lenR rfl rfl hW.2.2 hr2) ?_
   simp only [Act.put,sA,sZ,sS]
   refine tk 10 15 (v:=.int .i64 ((s.nodes.length + s.rels.length : Nat) : Int)) rfl rfl (fun W hW=>Kal rfl rfl rfl (hadd W)) ?_
   simp only [Act.put,sA,sZ,sS]
   refine tk 11 16 (v:=.bool false) rfl rfl (fun W hW=>Kal rfl rfl rfl (hge W)) ?_
   simp only [Act.put,sA,sZ,sS]
   refine tk 12 17 (v:=.bool false) rfl rfl (fun W hW=>Kab rfl rfl) ?_
   simp only [Act.put,sA,sZ,sS]
   refine tk 13 18 (v:=.int .i64 next) rfl rfl (fun W hW=>Kab rfl rfl) ?_
   simp only [Act.put,sA,sZ,sS]
   refine tk 14 19 (v:=.bool (decide (4611686018427387904 ≤ next))) rfl rfl (fun W hW=>Kal rfl rfl rfl (hgn W)) ?_
   simp only [Act.put,sA,sZ,sS]
   refine tk 15 20 (v:=.bool (decide (4611686018427387904 ≤ next))) rfl rfl (fun W hW=>rfl) ?_
   simp only [Act.put,sA,sZ,sS]
   refine tk 16 4 (v:=.bool (decide (4611686018427387904 ≤ next))) rfl rfl (fun W hW=>Ka1 rfl rfl) ?_
   simp only [Act.put,sA,sZ,sS]
   refine done (by kernel_rfl) ?_ _
   clear hadd hge hgn hn2 hr2 hS0 hS HX
   go_wp2
   go_ret
   exact ⟨by rw [HF.out,hc];rfl,(Below.refl _ w).drew⟩
theorem all_texts (l : List (List UInt8)) : (Kcb id l []).all okNm = l.all okNm:=by
 rw [Bool.eq_iff_iff,List.all_eq_true,List.all_eq_true]
 have h:=mem_texts l List.Pairwise.nil
 exact ⟨fun g x hx=>g x ((h x).2 (.inl hx)),fun g x hx=>g x (by simpa using (h x).1 hx)⟩
def GDone (S : Nat → Prop) (w w' : World) (B : GB) (ma : Int → Option Value) (s : GS) : Prop:=GM S w' B ma s ∧ Touch S w w'
theorem GDone.below {S : Nat → Prop} {w w' : World} {B : GB} {ma : Int → Option Value} {s : GS} (h : GM S w B ma s) (g : Below w.heap.size w w') : GDone S w w' B ma s:=⟨h.below g,Kbb g⟩
theorem GDone.then {S : Nat → Prop} {w w1 w2 : World} {B : GB} {ma : Int → Option Value} {s : GS} (h : GDone S w w1 B ma s) (g : Below w1.heap.size w1 w2) : GDone S w w2 B ma s:=⟨h.1.below g,h.2.grow g⟩
theorem addNode_any {S : Nat → Prop} {w : World} {B : GB} {ma : Int → Option Value} {s : GS} (hE : Env w) (h : GM S w B ma s) (hS : ∀ b,w.heap.size ≤ b → S b) (hok : okG s.graph = true) {pl : Option Addr} {cl : Nat} {labels : List (List UInt8)} (hl : RdS w pl cl labels) (hl1 : labels.length ≤ 1100000) {pp : Option Addr} {cp : Nat} {props : List PropD} (hp : GRd PRd 7 w pp cp props) (hp1 : PsOk props) :
 Calls Tryz.prog 15 #[.pointer (some ⟨B.gx,0,none⟩),.slice pl labels.length cl,.slice pp props.length cp] w fun e w'=>e = .returned (.tuple #[.int .i64 (Kb4 s.graph labels props).2.1,.int .i64 (Kb4 s.graph labels props).2.2]) ∧ GDone S w w' B ma (sOf (Kb4 s.graph labels props).1 s.adj):=by
 obtain ⟨⟨k1,k2,k3,k4,k5⟩,k6,k7,k8,k9⟩:=(okG_iff _).1 hok
 have hsz : s.nodes.length + s.rels.length ≤ 1100000:=Nat.le_trans k1 (by decide)
 have hn0 : 0 ≤ s.nn:=k2
 have hn1 : s.nn ≤ 4611686018427387904:=k3
 have hlast : ∀ n : NodeD,n.id = s.nn → putBy NodeD.id n s.nodes = s.nodes ++ [n]:=fun n e=>putBy_end NodeD.id fun a ha=>by rw [e];exact (k6 a ha).2
 have HST:=yh (stored_any hE hp hp1)
 have HNO:=yh (none_no h.box)
 have HCL:=yh (fun W (g : Below w.heap.size w W)=>clone_any (hl.below g) hl1)
 have hstr : ∀ x ∈ labels,x.length ≤ 140737488355328:=hl.2.2.2.1
 have HX:=yh (And.intro hE (And.intro h (And.intro hS (And.intro hsz (And.intro hlast (And.intro hl1 hstr))))))
 have hD : Kb4 s.graph labels props = if labels.all okNm = false ∨ Kbq props = false then (s.graph,0,2) else if fullD s.graph s.nn = true then (s.graph,0,151) else (⟨s.nodes ++ [⟨s.nn,Kcb id labels [],Kbi props⟩],s.rels,s.nn + 1,s.nr⟩,s.nn,0):=rfl
 have HD:=yh hD
 clear hok k1 k2 k3 k4 k5 k6 k7 k8 k9 hl hp hp1 hE h hS hsz hlast hD hl1 hstr
 cases hms : Kbq props with
 | false =>
   have hr : Kb4 s.graph labels props = (s.graph,0,2):=by rw [HD.out,if_pos (.inr hms)]
   rw [hr]
   have HMS:=yh hms
   clear hms hr HD
   go_enter Tryz.func15,Tryz.ntmps15
   go_wp2_with (first
    | (go_at_call 42;refine HNO.out.mono ?_;rintro e w0 ⟨rfl,hw0⟩;have hw0:=hw0.symm;subst hw0)
    | (go_at_call 43
       (
        refine HST.out.mono ?_
        rintro e w1 ⟨hb,h1,_⟩
        obtain rfl:=h1 HMS.out
        have HB1:=yh hb
        clear hb h1))
    | (go_at_call 44
       (
        refine (HCL.out _ HB1.out).mono ?_
        rintro e w2 ⟨v,rfl,ho,hb⟩
        obtain ⟨pv,cv,rfl⟩:=Kbp ho
        have HO2:=yh ho
        have HB2:=yh hb
        clear ho hb))
    | (go_at_call 45
       (
        refine (sortS_any HO2.out HX.out.2.2.2.2.2.1).mono ?_
        rintro e w3 ⟨rfl,l3,hp3,hs3,ho3,hT3⟩
        have hb3 : Below w1.heap.size w1 w3:=hT3.below HB2.out (fun b hb e=>by have:=HO2.out.2 b e;omega) HB2.out.size
        have hl3 : l3.length ≤ 1100000:=by rw [hp3.length_eq];exact HX.out.2.2.2.2.2.1
        have HO3:=yh (And.intro ho3 (And.intro hl3 hb3))
        clear hp3 hs3 ho3 hT3 hb3 hl3))
    | (go_at_call 46
       (
        refine (Kdf HO3.out.1 HO3.out.2.1).mono ?_
        rintro e w4 ⟨v4,rfl,ho4,hT4⟩
        have hb4 : Below w1.heap.size w1 w4:=hT4.below HO3.out.2.2 (fun b hb e=>by have:=HO3.out.1.2 b e;omega) HO3.out.2.2.size
        have HB4:=yh (Kaa HB1.out hb4)
        clear ho4 hT4 hb4)))
   go_ret2
   exact ⟨rfl,GDone.below HX.out.2.1 HB4.out⟩
 | true =>
   have HMS:=yh hms
   cases hall : labels.all okNm with
   | false =>
     have hr : Kb4 s.graph labels props = (s.graph,0,2):=by rw [HD.out,if_pos (.inl hall)]
     rw [hr]
     have HALL:=yh (show (Kcb id labels []).all okNm = false by rw [all_texts];exact hall)
     clear hms hall hr HD
     go_enter Tryz.func15,Tryz.ntmps15
     go_wp2_with (first
      | (go_at_call 42;refine HNO.out.mono ?_;rintro e w0 ⟨rfl,hw0⟩;have hw0:=hw0.symm;subst hw0)
      | (go_at_call 43
         (
          refine HST.out.mono ?_
          rintro e w1 ⟨hb,_,h1⟩
          obtain ⟨v1,rfl,ho1⟩:=h1 HMS.out
          obtain ⟨pv1,cv1,rfl⟩:=ho1.slice
          have HO1:=yh ho1
          have HB1:=yh hb
          clear hb h1 ho1))
      | (go_at_call 44
         (
          refine (HCL.out _ HB1.out).mono ?_
          rintro e w2 ⟨v,rfl,ho,hb⟩
          obtain ⟨pv,cv,rfl⟩:=Kbp ho
          have HO2:=yh ho
          have HB2:=yh hb
          clear ho hb))
      | (go_at_call 45
         (
          refine (sortS_any HO2.out HX.out.2.2.2.2.2.1).mono ?_
          rintro e w3 ⟨rfl,l3,hp3,hs3,ho3,hT3⟩
          have hb3 : Below w1.heap.size w1 w3:=hT3.below HB2.out (fun b hb e=>by have:=HO2.out.2 b e;omega) HB2.out.size
          have hl3 : l3.length ≤ 1100000:=by rw [hp3.length_eq];exact HX.out.2.2.2.2.2.1
          have hcp:=Kea hp3 hs3
          have HO3:=yh (And.intro ho3 (And.intro hl3 (And.intro hb3 hcp)))
          clear hp3 hs3 ho3 hT3 hb3 hl3 hcp))
      | (go_at_call 46
         (
          have hcc:=Kdf HO3.out.1 HO3.out.2.1
          rw [HO3.out.2.2.2] at hcc
          refine hcc.mono ?_
          rintro e w4 ⟨v4,rfl,ho4,hT4⟩
          have hb4 : Below w1.heap.size w1 w4:=hT4.below HO3.out.2.2.1 (fun b hb e=>by have:=HO3.out.1.2 b e;omega) HO3.out.2.2.1.size
          have hlen4:=Kd1 l3
          rw [HO3.out.2.2.2] at hlen4
          obtain ⟨p4,c4,rfl,hrd4⟩:=Kc8 ho4 (by have:=HO3.out.2.1;omega) (fun x hx=>HX.out.2.2.2.2.2.2 x (by simpa using (mem_texts labels List.Pairwise.nil x).1 hx))
          have HN4:=yh (And.intro ((ho4.imp (P':=fun b=>w.heap.size ≤ b) fun b _ hb=>by have:=HB1.out.size;omega)) (HO1.out.below Ka6 hb4))
          have HR4:=yh hrd4
          have HB4:=yh (Kaa HB1.out hb4)
          clear ho4 hT4 hb4 hlen4 hrd4 hcc))
      | (go_at_call 47
         (
          have hcb:=hasBad2_any (HX.out.1.b HB4.out) HR4.out
          rw [HALL.out] at hcb
          refine hcb.mono ?_
          rintro e w5 ⟨rfl,hb⟩
          have HB5:=yh (Kaa HB4.out hb)
          clear hb hcb)))
     go_ret2
     exact ⟨rfl,GDone.below HX.out.2.1 HB5.out⟩
   | true =>
     have HALL:=yh (show (Kcb id labels []).all okNm = true by rw [all_texts];exact hall)
     have hr0 : ¬ (labels.all okNm = false ∨ Kbq props = false):=by rw [hall,hms];simp
     cases hfl : fullD s.graph s.nn with
     | true =>
       have hr : Kb4 s.graph labels props = (s.graph,0,151):=by rw [HD.out,if_neg hr0,if_pos hfl]
       rw [hr]
       have HFL:=yh hfl
       clear hms hall hr HD hr0 hfl
       go_enter Tryz.func15,Tryz.ntmps15
       go_wp2_with (first
        | (go_at_call 42;refine HNO.out.mono ?_;rintro e w0 ⟨rfl,hw0⟩;have hw0:=hw0.symm;subst hw0)
        | (go_at_call 43
           (
            refine HST.out.mono ?_
            rintro e w1 ⟨hb,_,h1⟩
            obtain ⟨v1,rfl,ho1⟩:=h1 HMS.out
            obtain ⟨pv1,cv1,rfl⟩:=ho1.slice
            have HO1:=yh ho1
            have HB1:=yh hb
            clear hb h1 ho1))
        | (go_at_call 44
           (
            refine (HCL.out _ HB1.out).mono ?_
            rintro e w2 ⟨v,rfl,ho,hb⟩
            obtain ⟨pv,cv,rfl⟩:=Kbp ho
            have HO2:=yh ho
            have HB2:=yh hb
            clear ho hb))
        | (go_at_call 45
           (
            refine (sortS_any HO2.out HX.out.2.2.2.2.2.1).mono ?_
            rintro e w3 ⟨rfl,l3,hp3,hs3,ho3,hT3⟩
            have hb3 : Below w1.heap.size w1 w3:=hT3.below HB2.out (fun b hb e=>by have:=HO2.out.2 b e;omega) HB2.out.size
            have hl3 : l3.length ≤ 1100000:=by rw [hp3.length_eq];exact HX.out.2.2.2.2.2.1
            have hcp:=Kea hp3 hs3
            have HO3:=yh (And.intro ho3 (And.intro hl3 (And.intro hb3 hcp)))
            clear hp3 hs3 ho3 hT3 hb3 hl3 hcp))
        | (go_at_call 46
           (
            have hcc:=Kdf HO3.out.1 HO3.out.2.1
            rw [HO3.out.2.2.2] at hcc
            refine hcc.mono ?_
            rintro e w4 ⟨v4,rfl,ho4,hT4⟩
            have hb4 : Below w1.heap.size w1 w4:=hT4.below HO3.out.2.2.1 (fun b hb e=>by have:=HO3.out.1.2 b e;omega) HO3.out.2.2.1.size
            have hlen4:=Kd1 l3
            rw [HO3.out.2.2.2] at hlen4
            obtain ⟨p4,c4,rfl,hrd4⟩:=Kc8 ho4 (by have:=HO3.out.2.1;omega) (fun x hx=>HX.out.2.2.2.2.2.2 x (by simpa using (mem_texts labels List.Pairwise.nil x).1 hx))
            have HN4:=yh (And.intro ((ho4.imp (P':=fun b=>w.heap.size ≤ b) fun b _ hb=>by have:=HB1.out.size;omega)) (HO1.out.below Ka6 hb4))
            have HR4:=yh hrd4
            have HB4:=yh (Kaa HB1.out hb4)
            clear ho4 hT4 hb4 hlen4 hrd4 hcc))
        | (go_at_call 47
           (
            have hcb:=hasBad2_any (HX.out.1.b HB4.out) HR4.out
            rw [HALL.out] at hcb
            refine hcb.mono ?_
            rintro e w5 ⟨rfl,hb⟩
            have HB5:=yh (Kaa HB4.out hb)
            have p3 : w5.cell? ⟨B.gx,3,none⟩ = some (.int .i64 s.nn):=Kah (o:=3) (HX.out.2.1.below HB5.out).box rfl
            clear hb hcb))
        | (go_at_call 50
           (
            have hfu:=full_any (HX.out.2.1.below HB5.out) HX.out.2.2.2.1 s.nn
            rw [HFL.out] at hfu
            refine hfu.mono ?_
            rintro e w6 ⟨rfl,hb⟩
            have HB6:=yh (Kaa HB5.out hb)
            clear hb hfu)))
       go_ret2
       exact ⟨rfl,GDone.below HX.out.2.1 HB6.out⟩
     | false =>
       have hr : Kb4 s.graph labels props = (⟨s.nodes ++ [⟨s.nn,Kcb id labels [],Kbi props⟩],s.rels,s.nn + 1,s.nr⟩,s.nn,0):=by rw [HD.out,if_neg hr0,hfl,if_neg (by simp)]
       rw [hr]
       have HFL:=yh hfl
       have hnl : s.nn < 4611686018427387904:=by
        unfold fullD at hfl
        simp only [Bool.or_eq_false_iff,decide_eq_false_iff_not] at hfl
        omega
       have hw1 : IntKind.i64.wrap (s.nn + 1) = s.nn + 1:=by rw [IntKind.wrap_i64];omega
       have HNN:=yh (show i64R s.nn by unfold i64R;omega)
       clear hms hall hr HD hr0 hfl hnl hn0 hn1
       go_enter Tryz.func15,Tryz.ntmps15
       go_wp2_with (first
        | (go_at_call 42;refine HNO.out.mono ?_;rintro e w0 ⟨rfl,hw0⟩;have hw0:=hw0.symm;subst hw0)
        | (go_at_call 43
           (
            refine HST.out.mono ?_
            rintro e w1 ⟨hb,_,h1⟩
            obtain ⟨v1,rfl,ho1⟩:=h1 HMS.out
            obtain ⟨pv1,cv1,rfl⟩:=ho1.slice
            have HO1:=yh ho1
            have HB1:=yh hb
            clear hb h1 ho1))
        | (go_at_call 44
           (
            refine (HCL.out _ HB1.out).mono ?_
            rintro e w2 ⟨v,rfl,ho,hb⟩
            obtain ⟨pv,cv,rfl⟩:=Kbp ho
            have HO2:=yh ho
            have HB2:=yh hb
            clear ho hb))
        | (go_at_call 45
           (
            refine (sortS_any HO2.out HX.out.2.2.2.2.2.1).mono ?_
            rintro e w3 ⟨rfl,l3,hp3,hs3,ho3,hT3⟩
            have hb3 : Below w1.heap.size w1 w3:=hT3.below HB2.out (fun b hb e=>by have:=HO2.out.2 b e;omega) HB2.out.size
            have hl3 : l3.length ≤ 1100000:=by rw [hp3.length_eq];exact HX.out.2.2.2.2.2.1
            have hcp:=Kea hp3 hs3
            have HO3:=yh (And.intro ho3 (And.intro hl3 (And.intro hb3 hcp)))
            clear hp3 hs3 ho3 hT3 hb3 hl3 hcp))
        | (go_at_call 46
           (
            have hcc:=Kdf HO3.out.1 HO3.out.2.1
            rw [HO3.out.2.2.2] at hcc
            refine hcc.mono ?_
            rintro e w4 ⟨v4,rfl,ho4,hT4⟩
            have hb4 : Below w1.heap.size w1 w4:=hT4.below HO3.out.2.2.1 (fun b hb e=>by have:=HO3.out.1.2 b e;omega) HO3.out.2.2.1.size
            have hlen4:=Kd1 l3
            rw [HO3.out.2.2.2] at hlen4
            obtain ⟨p4,c4,rfl,hrd4⟩:=Kc8 ho4 (by have:=HO3.out.2.1;omega) (fun x hx=>HX.out.2.2.2.2.2.2 x (by simpa using (mem_texts labels List.Pairwise.nil x).1 hx))
            have HN4:=yh (And.intro ((ho4.imp (P':=fun b=>w.heap.size ≤ b) fun b _ hb=>by have:=HB1.out.size;omega)) (HO1.out.below Ka6 hb4))
            have HR4:=yh hrd4
            have HB4:=yh (Kaa HB1.out hb4)
            clear ho4 hT4 hb4 hlen4 hrd4 hcc))
        | (go_at_call 47
           (
            have hcb:=hasBad2_any (HX.out.1.b HB4.out) HR4.out
            rw [HALL.out] at hcb
            refine hcb.mono ?_
            rintro e w5 ⟨rfl,hb⟩
            have HB5:=yh (Kaa HB4.out hb)
            have HB45:=yh hb
            have p3 : w5.cell? ⟨B.gx,3,none⟩ = some (.int .i64 s.nn):=Kah (o:=3) (HX.out.2.1.below HB5.out).box rfl
            clear hb hcb))
        | (go_at_call 50
           (
            have hfu:=full_any (HX.out.2.1.below HB5.out) HX.out.2.2.2.1 s.nn
            rw [HFL.out] at hfu
            refine hfu.mono ?_
            rintro e w6 ⟨rfl,hb⟩
            have hb6:=Kaa HB5.out hb
            have hg6:=HX.out.2.1.below hb6
            have p36 : w6.cell? ⟨B.gx,3,none⟩ = some (.int .i64 s.nn):=Kah (o:=3) hg6.box rfl
            have p06 : w6.cell? ⟨B.gx,0,none⟩ = some (.map (some B.bn)):=Kah (o:=0) hg6.box rfl
            have hb46:=Kaa HB45.out hb
            have hx : NOwn w6 (fun b=>w.heap.size ≤ b) ⟨s.nn,Kcb id labels [],Kbi props⟩ #[.int .i64 s.nn,.slice p4 (Kcb id labels []).length c4,.slice pv1 (Kbi props).length cv1]:=⟨_,_,rfl,(HN4.out.1.keep fun b _ hb=>hb46.block b hb).imp fun b _ hb=>hb,HN4.out.2.below Ka6 hb46⟩
            obtain ⟨w7,r1,r2,r3,r4⟩:=HX.out.2.1.putNode HX.out.2.2.1 hb6 hx HNN.out
            obtain ⟨w8,q1,q2,q3,q4⟩:=r2.setNN (s.nn + 1)
            have p37 : w7.cell? ⟨B.gx,3,none⟩ = some (.int .i64 s.nn):=Kah (o:=3) r2.box rfl
            have HU:=yh r1
            have HST2:=yh q1
            have HF:=yh (And.intro q2 (Touch.pre hb6 ((r3.mono (S':=S) fun b _ e=>by rw [e];exact HX.out.2.1.own.2.1).step (q3.mono (S':=S) fun b _ e=>by rw [e];exact HX.out.2.1.own.1) fun b _ hs=>hs)))
            clear hb hfu hb6 hg6 hb46 hx r1 r2 r3 r4 q1 q2 q3 q4))
        | ((with_reducible apply Kb1);exact HU.out;exact rfl;exact rfl;exact rfl;clear HU)
        | ((with_reducible apply Kaq);exact HST2.out;exact rfl;exact rfl;clear HST2))
       go_ret2
       refine ⟨rfl,?_,HF.out.2⟩
       have:=HF.out.1
       rw [HX.out.2.2.2.2.1 _ rfl] at this
       exact this
def nodeZ : Array Value:=#[.int .i64 0,.slice none 0 0,.slice none 0 0]
theorem GM.look {S : Nat → Prop} {W : World} {B : GB} {ma : Int → Option Value} {s : GS} (h : GM S W B ma s) (k : Int) :
 ∃ x,x.size = 3 ∧ (∀ u ∈ x.toList,u.oneCell' = true) ∧ (∀ W' : World,W'.heap[B.bn]? = W.heap[B.bn]? → (Instr.lookup 68 (.map (some B.bn)) (.int .i64 k) true).run Tryz.prog W' = .ok (.tuple #[.agg x,.bool (hasN s.graph k)]) W') ∧ (∀ a ∈ s.nodes,a.id = k → NOwn W (fun b=>S b ∧ ¬ GSp B ma b) a x) ∧ (hasN s.graph k = false → x = nodeZ):=by
 obtain ⟨x,h1,h2,h3⟩:=h.nodes.get2 (P:=Tryz.prog) Tryz.underlying68 Tryz.underlying2 (z:=nodeZ) (fun w=>Tryz.zeroValue45 w) k
 have hh : hasN s.graph k = s.nodes.any fun a=>a.id == k:=rfl
 rw [← hh] at h1 h3
 refine ⟨x,?_,?_,h1,h2,h3⟩
 ·cases hf : hasN s.graph k with
  | false=>rw [h3 hf];rfl
  | true =>
    rw [hh,List.any_eq_true] at hf
    obtain ⟨a,ha,e⟩:=hf
    exact Kax.size (h2 a ha (by simpa using e))
 ·cases hf : hasN s.graph k with
  | false=>rw [h3 hf];simp [nodeZ,Value.oneCell']
  | true =>
    rw [hh,List.any_eq_true] at hf
    obtain ⟨a,ha,e⟩:=hf
    exact Kax.ones (h2 a ha (by simpa using e))
theorem addRel_any {S : Nat → Prop} {w : World} {B : GB} {g : GraphD} (hE : Env w) (hg : GG S w B g) (hS : ∀ b,w.heap.size ≤ b → S b) (hok : okG g = true) (src dst : Int) {type : List UInt8} (hty : type.length ≤ 140737488355328) {pp : Option Addr} {cp : Nat} {props : List PropD} (hp : GRd PRd 7 w pp cp props) (hp1 : PsOk props) :
 Calls Tryz.prog 37 #[.pointer (some ⟨B.gx,0,none⟩),.int .i64 src,.int .i64 dst,.string (strB type),.slice pp props.length cp] w fun e w'=>e = .returned (.tuple #[.int .i64 (addRelD g src dst type props).2.1,.int .i64 (addRelD g src dst type props).2.2]) ∧ GG S w' B (addRelD g src dst type props).1 ∧ Touch S w w':=by
 obtain ⟨ma,h⟩:=hg
 obtain ⟨⟨k1,k2,k3,k4,k5⟩,k6,k7,k8,k9⟩:=(okG_iff _).1 hok
 have hsz : (gsOf g).nodes.length + (gsOf g).rels.length ≤ 1100000:=Nat.le_trans k1 (by decide)
 have hlast : ∀ n : RelD,n.id = g.nextRel → putBy RelD.id n g.rels = g.rels ++ [n]:=fun n e=>putBy_end RelD.id fun a ha=>by rw [e];exact (k8 a ha).2.1
 have hadj : ∀ r : RelD,r.id = g.nextRel → (⟨g.nodes,g.rels ++ [r],linkK (linkK (Kbn g.rels) r.src r.id) r.dst r.id,g.nextNode,g.nextRel⟩ : GS) = gsOf ⟨g.nodes,g.rels ++ [r],g.nextNode,g.nextRel⟩:=fun r e =>
  gsOf_eq (adj_link (s:=gsOf g) (fun j=>rfl) (Kdy _ k9) (fun x hx=>by rw [e];exact (k8 x hx).2.1))
 have hfew : ∀ k,(Kbn g.rels k).length + 3 ≤ 1100000:=fun k=>by have:=touchD_len g.rels k;omega
 have HST:=yh (stored_any hE hp hp1)
 have HNO:=yh (none_no h.box)
 obtain ⟨xa,hza,hoa,hlka,_,_⟩:=h.look src
 obtain ⟨xb,hzb,hob,hlkb,_,_⟩:=h.look dst
 have HX:=yh (And.intro hE (And.intro h (And.intro hS (And.intro hsz (And.intro hlast (And.intro hadj hfew))))))
 have hgr : (gsOf g).graph = g:=rfl
 rw [hgr] at hlka hlkb
 have HD:=yh (show addRelD g src dst type props = if Kbq props = false ∨ okNm type = false then (g,0,2) else if hasN g src = false ∨ hasN g dst = false then (g,0,5) else if fullD g g.nextRel = true then (g,0,151) else (⟨g.nodes,g.rels ++ [⟨g.nextRel,src,dst,type,Kbi props⟩],g.nextNode,g.nextRel + 1⟩,g.nextRel,0) from rfl)
 have HG:=yh (show GG S w B g from ⟨ma,h⟩)
 have HNR:=yh (And.intro k4 k5)
 clear hok k1 k2 k3 k4 k5 k6 k7 k8 k9 hp hp1 hE h hS hsz hlast hadj hfew hgr
 cases hms : Kbq props with
 | false =>
   rw [HD.out,if_pos (.inl hms)]
   have HMS:=yh hms
   clear hms HD hlka hlkb hza hoa hzb hob
   go_enter Tryz.func37,Tryz.ntmps37
   go_wp2_with (first
    | (go_at_call 42;refine HNO.out.mono ?_;rintro e w0 ⟨rfl,hw0⟩;have hw0:=hw0.symm;subst hw0)
    | (go_at_call 43
       (
        refine HST.out.mono ?_
        rintro e w1 ⟨hb,h1,_⟩
        obtain rfl:=h1 HMS.out
        have HB1:=yh hb
        clear hb h1)))
   go_ret2
   exact ⟨rfl,HG.out.below HB1.out,Kbb HB1.out⟩
 | true =>
   have HMS:=yh hms
   cases hnm : okNm type with
   | false =>
     rw [HD.out,if_pos (.inr hnm)]
     have HNM:=yh hnm
     clear hms hnm HD hlka hlkb hza hoa hzb hob
     go_enter Tryz.func37,Tryz.ntmps37
     go_wp2_with (first
      | (go_at_call 42;refine HNO.out.mono ?_;rintro e w0 ⟨rfl,hw0⟩;have hw0:=hw0.symm;subst hw0)
      | (go_at_call 43
         (
          refine HST.out.mono ?_
          rintro e w1 ⟨hb,_,h1⟩
          obtain ⟨v1,rfl,ho1⟩:=h1 HMS.out
          obtain ⟨pv1,cv1,rfl⟩:=ho1.slice
          have HO1:=yh ho1
          have HB1:=yh hb
          clear hb h1 ho1))
      | (go_at_call 49
         (
          have hnm:=Kca (HX.out.1.b HB1.out) type hty
          rw [HNM.out] at hnm
          refine hnm.mono ?_
          rintro e w2 ⟨rfl,hb⟩
          have HB2:=yh (Kaa HB1.out hb)
          have HB12:=yh hb
          clear hb hnm)))
     go_ret2
     exact ⟨rfl,HG.out.below HB2.out,Kbb HB2.out⟩
   | true =>
     have HNM:=yh hnm
     have hr0 : ¬ (Kbq props = false ∨ okNm type = false):=by rw [hms,hnm];simp
     have HR0:=yh hr0
     clear hms hnm hr0
     cases hfa : hasN g src with
     | false =>
       rw [HD.out,if_neg HR0.out,if_pos (.inl hfa)]
       rw [hfa] at hlka
       generalize hasN g dst = fb at *
       clear HD hfa
       go_enter Tryz.func37,Tryz.ntmps37
       go_wp2_with (first
        | (go_at_call 42;refine HNO.out.mono ?_;rintro e w0 ⟨rfl,hw0⟩;have hw0:=hw0.symm;subst hw0)
        | (go_at_call 43
           (
            refine HST.out.mono ?_
            rintro e w1 ⟨hb,_,h1⟩
            obtain ⟨v1,rfl,ho1⟩:=h1 HMS.out
            obtain ⟨pv1,cv1,rfl⟩:=ho1.slice
            have HO1:=yh ho1
            have HB1:=yh hb
            clear hb h1 ho1))
        | (go_at_call 49
           (
            have hnm:=Kca (HX.out.1.b HB1.out) type hty
            rw [HNM.out] at hnm
            refine hnm.mono ?_
            rintro e w2 ⟨rfl,hb⟩
            have HB2:=yh (Kaa HB1.out hb)
            have HB12:=yh hb
            have hg2:=HX.out.2.1.below HB2.out
            have p02 : w2.cell? ⟨B.gx,0,none⟩ = some (.map (some B.bn)):=Kah (o:=0) hg2.box rfl
            have HLKA:=yh (hlka w2 (HB2.out.block _ HX.out.2.1.lts.2.1))
            have HSTA:=yh (StT.fresh (P:=Tryz.prog) (W:=w2) Ka7 hza hoa nodeZ rfl)
            have hn3:=Kai (w:=w2) (.cells xa 45)
            have p03 : (w2.alloc (.cells xa 45)).cell? ⟨B.gx,0,none⟩ = some (.map (some B.bn)):=Kah (o:=0) (hg2.below hn3).box rfl
            have HLKB:=yh (hlkb (w2.alloc (.cells xa 45)) ((hn3.block _ hg2.lts.2.1).trans (HB2.out.block _ HX.out.2.1.lts.2.1)))
            have hstb:=StT.fresh (P:=Tryz.prog) (W:=w2.alloc (.cells xa 45)) Ka7 hzb hob nodeZ rfl
            simp only [World.size_alloc] at hstb
            have HSTB:=yh hstb
            clear hstb
            have hb4 : Below w2.heap.size w2 ((w2.alloc (.cells xa 45)).alloc (.cells xb 45)):=Kaa hn3 (Kai _)
            have hg4:=hg2.below hb4
            have p44 : ((w2.alloc (.cells xa 45)).alloc (.cells xb 45)).cell? ⟨B.gx,4,none⟩ = some (.int .i64 g.nextRel):=Kah (o:=4) hg4.box rfl
            have HBw4:=yh (Kaa HB2.out hb4)
            have HB14:=yh (Kaa HB12.out hb4)
            clear hg2 hn3 hb4 hg4
            clear hb hnm))
        | ((with_reducible apply Ka4);exact HLKA.out;exact rfl;exact rfl;clear HLKA)
        | ((with_reducible apply Ka4);exact HLKB.out;exact rfl;exact rfl;clear HLKB)
        | ((with_reducible apply Kaq);exact HSTA.out;exact rfl;exact rfl;clear HSTA)
        | ((with_reducible apply Kaq);exact HSTB.out;exact rfl;exact rfl;clear HSTB))
       go_ret2
       exact ⟨rfl,HG.out.below HBw4.out,Kbb HBw4.out⟩
     | true =>
       cases hfb : hasN g dst with
       | false =>
         rw [HD.out,if_neg HR0.out,if_pos (.inr hfb)]
         rw [hfa] at hlka
         rw [hfb] at hlkb
         clear HD hfa hfb
         go_enter Tryz.func37,Tryz.ntmps37
         go_wp2_with (first
          | (go_at_call 42;refine HNO.out.mono ?_;rintro e w0 ⟨rfl,hw0⟩;have hw0:=hw0.symm;subst hw0)
          | (go_at_call 43
             (
              refine HST.out.mono ?_
              rintro e w1 ⟨hb,_,h1⟩
              obtain ⟨v1,rfl,ho1⟩:=h1 HMS.out
              obtain ⟨pv1,cv1,rfl⟩:=ho1.slice
              have HO1:=yh ho1
              have HB1:=yh hb
              clear hb h1 ho1))
          | (go_at_call 49
             (
              have hnm:=Kca (HX.out.1.b HB1.out) type hty
              rw [HNM.out] at hnm
              refine hnm.mono ?_
              rintro e w2 ⟨rfl,hb⟩
              have HB2:=yh (Kaa HB1.out hb)
              have HB12:=yh hb
              have hg2:=HX.out.2.1.below HB2.out
              have p02 : w2.cell? ⟨B.gx,0,none⟩ = some (.map (some B.bn)):=Kah (o:=0) hg2.box rfl
              have HLKA:=yh (hlka w2 (HB2.out.block _ HX.out.2.1.lts.2.1))
              have HSTA:=yh (StT.fresh (P:=Tryz.prog) (W:=w2) Ka7 hza hoa nodeZ rfl)
              have hn3:=Kai (w:=w2) (.cells xa 45)
              have p03 : (w2.alloc (.cells xa 45)).cell? ⟨B.gx,0,none⟩ = some (.map (some B.bn)):=Kah (o:=0) (hg2.below hn3).box rfl
              have HLKB:=yh (hlkb (w2.alloc (.cells xa 45)) ((hn3.block _ hg2.lts.2.1).trans (HB2.out.block _ HX.out.2.1.lts.2.1)))
              have hstb:=StT.fresh (P:=Tryz.prog) (W:=w2.alloc (.cells xa 45)) Ka7 hzb hob nodeZ rfl
              simp only [World.size_alloc] at hstb
              have HSTB:=yh hstb
              clear hstb
              have hb4 : Below w2.heap.size w2 ((w2.alloc (.cells xa 45)).alloc (.cells xb 45)):=Kaa hn3 (Kai _)
              have hg4:=hg2.below hb4
              have p44 : ((w2.alloc (.cells xa 45)).alloc (.cells xb 45)).cell? ⟨B.gx,4,none⟩ = some (.int .i64 g.nextRel):=Kah (o:=4) hg4.box rfl
              have HBw4:=yh (Kaa HB2.out hb4)
              have HB14:=yh (Kaa HB12.out hb4)
              clear hg2 hn3 hb4 hg4
              clear hb hnm))
          | ((with_reducible apply Ka4);exact HLKA.out;exact rfl;exact rfl;clear HLKA)
          | ((with_reducible apply Ka4);exact HLKB.out;exact rfl;exact rfl;clear HLKB)
          | ((with_reducible apply Kaq);exact HSTA.out;exact rfl;exact rfl;clear HSTA)
          | ((with_reducible apply Kaq);exact HSTB.out;exact rfl;exact rfl;clear HSTB))
         go_ret2
         exact ⟨rfl,HG.out.below HBw4.out,Kbb HBw4.out⟩
       | true =>
         have hr1 : ¬ (hasN g src = false ∨ hasN g dst = false):=by rw [hfa,hfb];simp
         rw [hfa] at hlka
         rw [hfb] at hlkb
         rw [HD.out,if_neg HR0.out,if_neg hr1]
         clear HD hfa hfb hr1
         cases hfl : fullD g g.nextRel with
         | true =>
           rw [if_pos rfl]
           have HFL:=yh hfl
           clear hfl
           go_enter Tryz.func37,Tryz.ntmps37
           go_wp2_with (first
            | (go_at_call 42;refine HNO.out.mono ?_;rintro e w0 ⟨rfl,hw0⟩;have hw0:=hw0.symm;subst hw0)
            | (go_at_call 43
               (
                refine HST.out.mono ?_
                rintro e w1 ⟨hb,_,h1⟩
                obtain ⟨v1,rfl,ho1⟩:=h1 HMS.out
                obtain ⟨pv1,cv1,rfl⟩:=ho1.slice
                have HO1:=yh ho1
                have HB1:=yh hb
                clear hb h1 ho1))
            | (go_at_call 49
               (
                have hnm:=Kca (HX.out.1.b HB1.out) type hty
                rw [HNM.out] at hnm
                refine hnm.mono ?_
                rintro e w2 ⟨rfl,hb⟩
                have HB2:=yh (Kaa HB1.out hb)
                have HB12:=yh hb
                have hg2:=HX.out.2.1.below HB2.out
                have p02 : w2.cell? ⟨B.gx,0,none⟩ = some (.map (some B.bn)):=Kah (o:=0) hg2.box rfl
                have HLKA:=yh (hlka w2 (HB2.out.block _ HX.out.2.1.lts.2.1))
                have HSTA:=yh (StT.fresh (P:=Tryz.prog) (W:=w2) Ka7 hza hoa nodeZ rfl)
                have hn3:=Kai (w:=w2) (.cells xa 45)
                have p03 : (w2.alloc (.cells xa 45)).cell? ⟨B.gx,0,none⟩ = some (.map (some B.bn)):=Kah (o:=0) (hg2.below hn3).box rfl
                have HLKB:=yh (hlkb (w2.alloc (.cells xa 45)) ((hn3.block _ hg2.lts.2.1).trans (HB2.out.block _ HX.out.2.1.lts.2.1)))
                have hstb:=StT.fresh (P:=Tryz.prog) (W:=w2.alloc (.cells xa 45)) Ka7 hzb hob nodeZ rfl
                simp only [World.size_alloc] at hstb
                have HSTB:=yh hstb
                clear hstb
                have hb4 : Below w2.heap.size w2 ((w2.alloc (.cells xa 45)).alloc (.cells xb 45)):=Kaa hn3 (Kai _)
                have hg4:=hg2.below hb4
                have p44 : ((w2.alloc (.cells xa 45)).alloc (.cells xb 45)).cell? ⟨B.gx,4,none⟩ = some (.int .i64 g.nextRel):=Kah (o:=4) hg4.box rfl
                have HBw4:=yh (Kaa HB2.out hb4)
                have HB14:=yh (Kaa HB12.out hb4)
                clear hg2 hn3 hb4 hg4
                clear hb hnm))
            | ((with_reducible apply Ka4);exact HLKA.out;exact rfl;exact rfl;clear HLKA)
            | ((with_reducible apply Ka4);exact HLKB.out;exact rfl;exact rfl;clear HLKB)
            | ((with_reducible apply Kaq);exact HSTA.out;exact rfl;exact rfl;clear HSTA)
            | ((with_reducible apply Kaq);exact HSTB.out;exact rfl;exact rfl;clear HSTB)
            | (go_at_call 50
               (
                have hfu:=full_any (HX.out.2.1.below HBw4.out) HX.out.2.2.2.1 g.nextRel
                rw [show (gsOf g).graph = g from rfl,HFL.out] at hfu
                refine hfu.mono ?_
                rintro e w6 ⟨rfl,hb⟩
                have HB6:=yh (Kaa HBw4.out hb)
                clear hb hfu)))
           go_ret2
           exact ⟨rfl,HG.out.below HB6.out,Kbb HB6.out⟩
         | false =>
           rw [if_neg (by simp)]
           have HFL:=yh hfl
           have hnl : g.nextRel < 4611686018427387904:=by
            unfold fullD at hfl
            simp only [Bool.or_eq_false_iff,decide_eq_false_iff_not] at hfl
            omega
           have hw1 : IntKind.i64.wrap (g.nextRel + 1) = g.nextRel + 1:=by rw [IntKind.wrap_i64];have:=HNR.out.1;omega
           have hir : i64R g.nextRel:=by have:=HNR.out.1;unfold i64R;omega
           have HIR:=yh hir
           clear hfl hnl hir
           go_enter Tryz.func37,Tryz.ntmps37
           go_wp2_with (first
            | (go_at_call 42;refine HNO.out.mono ?_;rintro e w0 ⟨rfl,hw0⟩;have hw0:=hw0.symm;subst hw0)
            | (go_at_call 43
               (
                refine HST.out.mono ?_
                rintro e w1 ⟨hb,_,h1⟩
                obtain ⟨v1,rfl,ho1⟩:=h1 HMS.out
                obtain ⟨pv1,cv1,rfl⟩:=ho1.slice
                have HO1:=yh ho1
                have HB1:=yh hb
                clear hb h1 ho1))
            | (go_at_call 49
               (
                have hnm:=Kca (HX.out.1.b HB1.out) type hty
                rw [HNM.out] at hnm
                refine hnm.mono ?_
                rintro e w2 ⟨rfl,hb⟩
                have HB2:=yh (Kaa HB1.out hb)
                have HB12:=yh hb
                have hg2:=HX.out.2.1.below HB2.out
                have p02 : w2.cell? ⟨B.gx,0,none⟩ = some (.map (some B.bn)):=Kah (o:=0) hg2.box rfl
                have HLKA:=yh (hlka w2 (HB2.out.block _ HX.out.2.1.lts.2.1))
                have HSTA:=yh (StT.fresh (P:=Tryz.prog) (W:=w2) Ka7 hza hoa nodeZ rfl)
                have hn3:=Kai (w:=w2) (.cells xa 45)
                have p03 : (w2.alloc (.cells xa 45)).cell? ⟨B.gx,0,none⟩ = some (.map (some B.bn)):=Kah (o:=0) (hg2.below hn3).box rfl
                have HLKB:=yh (hlkb (w2.alloc (.cells xa 45)) ((hn3.block _ hg2.lts.2.1).trans (HB2.out.block _ HX.out.2.1.lts.2.1)))
                have hstb:=StT.fresh (P:=Tryz.prog) (W:=w2.alloc (.cells xa 45)) Ka7 hzb hob nodeZ rfl
                simp only [World.size_alloc] at hstb
                have HSTB:=yh hstb
                clear hstb
                have hb4 : Below w2.heap.size w2 ((w2.alloc (.cells xa 45)).alloc (.cells xb 45)):=Kaa hn3 (Kai _)
                have hg4:=hg2.below hb4
                have p44 : ((w2.alloc (.cells xa 45)).alloc (.cells xb 45)).cell? ⟨B.gx,4,none⟩ = some (.int .i64 g.nextRel):=Kah (o:=4) hg4.box rfl
                have HBw4:=yh (Kaa HB2.out hb4)
                have HB14:=yh (Kaa HB12.out hb4)
                clear hg2 hn3 hb4 hg4
                clear hb hnm))
            | ((with_reducible apply Ka4);exact HLKA.out;exact rfl;exact rfl;clear HLKA)
            | ((with_reducible apply Ka4);exact HLKB.out;exact rfl;exact rfl;clear HLKB)
            | ((with_reducible apply Kaq);exact HSTA.out;exact rfl;exact rfl;clear HSTA)
            | ((with_reducible apply Kaq);exact HSTB.out;exact rfl;exact rfl;clear HSTB)
            | (go_at_call 50
               (
                have hfu:=full_any (HX.out.2.1.below HBw4.out) HX.out.2.2.2.1 g.nextRel
                rw [show (gsOf g).graph = g from rfl,HFL.out] at hfu
                refine hfu.mono ?_
                rintro e w6 ⟨rfl,hb⟩
                have hb6:=Kaa HBw4.out hb
                have hg6:=HX.out.2.1.below hb6
                have p46 : w6.cell? ⟨B.gx,4,none⟩ = some (.int .i64 g.nextRel):=Kah (o:=4) hg6.box rfl
                have hb7:=Kai (w:=w6) (.cells (Kba ⟨g.nextRel,src,dst,type,Kbi props⟩ pv1 cv1) 49)
                have hx7:=heap_alloc_new w6 (.cells (Kba ⟨g.nextRel,src,dst,type,Kbi props⟩ pv1 cv1) 49)
                have hbw7:=Kaa hb6 hb7
                have hx : ROwn (w6.alloc (.cells (Kba ⟨g.nextRel,src,dst,type,Kbi props⟩ pv1 cv1) 49)).drew (fun b=>w.heap.size ≤ b) ⟨g.nextRel,src,dst,type,Kbi props⟩ (Kba ⟨g.nextRel,src,dst,type,Kbi props⟩ pv1 cv1):=⟨_,rfl,HO1.out.below Ka6 (Kaa HB14.out (Kaa hb hb7.drew))⟩
                obtain ⟨w8,r1,r2,r3,r4⟩:=HX.out.2.1.putRel HX.out.2.2.1 hbw7.drew hx HIR.out
                have HU:=yh r1
                have hfr:=StT.fresh (P:=Tryz.prog) (W:=w6) Kbv (show (Kba ⟨g.nextRel,src,dst,type,Kbi props⟩ pv1 cv1).size = 5 from rfl) (by simp [Kba,Value.oneCell'])
                have HFR:=yh hfr
                have HY:=yh (And.intro hg6 (And.intro hb7 (And.intro hx7 (And.intro hbw7 (And.intro r2 (And.intro r3 r4))))))
                clear hb hfu hb6 hg6 hb7 hx7 hbw7 hx r1 r2 r3 r4 hfr))
            | ((with_reducible apply Kaq);exact HFR.out _ rfl;exact rfl;exact rfl;clear HFR))
           obtain ⟨hg6,hb7,hx7,hbw7,r2,r3,r4⟩:=HY.out
           have hg7:=hg6.below hb7
           have hw6 : (w6.alloc (.cells (Kba ⟨g.nextRel,src,dst,type,Kbi props⟩ pv1 cv1) 49)).heap.size = w6.heap.size + 1:=by simp
           have hS0 : (w6.alloc (.cells (Kba ⟨g.nextRel,src,dst,type,Kbi props⟩ pv1 cv1) 49)).drew.heap[B.gx]? = some (.cells (gBoxV B (gsOf g)) 72 (0,0)) ∧ (w6.alloc (.cells (Kba ⟨g.nextRel,src,dst,type,Kbi props⟩ pv1 cv1) 49)).drew.heap[w6.heap.size]? = some (.cells (Kba ⟨g.nextRel,src,dst,type,Kbi props⟩ pv1 cv1) 49 (0,0)):=⟨hg7.box,hx7⟩
           refine Kaf (fun W=>W.heap[B.gx]? = some (.cells (gBoxV B (gsOf g)) 72 (0,0)) ∧ W.heap[w6.heap.size]? = some (.cells (Kba ⟨g.nextRel,src,dst,type,Kbi props⟩ pv1 cv1) 49 (0,0))) (by kernel_rfl) hS0 (fun hS=>?_)
           refine tk 0 72 (v:=.pointer (some ⟨B.gx,0,none⟩)) rfl rfl (fun W hW=>Kab rfl rfl) ?_
           simp only [Act.put,sA,sZ,sS]
           refine tk 1 73 (v:=.pointer (some ⟨B.gx,0,none⟩)) rfl rfl (fun W hW=>rfl) ?_
           simp only [Act.put,sA,sZ,sS]
           refine tk 2 74 (v:=.pointer (some ⟨B.gx,1,none⟩)) rfl rfl (fun W hW=>Kac rfl rfl (Kbf 1 (by omega) _ W)) ?_
           simp only [Act.put,sA,sZ,sS]
           refine tk 3 75 (v:=.map (some B.br)) rfl rfl (fun W hW=>Kad rfl rfl (Kae (w:=W) Tryz.underlying69 rfl (Kah (o:=1) hW.1 rfl))) ?_
           simp only [Act.put,sA,sZ,sS]
           refine tk 4 76 (v:=.pointer (some ⟨w6.heap.size,0,none⟩)) rfl rfl (fun W hW=>Kac rfl rfl (fa_rel0 _ W)) ?_
           simp only [Act.put,sA,sZ,sS]
           refine tk 5 77 (v:=.int .i64 g.nextRel) rfl rfl (fun W hW=>Kad rfl rfl (Kae (w:=W) Tryz.underlying2 rfl (Kah (o:=0) hW.2 rfl))) ?_
           simp only [Act.put,sA,sZ,sS]
           refine tk 6 78 (v:=.agg (Kba ⟨g.nextRel,src,dst,type,Kbi props⟩ pv1 cv1)) rfl rfl (fun W hW=>Kad rfl rfl (Kbv.get (P:=Tryz.prog) rfl hW.2)) ?_
           simp only [Act.put,sA,sZ,sS]
           refine Kbr 7 rfl rfl (by kernel_rfl) rfl (Kbm rfl rfl rfl rfl HU.out) (.inl (by kernel_rfl)) ?_
           refine done (by kernel_rfl) ?_ _
           have hx8 : w8.heap[w6.heap.size]? = some (.cells (Kba ⟨g.nextRel,src,dst,type,Kbi props⟩ pv1 cv1) 49 (0,0)):=(r3.block _ (by show w6.heap.size < (w6.alloc (.cells (Kba ⟨g.nextRel,src,dst,type,Kbi props⟩ pv1 cv1) 49)).heap.size;omega) (by have:=hg6.lts.2.2.1;omega)).trans hx7
           have hS8 : ∀ b,w8.heap.size ≤ b → S b:=fun b hb=>HX.out.2.2.1 b (by have:=hbw7.size;have r4' : w8.heap.size = (w6.alloc (.cells (Kba ⟨g.nextRel,src,dst,type,Kbi props⟩ pv1 cv1) 49)).heap.size:=r4;omega)
           have hlk:=link_any r2.box r2.adj hS8 ⟨g.nextRel,src,dst,type,Kbi props⟩ pv1 cv1 HX.out.2.2.2.2.2.2
           have HLD:=yh (Kbv.get (P:=Tryz.prog) (W:=w8) rfl hx8)
           have HLK:=yh hlk
           have hT8 : Touch S w w8:=Touch.pre hbw7.drew (r3.mono fun b _ e=>by rw [e];exact HX.out.2.1.own.2.2)
           have HZ:=yh (And.intro r2 (And.intro hx8 (And.intro hT8 (show w6.heap.size < w8.heap.size by have r4' : w8.heap.size = (w6.alloc (.cells (Kba ⟨g.nextRel,src,dst,type,Kbi props⟩ pv1 cv1) 49)).heap.size:=r4;omega))))
           have HG6:=yh hg6
           clear hg6 hb7 hx7 hbw7 r2 r3 r4 hg7 hw6 hS0 hS hx8 hS8 hlk hT8 HY HU
           go_wp2_with (first
            | ((with_reducible apply Kap);exact HLD.out;exact rfl;clear HLD)
            | ((with_reducible apply Kaq);exact HSR.out;exact rfl;exact rfl;clear HSR)
            | (go_at_call 41
               (
                refine HLK.out.mono ?_
                rintro e w9 ⟨rfl,hl9⟩
                obtain ⟨ma9,l1,l2,l3⟩:=hl9
                have hg9:=HZ.out.1.linked l1 l2 l3
                have hT9 : Touch S w w9:=HZ.out.2.2.1.step (l3.mono fun b _ e=>e.elim (fun e=>by rw [e];exact HZ.out.1.adj.own) fun e=>(HZ.out.1.adj.block e).2.1) fun b _ hs=>hs
                have hx9 : w9.heap[w6.heap.size]? = some (.cells (Kba ⟨g.nextRel,src,dst,type,Kbi props⟩ pv1 cv1) 49 (0,0)):=(l3.block _ HZ.out.2.2.2 (fun e=>by
                 have hlt:=HG6.out.lts
                 rcases e with e | e
                 ·omega
                 ·exact (HZ.out.1.adj.other HZ.out.2.1 (by decide)).2 e)).trans HZ.out.2.1
                obtain ⟨w10,q1,q2,q3,q4⟩:=hg9.setNR (g.nextRel + 1)
                have p49 : w9.cell? ⟨B.gx,4,none⟩ = some (.int .i64 g.nextRel):=Kah (o:=4) hg9.box rfl
                have p010 : w10.cell? ⟨w6.heap.size,0,none⟩ = some (.int .i64 g.nextRel):=Kah (o:=0) ((q3.block _ (Array.getElem?_eq_some_iff.1 hx9).1 (fun e=>by have:=HG6.out.lts.1;omega)).trans hx9) rfl
                have HSR:=yh q1
                have HF:=yh (And.intro q2 (hT9.step (q3.mono (S':=S) fun b _ e=>by rw [e];exact hg9.own.1) fun b _ hs=>hs))
                clear l1 l2 l3 hg9 hT9 hx9 q1 q2 q3 q4)))
           go_ret2
           refine ⟨rfl,⟨ma9,?_⟩,HF.out.2⟩
           have:=HF.out.1
           have e1:=HX.out.2.2.2.2.1 ⟨g.nextRel,src,dst,type,Kbi props⟩ rfl
           have e2:=HX.out.2.2.2.2.2.1 ⟨g.nextRel,src,dst,type,Kbi props⟩ rfl
           have e3 : ({ nodes:=g.nodes,rels:=putBy RelD.id ⟨g.nextRel,src,dst,type,Kbi props⟩ g.rels,adj:=linkK (linkK (Kbn g.rels) src g.nextRel) dst g.nextRel,nn:=g.nextNode,nr:=g.nextRel + 1 } : GS) = gsOf ⟨g.nodes,g.rels ++ [⟨g.nextRel,src,dst,type,Kbi props⟩],g.nextNode,g.nextRel + 1⟩:=by
            rw [e1]
            have:=congrArg (fun s : GS=>{ s with nr:=g.nextRel + 1 }) e2
            exact this
           rw [← e3]
           exact this
def relZ : Array Value:=#[.int .i64 0,.int .i64 0,.int .i64 0,.string ⟨#[]⟩,.slice none 0 0]
def hasR (g : GraphD) (k : Int) : Bool:=g.rels.any fun r=>r.id == k
theorem GM.lookR {S : Nat → Prop} {W : World} {B : GB} {ma : Int → Option Value} {s : GS} (h : GM S W B ma s) (k : Int) :
 ∃ x,x.size = 5 ∧ (∀ u ∈ x.toList,u.oneCell' = true) ∧ (∀ W' : World,W'.heap[B.br]? = W.heap[B.br]? → (Instr.lookup 69 (.map (some B.br)) (.int .i64 k) true).run Tryz.prog W' = .ok (.tuple #[.agg x,.bool (hasR s.graph k)]) W') ∧ (∀ a ∈ s.rels,a.id = k → ROwn W (fun b=>S b ∧ ¬ GSp B ma b) a x) ∧ (hasR s.graph k = false → x = relZ):=by
 obtain ⟨x,h1,h2,h3⟩:=h.rels.get2 (P:=Tryz.prog) Tryz.underlying69 Tryz.underlying2 (z:=relZ) (fun w=>Tryz.zeroValue49 w) k
 have hh : hasR s.graph k = s.rels.any fun a=>a.id == k:=rfl
 rw [← hh] at h1 h3
 refine ⟨x,?_,?_,h1,h2,h3⟩
 ·cases hf : hasR s.graph k with
  | false=>rw [h3 hf];rfl
  | true =>
    rw [hh,List.any_eq_true] at hf
    obtain ⟨a,ha,e⟩:=hf
    exact Ka9.size (h2 a ha (by simpa using e))
 ·cases hf : hasR s.graph k with
  | false=>rw [h3 hf];simp [relZ,Value.oneCell']
  | true =>
    rw [hh,List.any_eq_true] at hf
    obtain ⟨a,ha,e⟩:=hf
    exact Ka9.ones (h2 a ha (by simpa using e))
theorem dropD_rel (g : GraphD) (i : Int) : dropD g true i = if hasR g i = false then (g,5) else (⟨g.nodes,g.rels.filter fun r=>!(r.id == i),g.nextNode,g.nextRel⟩,0):=by
 unfold dropD hasR
 simp only [if_true]
 cases g.rels.any fun r=>r.id == i <;> rfl
theorem dropD_node (g : GraphD) (i : Int) : dropD g false i = if hasN g i = false then (g,5) else if Kbn g.rels i ≠ [] then (g,150) else (⟨g.nodes.filter fun n=>!(n.id == i),g.rels,g.nextNode,g.nextRel⟩,0):=by
 unfold dropD
 rw [if_neg (by simp)]
theorem dropN_any {S : Nat → Prop} {w : World} {B : GB} {g : GraphD} (hg : GG S w B g) (hS : ∀ b,w.heap.size ≤ b → S b) (hok : okG g = true) (i : Int) :
 Calls Tryz.prog 38 #[.pointer (some ⟨B.gx,0,none⟩),.bool false,.int .i64 i] w fun e w'=>e = .returned (.int .i64 (dropD g false i).2) ∧ GG S w' B (dropD g false i).1 ∧ Touch S w w':=by
 have HG:=yh hg
 obtain ⟨ma,h⟩:=hg
 obtain ⟨⟨k1,_⟩,_⟩:=(okG_iff _).1 hok
 have HNO:=yh (none_no h.box)
 obtain ⟨xa,hza,hoa,hlka,_,_⟩:=h.look i
 have hgr : (gsOf g).graph = g:=rfl
 rw [hgr] at hlka
 have hlk0:=hlka w rfl
 have hb1:=Kai (w:=w) (.cells xa 45)
 have h1:=h.below hb1
 have HSTA:=yh (StT.fresh (P:=Tryz.prog) (W:=w) Ka7 hza hoa nodeZ rfl)
 have p0 : w.cell? ⟨B.gx,0,none⟩ = some (.map (some B.bn)):=Kah (o:=0) h.box rfl
 rw [dropD_node]
 have hrl:=touchD_len g.rels i
 cases hfa : hasN g i with
 | false =>
   rw [hfa] at hlk0
   have HLKA:=yh hlk0
   have HB1:=yh hb1
   rw [if_pos rfl]
   clear hlk0 hlka h h1 hb1 hgr hza hoa k1 hok hfa hrl
   go_enter Tryz.func38,Tryz.ntmps38
   go_wp2_with (first
    | (go_at_call 42;refine HNO.out.mono ?_;rintro e w0 ⟨rfl,hw0⟩;have hw0:=hw0.symm;subst hw0)
    | ((with_reducible apply Ka4);exact HLKA.out;exact rfl;exact rfl;clear HLKA)
    | ((with_reducible apply Kaq);exact HSTA.out;exact rfl;exact rfl;clear HSTA))
   go_ret
   exact ⟨rfl,HG.out.below HB1.out,Kbb HB1.out⟩
 | true =>
   rw [hfa] at hlk0
   have HLKA:=yh hlk0
   rw [if_neg (by simp)]
   have p01 : (w.alloc (.cells xa 45)).cell? ⟨B.gx,0,none⟩ = some (.map (some B.bn)):=Kah (o:=0) h1.box rfl
   have p21 : (w.alloc (.cells xa 45)).cell? ⟨B.gx,2,none⟩ = some (.map (some B.ba)):=Kah (o:=2) h1.box rfl
   have hrw:=h1.adj.row i
   obtain ⟨pr,cr,hre⟩:=Kbp hrw
   have hlr : (Instr.lookup 70 (.map (some B.ba)) (.int .i64 i) false).run Tryz.prog (w.alloc (.cells xa 45)) = .ok (.slice pr (Kbn g.rels i).length cr) (w.alloc (.cells xa 45)):=by rw [look_row h1.adj.map i,hre];rfl
   have HLKR:=yh hlr
   by_cases ht : Kbn g.rels i = []
   ·rw [if_neg (by simp [ht])]
    have hz : (Kbn g.rels i).length = 0:=by rw [ht];rfl
    rw [hz] at HLKR
    obtain ⟨w2,d1,d2,d3,d4⟩:=h1.delNode i 45 0
    have hdel:=fun T2 ty=>h1.delNode i T2 ty
    have HDEL:=yh (fun T2 ty=>h1.delNode i T2 ty)
    have HH:=yh (And.intro h hb1)
    have HT:=yh ht
    clear hlk0 hlka h h1 hb1 hgr hza hoa k1 hok hfa hrw hre hlr hz ht d1 d2 d3 d4 hdel hrl w2
    obtain ⟨TN,hTN⟩ : ∃ T : TypeId,T = 2:=⟨_,rfl⟩
    obtain ⟨w2,d1,d2,d3,d4⟩:=HDEL.out 2 0
    have p22 : w2.cell? ⟨B.gx,2,none⟩ = some (.map (some B.ba)):=Kah (o:=2) d2.box rfl
    obtain ⟨w3,ma3,q1,q2,q3,q4,q5⟩:=d2.delRow i 2 0
    have HD1:=yh d1
    have HD2:=yh q1
    have HF:=yh (And.intro q2 (And.intro (d3.mono (S':=S) fun b _ e=>by rw [e];exact HH.out.1.own.2.1) (q4.mono (S':=S) fun b _ e=>by rw [e];exact HH.out.1.adj.own)))
    clear d1 d2 d3 d4 q1 q2 q3 q4 q5 hTN
    go_enter Tryz.func38,Tryz.ntmps38
    go_wp2_with (first
     | (go_at_call 42;refine HNO.out.mono ?_;rintro e w0 ⟨rfl,hw0⟩;have hw0:=hw0.symm;subst hw0)
     | ((with_reducible apply Ka4);exact HLKA.out;exact rfl;exact rfl;clear HLKA)
     | ((with_reducible apply Kaq);exact HSTA.out;exact rfl;exact rfl;clear HSTA)
     | ((with_reducible apply Ka4);exact HLKR.out;exact rfl;exact rfl;clear HLKR)
     | ((with_reducible apply op_delete);exact HD1.out;exact rfl;exact rfl;clear HD1)
     | ((with_reducible apply op_delete);exact HD2.out;exact rfl;exact rfl;clear HD2))
    go_ret
    refine ⟨rfl,⟨ma3,?_⟩,Touch.pre HH.out.2 (HF.out.2.1.step HF.out.2.2 fun b _ hs=>hs)⟩
    have hq:=HF.out.1
    have e : setI (gsOf g).adj i [] = Kbn g.rels:=by
     funext j
     unfold setI
     split
     ·rename_i e;rw [e,HT.out]
     ·rfl
    rw [e] at hq
    exact hq
   ·rw [if_pos ht]
    have hz : (0 : Int) < ((Kbn g.rels i).length : Int):=by
     cases hl : Kbn g.rels i with
     | nil=>exact absurd hl ht
     | cons a r=>simp
    have HB1:=yh hb1
    generalize (Kbn g.rels i).length = tn at *
    clear hlk0 hlka h h1 hb1 hgr hza hoa k1 hok hfa hrw hre hlr ht
    go_enter Tryz.func38,Tryz.ntmps38
    go_wp2_with (first
     | (go_at_call 42;refine HNO.out.mono ?_;rintro e w0 ⟨rfl,hw0⟩;have hw0:=hw0.symm;subst hw0)
     | ((with_reducible apply Ka4);exact HLKA.out;exact rfl;exact rfl;clear HLKA)
     | ((with_reducible apply Kaq);exact HSTA.out;exact rfl;exact rfl;clear HSTA)
     | ((with_reducible apply Ka4);exact HLKR.out;exact rfl;exact rfl;clear HLKR))
    go_ret
    exact ⟨rfl,HG.out.below HB1.out,Kbb HB1.out⟩
theorem dropR_any {S : Nat → Prop} {w : World} {B : GB} {g : GraphD} (hg : GG S w B g) (hS : ∀ b,w.heap.size ≤ b → S b) (hok : okG g = true) (i : Int) :
 Calls Tryz.prog 38 #[.pointer (some ⟨B.gx,0,none⟩),.bool true,.int .i64 i] w fun e w'=>e = .returned (.int .i64 (dropD g true i).2) ∧ GG S w' B (dropD g true i).1 ∧ Touch S w w':=by
 have HG:=yh hg
 obtain ⟨ma,h⟩:=hg
 obtain ⟨⟨k1,_⟩,_,_,_,k9⟩:=(okG_iff _).1 hok
 have HNO:=yh (none_no h.box)
 obtain ⟨xa,hza,hoa,hlka,hown,_⟩:=h.lookR i
 have hgr : (gsOf g).graph = g:=rfl
 rw [hgr] at hlka
 have hlk0:=hlka w rfl
 have p0 : w.cell? ⟨B.gx,1,none⟩ = some (.map (some B.br)):=Kah (o:=1) h.box rfl
 rw [dropD_rel]
 cases hfa : hasR g i with
 | false =>
   rw [hfa] at hlk0
   have HLKA:=yh hlk0
   have HB1:=yh (Kai (w:=w) (.cells xa 49))
   have HSTA:=yh (StT.fresh (P:=Tryz.prog) (W:=w) Kbv hza hoa relZ rfl)
   rw [if_pos rfl]
   clear hlk0 hlka h hgr hza hoa k1 k9 hok hfa hown
   go_enter Tryz.func38,Tryz.ntmps38
   go_wp2_with (first
    | (go_at_call 42;refine HNO.out.mono ?_;rintro e w0 ⟨rfl,hw0⟩;have hw0:=hw0.symm;subst hw0)
    | ((with_reducible apply Ka4);exact HLKA.out;exact rfl;exact rfl;clear HLKA)
    | ((with_reducible apply Kaq);exact HSTA.out;exact rfl;exact rfl;clear HSTA))
   go_ret
   exact ⟨rfl,HG.out.below HB1.out,Kbb HB1.out⟩
 | true =>
   rw [hfa] at hlk0
   have HLKA:=yh hlk0
   rw [if_neg (by simp)]
   obtain ⟨r,hr,hri⟩ : ∃ r ∈ g.rels,r.id = i:=by
    unfold hasR at hfa
    rw [List.any_eq_true] at hfa
    obtain ⟨r,hr,e⟩:=hfa
    exact ⟨r,hr,by simpa using e⟩
   obtain ⟨vp,exa,hvp⟩:=hown r hr hri
   obtain ⟨pp,cp,rfl⟩:=hvp.slice
   have exa2 : xa = Kba r pp cp:=exa
   rw [exa2] at HLKA
   obtain ⟨w1,hbs,hg1,hr1,hp1,hs1,hbc,hL1⟩:=link_start h.box h.adj r pp cp
   have HSTA:=yh (StT.fresh (P:=Tryz.prog) (W:=w) Kbv (show (Kba r pp cp).size = 5 from rfl) (by simp [Kba,Value.oneCell']) relZ rfl)
   have hx8:=heap_alloc_new w (.cells (Kba r pp cp) 49)
   have p1 : (w.alloc (.cells (Kba r pp cp) 49)).cell? ⟨w.heap.size,1,none⟩ = some (.int .i64 r.src):=Kah (o:=1) hx8 rfl
   have p2 : (w.alloc (.cells (Kba r pp cp) 49)).cell? ⟨w.heap.size,2,none⟩ = some (.int .i64 r.dst):=Kah (o:=2) hx8 rfl
   have HBS:=yh hbs
   have HH:=yh (And.intro h hbc)
   have HB0:=yh h.adj
   have HG1:=yh hg1
   have HG0:=yh h.box
   have HP:=yh hp1
   have HS1:=yh hs1
   have HS:=yh hS
   have HL1:=yh hL1
   have HADJ:=yh (adj_drop (s:=gsOf g) (fun j=>rfl) (Kdy _ k9) hr)
   have HRI:=yh hri
   clear hlk0 hlka h hgr hza hoa k1 k9 hok hfa hown hr hvp exa exa2 hbs hg1 hr1 hp1 hs1 hbc hL1 hx8 hS hri
   go_enter Tryz.func38,Tryz.ntmps38
   go_wp2_with (first
    | (go_at_call 42;refine HNO.out.mono ?_;rintro e w0 ⟨rfl,hw0⟩;have hw0:=hw0.symm;subst hw0)
    | ((with_reducible apply Ka4);exact HLKA.out;exact rfl;exact rfl;clear HLKA)
    | ((with_reducible apply Kaq);exact HSTA.out;exact rfl;exact rfl;clear HSTA)
    | ((with_reducible apply op_bs2);exact HBS.out;exact rfl;exact rfl;clear HBS))
   clear p0 p1 p2
   go_loopw [65] (fun i wr=>∃ j : Nat,j ≤ 2 ∧ i = .int .i64 (j : Int) ∧ Hid (LInv S w1 wr B.ba ma (cutJ (Kbn g.rels) r.src r.dst r.id j))) (fun i _=>2 - (intOf i).toNat)
   case atStart=>exact ⟨0,Nat.zero_le _,rfl,HL1⟩
   case round =>
    obtain ⟨j,hj,rfl,HJ⟩:=hrel
    by_cases hlt : j < 2
    ·obtain ⟨maj,hA,hsub,hT⟩:=HJ.out
     obtain ⟨k,hk⟩ : ∃ k,[r.src,r.dst][j]? = some k:=⟨_,List.getElem?_eq_getElem (by simpa using hlt)⟩
     have hnx:=cutJ_succ (Kbn g.rels) (r:=r.id) hk
     have hs1:=HS1.out
     have hgx : wr.heap[B.gx]? = some (.cells (gBoxV B (gsOf g)) 72 (0,0)):=HJ.out.box HB0.out HG0.out HG1.out
     have hpb : wr.heap[w.heap.size + 1]? = some (.cells #[.int .i64 r.src,.int .i64 r.dst] 2 (0,0)):=(HJ.out.far HB0.out (by omega) (by omega)).trans HP.out
     have HC:=yh (Kae (w:=wr) (ad:=⟨w.heap.size + 1,j,none⟩) Tryz.underlying2 rfl (Kah (o:=j) hpb (by
      have : (#[Value.int .i64 r.src,.int .i64 r.dst] : Array Value)[j]? = ([r.src,r.dst][j]?).map (Value.int .i64):=by
       match j,hlt with
       | 0,_=>rfl
       | 1,_=>rfl
      rw [this,hk];rfl)))
     have hsea : ∀ W,Below wr.heap.size wr W → Calls Tryz.prog 96 #[rowAt maj k,.int .i64 r.id] W fun e w'=>e = .returned (.tuple #[.int .i64 (((cutJ (Kbn g.rels) r.src r.dst r.id j k).countP (· < r.id) : Nat) : Int),.bool ((cutJ (Kbn g.rels) r.src r.dst r.id j k).contains r.id)]) ∧ Below W.heap.size W w':=fun W g=>by
      have hA2:=hA.below g
      have h2:=hA2.row k
      refine (search_any r.id h2.1 (hA2.rise k) (hA2.few k)).mono ?_
      rintro e w' ⟨rfl,q,rfl⟩
      exact ⟨rfl,below_drewN _ q⟩
     have hfew:=hA.few k
     have hSw : ∀ b,wr.heap.size ≤ b → S b:=fun b hb=>HS.out b (by have:=hT.size;omega)
     have hgn:=hA.other hgx (by decide)
     have hlt1:=Nat.succ_le_of_lt hlt
     have hcut:=fun W8 (hA8 : AtM S W8 B.ba maj (cutJ (Kbn g.rels) r.src r.dst r.id j)) (hT8 : Touch (fun b=>b = B.ba ∨ Rows ma b) w1 W8) (hS8 : ∀ b,W8.heap.size ≤ b → S b) hc=>row_cut (k:=k) (x:=r.id) hA8 hsub hT8 hS8 hc
     have hcno:=fun hc=>cutK_none (f:=cutJ (Kbn g.rels) r.src r.dst r.id j) (k:=k) (x:=r.id) hc
     have hcp : (cutJ (Kbn g.rels) r.src r.dst r.id j k).countP (· < r.id) ≤ 1100000:=Nat.le_trans List.countP_le_length hfew
     have HRI2:=HRI.out
     rw [HRI.out] at hsea hcut hcno hcp hnx
     generalize hfj : cutJ (Kbn g.rels) r.src r.dst i j = fj at *
     have hri3 : cutJ (Kbn g.rels) r.src r.dst r.id j = fj:=by rw [HRI.out];exact hfj
     rw [hri3] at hA
     obtain ⟨rv,hrv⟩ : ∃ rv,rv = rowAt maj k:=⟨_,rfl⟩
     obtain ⟨pp2,hpp⟩ : ∃ pp,pp = (fj k).countP (· < i):=⟨_,rfl⟩
     obtain ⟨bb,hbb⟩ : ∃ bb,bb = (fj k).contains i:=⟨_,rfl⟩
     simp only [← hrv,← hpp,← hbb,hri3] at hsea
     rw [← hpp] at hcp
     have hlk : ∀ W : World,IntMap W B.ba maj → (Instr.lookup 70 (.map (some B.ba)) (.int .i64 k) false).run Tryz.prog W = .ok rv W:=fun W hW=>by rw [hrv];exact look_row hW k
     have p20 : wr.cell? ⟨B.gx,2,none⟩ = some (.map (some B.ba)):=Kah (o:=2) hgx rfl
     have HLK:=yh (hlk wr hA.map)
     have HSEA:=yh (hsea wr (Below.refl _ _))
     have HX:=yh (And.intro hA (And.intro hsub (And.intro hT (And.intro hnx (And.intro hgx (And.intro hSw (And.intro hgn (And.intro hlk (And.intro hrv (And.intro hpp (And.intro hbb hri3)))))))))))
     have HCUT:=yh (And.intro hcut hcno)
     clear hA hsub hT hnx hs1 hgx hpb hsea hSw hgn hlk hrv hpp hk hfj hcut hcno hfew hri3 HRI2
     cases bb with
     | false =>
       have HBB:=yh hbb
       clear hbb hcp
       go_wp2_with (first
        | ((with_reducible apply Kap);exact HC.out;exact rfl;clear HC)
        | ((with_reducible apply Ka4);exact HLK.out;exact rfl;exact rfl;clear HLK)
        | (go_at_call 96;refine HSEA.out.mono ?_;rintro e W8 ⟨rfl,hb⟩;have HB8:=yh hb;clear hb))
       go_roundw
       case rel =>
        refine ⟨j + 1,hlt1,by go_num,yh ?_⟩
        obtain ⟨hA,hsub,hT,hnx,_⟩:=HX.out
        rw [HRI.out,hnx,HCUT.out.2 HBB.out.symm]
        exact ⟨maj,hA.below HB8.out,hsub,hT.grow HB8.out⟩
       case measure=>simp [intOf];omega
     | true =>
       have HBB:=yh hbb
       have hw1 : IntKind.i64.wrap ((pp2 : Int) + 1) = (pp2 : Int) + 1:=by rw [IntKind.wrap_i64];omega
       have hadd1 : ∀ W : World,(binOp .add 3 (.int .i64 (pp2 : Int)) (.int .i64 1)).run Tryz.prog W = .ok (.int .i64 ((pp2 : Int) + 1)) W:=fun W=>by simp [go_sem,hw1]
       have HADD:=yh hadd1
       clear hbb hcp hw1 hadd1
       go_wp2_with (first
        | ((with_reducible apply Kap);exact HC.out;exact rfl;clear HC)
        | ((with_reducible apply Ka4);exact HLK.out;exact rfl;exact rfl;clear HLK)
        | (go_at_call 96;refine HSEA.out.mono ?_;rintro e W8 ⟨rfl,hb⟩;have HB8:=yh hb;clear hb))
       obtain ⟨hA,hsub,hT,hnx,hgx,hSw,hgn,hlk,hrv,hpp,hbb2,hri3⟩:=HX.out
       have hA8:=hA.below HB8.out
       have hT8:=hT.grow HB8.out
       have hSw8 : ∀ b,W8.heap.size ≤ b → S b:=fun b hb=>hSw b (by have:=HB8.out.size;omega)
       have hg8 : W8.heap[B.gx]? = some (.cells (gBoxV B (gsOf g)) 72 (0,0)):=Kak HB8.out (Array.getElem?_eq_some_iff.1 hgx).1 hgx
       have c3:=HCUT.out.1 W8 hA8 hT8 hSw8 HBB.out.symm
       have hadd:=HADD.out
       simp only [← hrv,← hpp] at c3
       have hS0 : W8.drew.heap[B.gx]? = some (.cells (gBoxV B (gsOf g)) 72 (0,0)) ∧ IntMap W8.drew B.ba maj:=⟨hg8,hA8.map.of_heap rfl⟩
       refine Kaf (fun W=>W.heap[B.gx]? = some (.cells (gBoxV B (gsOf g)) 72 (0,0)) ∧ IntMap W B.ba maj) (by kernel_rfl) hS0 (fun hS=>?_)
       refine tk 0 81 (v:=.pointer (some ⟨B.gx,0,none⟩)) rfl rfl (fun W hW=>Kab rfl rfl) ?_
       simp only [Act.put,sA,sZ,sS]
       refine tk 1 82 (v:=.pointer (some ⟨B.gx,0,none⟩)) rfl rfl (fun W hW=>rfl) ?_
       simp only [Act.put,sA,sZ,sS]
       refine tk 2 83 (v:=.pointer (some ⟨B.gx,2,none⟩)) rfl rfl (fun W hW=>Kac rfl rfl (Kbf 2 (by omega) _ W)) ?_
       simp only [Act.put,sA,sZ,sS]
       refine tk 3 84 (v:=.map (some B.ba)) rfl rfl (fun W hW=>Kad rfl rfl (Kae (w:=W) Tryz.underlying70 rfl (Kah (o:=2) hW.1 rfl))) ?_
       simp only [Act.put,sA,sZ,sS]
       refine tk 4 85 (v:=.int .i64 k) rfl rfl (fun W hW=>Kab rfl rfl) ?_
       simp only [Act.put,sA,sZ,sS]
       refine tk 5 86 (v:=.pointer (some ⟨B.gx,0,none⟩)) rfl rfl (fun W hW=>Kab rfl rfl) ?_
       simp only [Act.put,sA,sZ,sS]
       refine tk 6 87 (v:=.pointer (some ⟨B.gx,0,none⟩)) rfl rfl (fun W hW=>rfl) ?_
       simp only [Act.put,sA,sZ,sS]
       refine tk 7 88 (v:=.pointer (some ⟨B.gx,2,none⟩)) rfl rfl (fun W hW=>Kac rfl rfl (Kbf 2 (by omega) _ W)) ?_
       simp only [Act.put,sA,sZ,sS]
       refine tk 8 89 (v:=.map (some B.ba)) rfl rfl (fun W hW=>Kad rfl rfl (Kae (w:=W) Tryz.underlying70 rfl (Kah (o:=2) hW.1 rfl))) ?_
       simp only [Act.put,sA,sZ,sS]
       refine tk 9 90 (v:=.int .i64 k) rfl rfl (fun W hW=>Kab rfl rfl) ?_
       simp only [Act.put,sA,sZ,sS]
       refine tk 10 91 (v:=rv) rfl rfl (fun W hW=>Kcj rfl rfl rfl (hlk W hW.2)) ?_
       simp only [Act.put,sA,sZ,sS]
       refine tk 11 92 (v:=.int .i64 (pp2 : Int)) rfl rfl (fun W hW=>Kab rfl rfl) ?_
       simp only [Act.put,sA,sZ,sS]
       refine tk 12 93 (v:=.int .i64 (pp2 : Int)) rfl rfl (fun W hW=>Kab rfl rfl) ?_
       simp only [Act.put,sA,sZ,sS]
       refine tk 13 94 (v:=.int .i64 ((pp2 : Int) + 1)) rfl rfl (fun W hW=>Kal rfl rfl rfl (hadd W)) ?_
       simp only [Act.put,sA,sZ,sS]
       refine Kao 14 95 rfl rfl (by kernel_rfl) rfl (Kan [rv,.int .i64 (pp2 : Int),.int .i64 ((pp2 : Int) + 1)] rfl rfl Tryz.func97 (by kernel_rfl) (by kernel_rfl)) ?_
       refine c3.mono ?_
       rintro e W15 ⟨v15,rfl,m0,W16,m1,m2⟩
       have hS15 : W15.heap[B.gx]? = some (.cells (gBoxV B (gsOf g)) 72 (0,0)) ∧ IntMap W15 B.ba maj:=⟨(m0 _ (Array.getElem?_eq_some_iff.1 hg8).1 hgn.2).trans hg8,hA8.map.of_heap (m0 _ hA8.map.lt hA8.ne)⟩
       refine ⟨_,rfl,.inr hS15,?_⟩
       simp only [Act.put,sA,sZ,sS]
       refine Kbr 15 rfl rfl (by kernel_rfl) rfl (Kbm rfl rfl rfl rfl m1) (.inl (by kernel_rfl)) ?_
       refine done (by kernel_rfl) ?_ _
       have HN:=yh (show LInv S w1 W16 B.ba ma (cutJ (Kbn g.rels) r.src r.dst r.id (j + 1)) from by rw [HRI.out,hnx];exact m2)
       clear hA hsub hT hnx hgx hSw hgn hlk hrv hpp hbb2 hri3 hA8 hT8 hSw8 hg8 c3 hadd hS0 hS m0 m1 m2 hS15
       go_wp2
       go_roundw
       case rel=>exact ⟨j + 1,hlt1,by go_num,HN⟩
       case measure=>simp [intOf];omega
    ·obtain rfl : j = 2:=by omega
     obtain ⟨m2,h1,h2,h3⟩:=HJ.out
     have hg1:=HH.out.1.below HH.out.2
     have hg2:=hg1.linked h1 (fun b hb hr=>h2 b hb hr) h3
     obtain ⟨w9,q1,q2,q3,q4⟩:=hg2.delRel i 2 0
     have p12 : wr.cell? ⟨B.gx,1,none⟩ = some (.map (some B.br)):=Kah (o:=1) hg2.box rfl
     have HD:=yh q1
     have hTs : Touch S w w9:=(Touch.pre HH.out.2 (h3.mono (S':=S) fun b _ e=>e.elim (fun e=>by rw [e];exact HB0.out.own) fun e=>(HB0.out.block e).2.1)).step (q3.mono (S':=S) fun b _ e=>by rw [e];exact hg2.own.2.2) fun b _ hs=>hs
     have HF:=yh (And.intro q2 hTs)
     clear h1 h2 h3 hg1 hg2 q1 q2 q3 q4 hTs
     go_wp2_with ((with_reducible apply op_delete);exact HD.out;exact rfl;exact rfl;clear HD)
     go_ret
     refine ⟨rfl,⟨m2,?_⟩,HF.out.2⟩
     have hq:=HF.out.1
     have ha:=gsOf_eq HADJ.out
     rw [cutJ_two] at hq
     have e : (⟨g.nodes,g.rels.filter (fun y=>!(y.id == i)),cutK (cutK (Kbn g.rels) r.src r.id) r.dst r.id,g.nextNode,g.nextRel⟩ : GS) = gsOf ⟨g.nodes,g.rels.filter fun y=>!(y.id == i),g.nextNode,g.nextRel⟩:=by
      rw [← HRI.out]
      exact ha
     rw [← e]
     exact hq
theorem addNode_gg {S : Nat → Prop} {w : World} {B : GB} {g : GraphD} (hE : Env w) (hg : GG S w B g) (hS : ∀ b,w.heap.size ≤ b → S b) (hok : okG g = true) {pl : Option Addr} {cl : Nat} {labels : List (List UInt8)} (hl : RdS w pl cl labels) (hl1 : labels.length ≤ 1100000) {pp : Option Addr} {cp : Nat} {props : List PropD} (hp : GRd PRd 7 w pp cp props) (hp1 : PsOk props) :
 Calls Tryz.prog 15 #[.pointer (some ⟨B.gx,0,none⟩),.slice pl labels.length cl,.slice pp props.length cp] w fun e w'=>e = .returned (.tuple #[.int .i64 (Kb4 g labels props).2.1,.int .i64 (Kb4 g labels props).2.2]) ∧ GG S w' B (Kb4 g labels props).1 ∧ Touch S w w':=by
 obtain ⟨ma,h⟩:=hg
 refine (addNode_any hE h hS hok hl hl1 hp hp1).mono ?_
 rintro e w' ⟨he,h1,h2⟩
 have hgr : (gsOf g).graph = g:=rfl
 rw [hgr] at he h1
 refine ⟨he,⟨ma,?_⟩,h2⟩
 have hr : (Kb4 g labels props).1.rels = g.rels:=by
  unfold Kb4
  split
  ·rfl
  ·split <;> rfl
 unfold gsOf
 rw [hr]
 exact h1
theorem drop_gg {S : Nat → Prop} {w : World} {B : GB} {g : GraphD} (hg : GG S w B g) (hS : ∀ b,w.heap.size ≤ b → S b) (hok : okG g = true) (rel : Bool) (i : Int) :
 Calls Tryz.prog 38 #[.pointer (some ⟨B.gx,0,none⟩),.bool rel,.int .i64 i] w fun e w'=>e = .returned (.int .i64 (dropD g rel i).2) ∧ GG S w' B (dropD g rel i).1 ∧ Touch S w w':=by
 cases rel with
 | false=>exact dropN_any hg hS hok i
 | true=>exact dropR_any hg hS hok i
theorem RdS.pair {W : World} {g : Nat} {a b : List UInt8} (h : W.heap[g]? = some (.cells #[.string (strB a),.string (strB b)] 9 (0,0))) (ha : a.length ≤ 1000) (hb : b.length ≤ 1000) : RdS W (some ⟨g,0,none⟩) 2 [a,b]:=by
 refine ⟨Nat.le_refl _,by simp,fun e=>(by cases e),fun s hs=>?_,fun ad had=>?_⟩
 ·rcases List.mem_cons.1 hs with rfl | hs
  ·omega
  ·rw [List.mem_singleton.1 hs];omega
 ·cases had
  refine ⟨fun _=>rfl,fun i s hs=>?_⟩
  match i,hs with
  | 0,hs=>cases hs;exact Kah (o:=0) h rfl
  | 1,hs=>cases hs;exact Kah (o:=1) h rfl
  | n + 2,hs=>simp at hs
theorem GRd.single {W : World} {g : Nat} {p : PropD} {x : Array Value} (h : W.heap[g]? = some (.cells x 47 (0,0))) (hx : PRd W p x) : GRd PRd 7 W (some ⟨g,0,none⟩) 1 [p]:=by
 refine ⟨⟨Nat.le_refl _,by simp,fun e=>(by cases e)⟩,fun ad had=>?_⟩
 cases had
 refine ⟨fun _=>rfl,fun j v hv=>?_⟩
 match j,hv with
 | 0,hv =>
   cases hv
   refine ⟨x,ef_prop.size hx,fun i u hu=>?_,hx⟩
   have:=Kah (o:=i) h hu
   simpa using this
 | n + 1,hv=>simp at hv
theorem RdS.none (W : World) : RdS W none 0 []:=⟨Nat.le_refl _,by simp,fun _=>rfl,fun s hs=>by simp at hs,fun ad had=>by cases had⟩
theorem GRd.none {α : Type} (F : World → α → Array Value → Prop) (K : Nat) (W : World) : GRd F K W none 0 ([] : List α):=⟨⟨Nat.le_refl _,by simp,fun _=>rfl⟩,fun ad had=>by cases had⟩
def kLabels : List (List UInt8):=[[66],[65]]
def kVal : V:=.mk 2 false 1 [] [] []
def kProps : List PropD:=[⟨[107],kVal⟩]
def kg1 : GraphD:=⟨[⟨0,[[65],[66]],kProps⟩],[],1,0⟩
def kg2 : GraphD:=⟨[⟨0,[[65],[66]],kProps⟩,⟨1,[],[]⟩],[],2,0⟩
def kg3 : GraphD:=⟨[⟨0,[[65],[66]],kProps⟩,⟨1,[],[]⟩],[⟨0,0,1,[84],[]⟩],2,1⟩
def kg4 : GraphD:=⟨[⟨0,[[65],[66]],kProps⟩,⟨1,[],[]⟩],[],2,1⟩
def kg5 : GraphD:=⟨[⟨1,[],[]⟩],[],2,1⟩
theorem kok0 : okG Kbu = true:=by kernel_rfl
theorem kok1 : okG kg1 = true:=by kernel_rfl
theorem kok2 : okG kg2 = true:=by kernel_rfl
theorem kok3 : okG kg3 = true:=by kernel_rfl
theorem kok4 : okG kg4 = true:=by kernel_rfl
theorem kadd1 : Kb4 Kbu kLabels kProps = (kg1,0,0):=by kernel_rfl
theorem kadd2 : Kb4 kg1 [] [] = (kg2,1,0):=by kernel_rfl
theorem kadd3 : addRelD kg2 0 1 [84] [] = (kg3,0,0):=by kernel_rfl
theorem kadd4 : addRelD kg3 0 2 [84] [] = (kg3,0,5):=by kernel_rfl
theorem kdrop1 : dropD kg3 false 0 = (kg3,150):=by kernel_rfl
theorem kdrop2 : dropD kg3 true 0 = (kg4,0):=by kernel_rfl
theorem kdrop3 : dropD kg4 false 0 = (kg5,0):=by kernel_rfl
theorem kbound : GOk kg5:=by refine ⟨by decide,by decide,?_,?_⟩ <;> simp [kg5,NOk,PsOk]
theorem kbound0 : GOk Kbu:=by refine ⟨by decide,by decide,?_,?_⟩ <;> simp [Kbu]
theorem Touch.low {w W W' : World} (h : Touch (fun b=>w.heap.size ≤ b) W W') (hb : Below w.heap.size w W) : Below w.heap.size w W':=h.below hb (fun b h1 h2=>by omega) hb.size
def kCells : Array Value:=#[.string (strB [107]),.int .i64 2,.bool false,.int .i64 1,.string (strB []),.slice none 0 0,.slice none 0 0]
theorem kcells_rd (W : World) : PRd W ⟨[107],kVal⟩ kCells:=⟨#[.int .i64 2,.bool false,.int .i64 1,.string (strB []),.slice none 0 0,.slice none 0 0],rfl,by simp,Kb2.2 ⟨none,0,none,0,rfl,by simp,RdS.none W,⟨Nat.le_refl _,by simp,fun _=>rfl⟩,fun ad had=>by cases had⟩⟩
theorem kPsOk : PsOk kProps:=⟨by simp [kProps],fun p hp=>by rw [List.mem_singleton.1 hp];exact ⟨by simp,by simp [kVal,totV,totVs]⟩⟩
theorem run_bs2s (x y : List UInt8) (w : World) : (Instr.buildSlice 26 2 #[(0,.string (strB x)),(1,.string (strB y))]).run Tryz.prog w = .ok (.slice (some ⟨w.heap.size,0,none⟩) 2 2) (w.alloc (.cells #[.string (strB x),.string (strB y)] 9)):=by
 simp [Instr.buildSlice,go_sem,Instr.fill]
theorem known_any {w : World} (hE : Env w) : Calls Tryz.prog 12 #[] w fun e w'=>e = .returned (.bool true) ∧ Below w.heap.size w w':=by
 have hr0 : GrRd w Kbu #[.slice none 0 0,.slice none 0 0,.int .i64 0,.int .i64 0]:=⟨none,0,none,0,rfl,GRd.none _ _ _,GRd.none _ _ _⟩
 have HMK:=yh (make_any hE hr0 kbound0)
 have HE:=yh hE
 clear hE hr0
 go_enter Tryz.func12,Tryz.ntmps12
 go_wp2_with (first
  | (go_at_call 14
     (
      refine HMK.out.mono ?_
      rintro e w1 ⟨hb,_,h2⟩
      obtain ⟨B,ma,rfl,hgm⟩:=h2 kok0
      have hg1 : GG (fun b=>w.heap.size ≤ b) w1 B Kbu:=GG.made kok0 hgm
      have hn2:=Kai (w:=w1) (.cells #[.string (strB [66]),.string (strB [65])] 9)
      have hn3:=Kai (w:=w1.alloc (.cells #[.string (strB [66]),.string (strB [65])] 9)) (.cells kCells 47)
      have hl3:=RdS.pair (Kak hn3 (by simp) (heap_alloc_new w1 (.cells #[.string (strB [66]),.string (strB [65])] 9))) (by decide) (by decide)
      have hx3:=heap_alloc_new (w1.alloc (.cells #[.string (strB [66]),.string (strB [65])] 9)) (.cells kCells 47)
      simp only [World.size_alloc] at hx3
      have hp3:=GRd.single hx3 (kcells_rd _)
      have hb3:=Kaa hb (Kaa hn2 hn3)
      have hc1:=addNode_gg (HE.out.b hb3) (hg1.below (Kaa hn2 hn3)) (fun b h=>Nat.le_trans hb3.size h) kok0 (labels:=kLabels) hl3 (by decide) (props:=kProps) hp3 kPsOk
      rw [kadd1] at hc1
      have HBS2:=yh (run_bs2s [66] [65] w1)
      have hbs1:=Kas (P:=Tryz.prog) (w:=w1.alloc (.cells #[.string (strB [66]),.string (strB [65])] 9)) (v:=.agg kCells) Tryz.underlying27 Tryz.sizeOf47 Tryz.zeroValue47 rfl (by omega) (by omega)
      simp only [World.size_alloc] at hbs1
      have HBS1:=yh hbs1
      have HC1:=yh hc1
      have HB3:=yh hb3
      clear hb h2 hgm hg1 hn2 hn3 hl3 hx3 hp3 hb3 hc1 HMK hbs1))
  | ((with_reducible apply op_bs2);exact HBS2.out;exact rfl;exact rfl;clear HBS2)
  | ((with_reducible apply op_bs1);exact HBS1.out;exact rfl;clear HBS1)
  | (go_at_call 15
     (
      refine HC1.out.mono ?_
      rintro e w4 ⟨rfl,hg4,hT4⟩
      have hb4:=hT4.low HB3.out
      have hc2:=addNode_gg (HE.out.b hb4) hg4 (fun b h=>Nat.le_trans hb4.size h) kok1 (RdS.none w4) (by decide) (GRd.none PRd 7 w4) ⟨by simp,fun p hp=>by simp at hp⟩
      rw [kadd2] at hc2
      have HC2:=yh hc2
      have HB4:=yh hb4
      clear hg4 hT4 hb4 hc2 HC1))
  | (go_at_call 15
     (
      refine HC2.out.mono ?_
      rintro e w5 ⟨rfl,hg5,hT5⟩
      have hb5:=hT5.low HB4.out
      have hc3:=addRel_any (HE.out.b hb5) hg5 (fun b h=>Nat.le_trans hb5.size h) kok2 0 1 (type:=[84]) (by decide) (GRd.none PRd 7 w5) ⟨by simp,fun p hp=>by simp at hp⟩
      rw [kadd3] at hc3
      have HC3:=yh hc3
      have HB5:=yh hb5
      clear hg5 hT5 hb5 hc3 HC2))
  | (go_at_call 37
     (
      refine HC3.out.mono ?_
      rintro e w6 ⟨rfl,hg6,hT6⟩
      have hb6:=hT6.low HB5.out
      have hc4:=addRel_any (HE.out.b hb6) hg6 (fun b h=>Nat.le_trans hb6.size h) kok3 0 2 (type:=[84]) (by decide) (GRd.none PRd 7 w6) ⟨by simp,fun p hp=>by simp at hp⟩
      rw [kadd4] at hc4
      have HC4:=yh hc4
      have HB6:=yh hb6
      clear hg6 hT6 hb6 hc4 HC3))
  | (go_at_call 37
     (
      refine HC4.out.mono ?_
      rintro e w7 ⟨rfl,hg7,hT7⟩
      have hb7:=hT7.low HB6.out
      have hc5:=drop_gg hg7 (fun b h=>Nat.le_trans hb7.size h) kok3 false 0
      rw [kdrop1] at hc5
      have HC5:=yh hc5
      have HB7:=yh hb7
      clear hg7 hT7 hb7 hc5 HC4))
  | (go_at_call 38
     (
      refine HC5.out.mono ?_
      rintro e w8 ⟨rfl,hg8,hT8⟩
      have hb8:=hT8.low HB7.out
      have hc6:=drop_gg hg8 (fun b h=>Nat.le_trans hb8.size h) kok3 true 0
      rw [kdrop2] at hc6
      have HC6:=yh hc6
      have HB8:=yh hb8
      clear hg8 hT8 hb8 hc6 HC5))
  | (go_at_call 38
     (
      refine HC6.out.mono ?_
      rintro e w9 ⟨rfl,hg9,hT9⟩
      have hb9:=hT9.low HB8.out
      have hc7:=drop_gg hg9 (fun b h=>Nat.le_trans hb9.size h) kok4 false 0
      rw [kdrop3] at hc7
      have HC7:=yh hc7
      have HB9:=yh hb9
      clear hg9 hT9 hb9 hc7 HC6))
  | (go_at_call 38
     (
      refine HC7.out.mono ?_
      rintro e w10 ⟨rfl,⟨m10,hg10⟩,hT10⟩
      have hb10:=hT10.low HB9.out
      have hc8:=tellG_any hg10 kbound.2.2.1 kbound.2.2.2 (by decide) (by decide)
      have HC8:=yh hc8
      have HB10:=yh hb10
      clear hg10 hT10 hb10 hc8 HC7))
  | (go_at_call 16
     (
      refine HC8.out.mono ?_
      rintro e w11 ⟨x,rfl,hx,hb⟩
      obtain ⟨pn,cn,pr,cr,rfl,_,_⟩:=hx.rdO kbound
      have HFR:=yh (StT.fresh (P:=Tryz.prog) (W:=w11) Kay (show (#[.slice pn kg5.nodes.length cn,.slice pr kg5.rels.length cr,.int .i64 kg5.nextNode,.int .i64 kg5.nextRel] : Array Value).size = 4 from rfl) (by simp [Value.oneCell']))
      have hb11:=Kaa HB10.out hb
      have hx12:=heap_alloc_new w11 (.cells #[.slice pn kg5.nodes.length cn,.slice pr kg5.rels.length cr,.int .i64 kg5.nextNode,.int .i64 kg5.nextRel] 25)
      have p0 : (w11.alloc (.cells #[.slice pn kg5.nodes.length cn,.slice pr kg5.rels.length cr,.int .i64 kg5.nextNode,.int .i64 kg5.nextRel] 25)).cell? ⟨w11.heap.size,0,none⟩ = some (.slice pn 1 cn):=Kah (o:=0) hx12 rfl
      have p2 : (w11.alloc (.cells #[.slice pn kg5.nodes.length cn,.slice pr kg5.rels.length cr,.int .i64 kg5.nextNode,.int .i64 kg5.nextRel] 25)).cell? ⟨w11.heap.size,2,none⟩ = some (.int .i64 2):=Kah (o:=2) hx12 rfl
      have p3 : (w11.alloc (.cells #[.slice pn kg5.nodes.length cn,.slice pr kg5.rels.length cr,.int .i64 kg5.nextNode,.int .i64 kg5.nextRel] 25)).cell? ⟨w11.heap.size,3,none⟩ = some (.int .i64 1):=Kah (o:=3) hx12 rfl
      have HB12:=yh (Kaa hb11 (Kai (w:=w11) (.cells #[.slice pn kg5.nodes.length cn,.slice pr kg5.rels.length cr,.int .i64 kg5.nextNode,.int .i64 kg5.nextRel] 25)))
      clear hx hb hb11 hx12 HC8))
  | ((with_reducible apply Kaq);exact HFR.out _ rfl;exact rfl;exact rfl;clear HFR))
 go_ret
 exact ⟨rfl,HB12.out⟩
theorem more_any (l : List UInt8) (i : Nat) (w : World) (hi : i ≤ 140737488355400) (hl : l.length ≤ 140737488355328) : Calls Tryz.prog 186 #[.string (strB l),.int .i64 (i : Int)] w fun e w'=>e = .returned (.bool (moreB l i)) ∧ w = w':=by
 have hsz : (strB l).size = l.length:=rfl
 have z1 : (l.length : Int) ≤ 140737488355328:=by omega
 by_cases h : i < l.length
 ·have hm : moreB l i = (decide (128 ≤ l[i].toNat) && decide (l[i].toNat ≤ 191)):=by unfold moreB;rw [List.getElem?_eq_getElem h]
  rw [hm]
  go_enter Tryz.func186,Tryz.ntmps186
  go_wp2
  ·rename_i hx
   have hx' : 128 ≤ (l[i].toNat : Int):=hx
   go_ret
   refine ⟨Kam ?_,rfl⟩
   rw [show decide (128 ≤ l[i].toNat) = true by simp;omega,Bool.true_and]
   show decide ((l[i].toNat : Int) ≤ 191) = decide (l[i].toNat ≤ 191)
   rw [Bool.eq_iff_iff,decide_eq_true_iff,decide_eq_true_iff]
   omega
  ·rename_i hx
   have hx' : (l[i].toNat : Int) < 128:=hx
   go_ret
   exact ⟨Kam (by rw [show decide (128 ≤ l[i].toNat) = false by simp;omega];rfl),rfl⟩
 ·have hm : moreB l i = false:=by unfold moreB;rw [List.getElem?_eq_none (by omega)]
  rw [hm]
  go_enter Tryz.func186,Tryz.ntmps186
  go_wp2
  go_ret
  exact ⟨rfl,rfl⟩
theorem more_int (l : List UInt8) (n : Int) (w : World) (h0 : 0 ≤ n) (hi : n ≤ 140737488355400) (hl : l.length ≤ 140737488355328) : Calls Tryz.prog 186 #[.string (strB l),.int .i64 n] w fun e w'=>e = .returned (.bool (moreB l n.toNat)) ∧ w = w':=by
 obtain ⟨i,rfl⟩ : ∃ i : Nat,n = (i : Int):=⟨n.toNat,by omega⟩
 exact more_any l i w (by omega) hl
theorem runeAt_any (l : List UInt8) (i : Nat) (w : World) (hi : i < l.length) (hl : l.length ≤ 140737488355328) : Calls Tryz.prog 137 #[.string (strB l),.int .i64 (i : Int)] w fun e w'=>e = .returned (.int .i64 (runeL l i : Int)) ∧ w = w':=by
 have hsz : (strB l).size = l.length:=rfl
 have z1 : (l.length : Int) ≤ 140737488355328:=by omega
 have t1 : ((i : Int) + 1).toNat = i + 1:=by omega
 have t2 : ((i : Int) + 2).toNat = i + 2:=by omega
 have t3 : ((i : Int) + 3).toNat = i + 3:=by omega
 have hb : byteN l i = ((strB l)[i]'hi).toNat:=by unfold byteN;rw [List.getElem?_eq_getElem hi];rfl
 cases hm1 : moreB l (i + 1) with
 | false =>
   go_enter Tryz.func137,Tryz.ntmps137
   go_wp2_with (go_at_call 186
                (
                  refine (more_int _ _ _ (by omega) (by omega) hl).mono ?_
                  rintro e w' ⟨rfl,rfl⟩
                  simp only [t1,t2,t3,hm1]))
   all_goals
    go_ret
    refine ⟨Kc0 ?_,rfl⟩
    unfold runeL
    rw [hm1,hb]
    generalize ((strB l)[i]'hi).toNat = c at *
    (repeat' split) <;> first | rfl | omega | (simp only [Bool.and_eq_true,decide_eq_true_eq,Bool.false_eq_true,and_false,false_and,not_false_eq_true,not_true_eq_false] at * <;> omega)
 | true =>
   have hi1 : i + 1 < l.length:=by
    unfold moreB at hm1
    split at hm1
    ·rename_i x hx
     exact (List.getElem?_eq_some_iff.1 hx).1
    ·cases hm1
   have hi1' : (i : Int) + 1 < l.length:=by omega
   have hb1 : byteN l (i + 1) = ((strB l)[i + 1]'hi1).toNat:=by unfold byteN;rw [List.getElem?_eq_getElem hi1];rfl
   cases hm2 : moreB l (i + 2) <;> cases hm3 : moreB l (i + 3)
   all_goals
    go_enter Tryz.func137,Tryz.ntmps137
    go_wp2_with (go_at_call 186
                 (
                   refine (more_int _ _ _ (by omega) (by omega) hl).mono ?_
                   rintro e w' ⟨rfl,rfl⟩
                   simp only [t1,t2,t3,hm1,hm2,hm3]))
    all_goals
     go_ret
     refine ⟨Kc0 ?_,rfl⟩
     unfold runeL
     rw [hm1,hm2,hb,hb1]
     try rw [hm3]
     generalize ((strB l)[i]'hi).toNat = c at *
     generalize ((strB l)[i + 1]'hi1).toNat = d at *
     (repeat' split) <;> first | rfl | omega | (simp only [Bool.and_eq_true,Bool.or_eq_true,beq_iff_eq,decide_eq_true_eq,Bool.false_eq_true,and_false,false_and,and_true,true_and,not_false_eq_true,not_true_eq_false] at * <;> omega)
theorem runeL_le (l : List UInt8) (i : Nat) : runeL l i ≤ 4:=by
 unfold runeL
 (repeat' split) <;> omega
theorem valid_step (l : List UInt8) (i : Nat) (h : i < l.length) : Lib.validD (l.drop i) = if runeL l i = 0 then false else Lib.validD (l.drop (i + runeL l i)):=by
 have h1:=utfFrom_valid l (l.length - i) i (Nat.le_refl _)
 obtain ⟨f,hf⟩ : ∃ f,l.length - i = f + 1:=⟨l.length - i - 1,by omega⟩
 rw [hf] at h1
 rw [← h1]
 unfold utfFrom
 have h' : ¬ l.length ≤ i:=by omega
 by_cases h0 : runeL l i = 0
 ·simp [h',h0]
 ·have h2:=utfFrom_valid l f (i + runeL l i) (by omega)
  simp [h',h0,h2]
theorem valid_end (l : List UInt8) (i : Nat) (h : l.length ≤ i) : Lib.validD (l.drop i) = true:=by
 rw [List.drop_eq_nil_of_le h];rfl
theorem utfR_any (l : List UInt8) (w : World) (hl : l.length ≤ 140737488355328) : Calls Tryz.prog 95 #[.string (strB l)] w fun e w'=>e = .returned (.bool (Lib.validD l)) ∧ w = w':=by
 have hsz : (strB l).size = l.length:=rfl
 have z1 : (l.length : Int) ≤ 140737488355328:=by omega
 have HL:=yh hl
 go_enter Tryz.func95,Tryz.ntmps95
 go_wp2
 go_loopw [3] (fun i W=>∃ j : Nat,j ≤ l.length + 4 ∧ i = .int .i64 (j : Int) ∧ Hid (Lib.validD l = Lib.validD (l.drop j)) ∧ w = W) (fun i _=>l.length - (intOf i).toNat)
 case atStart=>exact ⟨0,by omega,rfl,yh rfl,rfl⟩
 case round =>
  obtain ⟨j,hj,rfl,HQ,rfl⟩:=hrel
  have zj : (j : Int) ≤ 140737488355332:=by omega
  by_cases hlt : j < l.length
  ·have hst:=valid_step l j hlt
   have hrl:=runeL_le l j
   have HC:=yh (runeAt_any l j w hlt HL.out)
   by_cases h0 : runeL l j = 0
   ·rw [if_pos h0] at hst
    rw [h0] at HC
    have HS:=yh hst
    clear hst h0 hrl
    go_wp2_with (go_at_call 137;refine HC.out.mono ?_;rintro e w' ⟨rfl,rfl⟩)
    go_ret
    exact ⟨Kam (by rw [HQ.out,HS.out]),rfl⟩
   ·rw [if_neg h0] at hst
    generalize runeL l j = r at *
    have HS:=yh (HQ.out.trans hst)
    have hr0 : ¬ (r : Int) = 0:=by omega
    have hr1 : ((r : Int) == 0) = false:=by rw [beq_eq_false_iff_ne];omega
    have zr : (r : Int) ≤ 4:=by omega
    clear hst HQ
    go_wp2_with (go_at_call 137;refine HC.out.mono ?_;rintro e w' ⟨rfl,rfl⟩)
    go_roundw
    case rel=>exact ⟨j + r,by omega,by go_num,HS,trivial⟩
    case measure=>simp [intOf];omega
  ·have he:=valid_end l j (by omega)
   go_wp2
   go_ret
   exact ⟨Kam (by rw [HQ.out,he]),rfl⟩
theorem contains_snoc0 (l : List UInt8) (x : UInt8) : (l ++ [x]).contains 0 = (l.contains 0 || decide (x = 0)):=by
 by_cases h1 : (0 : UInt8) ∈ l
 ·simp [h1]
 ·by_cases h2 : x = 0
  ·simp [h1,h2]
  ·have h3 : ¬ (0 : UInt8) = x:=fun e=>h2 e.symm
   simp [h1,h2,h3]
theorem okNm_zero {s : List UInt8} (h : s.contains 0 = true) : okNm s = false:=by unfold okNm;rw [h];simp
theorem okNm_not {s : List UInt8} (h : s.contains 0 = false) : okNm s = (decide (1 ≤ s.length) && decide (s.length ≤ 64) && Lib.validD s):=by
 unfold okNm
 rw [h]
 cases s with
 | nil=>rfl
 | cons a r=>simp
theorem refname_any {w : World} (s : List UInt8) (hl : s.length ≤ 140737488355328) : Calls Tryz.prog 35 #[.string (strB s)] w fun e w'=>e = .returned (.bool (okNm s)) ∧ w = w':=by
 have hsz : (strB s).size = s.length:=rfl
 have z1 : (s.length : Int) ≤ 140737488355328:=by omega
 have HU:=yh (fun W=>utfR_any s W hl)
 go_enter Tryz.func35,Tryz.ntmps35
 go_wp2
 go_loopw [3] (fun i W=>∃ j : Nat,j ≤ s.length ∧ i = .int .i64 (j : Int) ∧ Hid ((s.take j).contains 0 = false) ∧ w = W) (fun i _=>s.length - (intOf i).toNat)
 case atStart=>exact ⟨0,Nat.zero_le _,rfl,yh (by simp),rfl⟩
 case round =>
  obtain ⟨j,hj,rfl,HQ,rfl⟩:=hrel
  by_cases hlt : j < s.length
  ·have hst : (s.take (j + 1)).contains 0 = ((s.take j).contains 0 || decide (s[j] = 0)):=by rw [List.take_succ_eq_append_getElem hlt,contains_snoc0]
   have hall : s[j] = 0 → s.contains 0 = true:=fun e=>by
    have:=List.getElem_mem hlt
    rw [e] at this
    simpa using this
   have hz : s[j] = 0 ↔ ((strB s)[j]'hlt).toNat = 0:=by
    rw [show (strB s)[j]'hlt = s[j] from rfl]
    constructor
    ·intro e;rw [e];rfl
    ·intro e;exact UInt8.toNat_inj.1 e
   generalize s[j] = x at *
   by_cases h0 : x = 0
   ·have HF:=yh (okNm_zero (hall h0))
    have hz0:=hz.1 h0
    clear hst hall hz HU
    go_wp2
    go_ret
    exact ⟨Kam HF.out.symm,rfl⟩
   ·have HN:=yh (show (s.take (j + 1)).contains 0 = false by rw [hst,HQ.out];simpa using h0)
    have hz0 : ¬ ((strB s)[j]'hlt).toNat = 0:=fun e=>h0 (hz.2 e)
    clear hst hall hz HU
    go_wp2
    go_roundw
    case rel=>exact ⟨j + 1,by omega,by go_num,HN,trivial⟩
    case measure=>simp [intOf];omega
  ·obtain rfl : j = s.length:=by omega
   have hok:=HQ.out
   rw [List.take_length] at hok
   have hk:=okNm_not hok
   clear HQ hok
   by_cases h1 : 1 ≤ s.length
   ·by_cases h2 : s.length ≤ 64
    ·have HK:=yh (show okNm s = Lib.validD s by rw [hk];simp [h1,h2])
     have g1 : (1 : Int) ≤ (s.length : Int):=by omega
     have g2 : (s.length : Int) ≤ 64:=by omega
     clear hk
     go_wp2_with (go_at_call 95;refine (HU.out _).mono ?_;rintro e w1 ⟨rfl,rfl⟩)
     go_ret
     exact ⟨Kam HK.out.symm,rfl⟩
    ·have HK:=yh (show okNm s = false by rw [hk];simp [h2])
     have g2 : ¬ (s.length : Int) ≤ 64:=by omega
     clear hk HU
     go_wp2
     go_ret
     exact ⟨Kam HK.out.symm,rfl⟩
   ·have HK:=yh (show okNm s = false by rw [hk];simp [h1])
    have g1 : ¬ (1 : Int) ≤ (s.length : Int):=by omega
    clear hk HU
    go_wp2
    go_ret
    exact ⟨Kam HK.out.symm,rfl⟩
theorem isE {α : Type} (l : List α) : l.isEmpty = ((l.length : Int) == 0):=by cases l <;> simp <;> omega
theorem bareR_any {v : V} {w : World} {x : Array Value} (hx : VRd w v x) : Calls Tryz.prog 185 #[.agg x] w fun e w'=>e = .returned (.bool (bareV v)) ∧ Below w.heap.size w w':=by
 have hT:=OneB.start w x
 cases v with
 | mk k b n t ks l =>
   obtain ⟨pk,ck,pl,cl,rfl,htx,hk1,hl1⟩:=Kb2.1 hx
   have zt : (strB t).size = t.length:=rfl
   have z1 : (ks.length : Int) ≤ 140737488355328:=by have:=hk1.1;have:=hk1.2.1;omega
   have z2 : (l.length : Int) ≤ 140737488355328:=by have:=hl1.1.2.1;omega
   have hb : bareV (.mk k b n t ks l) = ((k == 1 || !b) && (k == 2 || k == 6 || k == 7 || n == 0) && (k == 3 || t.isEmpty) && (k == 5 || ks.isEmpty) && (k == 4 || k == 5 || l.isEmpty)):=rfl
   rw [hb]
   have HT:=yh hT
   clear hx hk1 hl1 hT hb htx
   go_enter Tryz.func185,Tryz.ntmps185
   go_wp2
   all_goals
    go_ret
    refine ⟨Kam ?_,Kai _⟩
    try rw [isE ks]
    try rw [isE l]
    simp_all [Ka0]
def headV (u : List UInt8 → Bool) (v : V) : Bool :=
 decide (0 ≤ v.kind) && decide (v.kind ≤ 7) && bareV v && (!(v.kind == 6 || v.kind == 7) || decide (0 ≤ v.n)) && u v.text && (!(v.kind == 5) || v.keys.length == v.list.length)
theorem oneV_head (u : List UInt8 → Bool) (v : V) : oneV u v = (headV u v && v.keys.all u && Kav v.keys):=rfl
theorem mayV_head (u : List UInt8 → Bool) (k : Int) (b : Bool) (n : Int) (t : List UInt8) (ks : List (List UInt8)) (l : List V) : mayV u (.mk k b n t ks l) = (headV u (.mk k b n t ks l) && ks.all u && Kav ks && mayVs u l):=by
 rw [mayV,oneV_head];rfl
theorem mayVs_all (u : List UInt8 → Bool) (l : List V) : mayVs u l = l.all (mayV u):=by
 induction l with
 | nil=>rfl
 | cons a r ih=>rw [mayVs,ih];rfl
def KeysOk (l : List (List UInt8)) : Prop:=l.all Lib.validD = true ∧ Kav l = true
structure MayNo (l : List V) : Prop where
 no : l.all (mayV Lib.validD) = false
def ValsOk (l : List V) : Prop:=l.all (mayV Lib.validD) = true
structure KeyU (w : World) (X : Array Value) (bk o1 o2 : Nat) (s1 s2 : List UInt8) (W : World) : Prop where
 box : OneB w W X
 one : W.cell? ⟨bk,o1,none⟩ = some (.string (strB s1))
 two : W.cell? ⟨bk,o2,none⟩ = some (.string (strB s2))
theorem geq_str (s1 s2 : List UInt8) (W : World) : (binOp .geq 9 (.string (strB s1)) (.string (strB s2))).run Tryz.prog W = .ok (.bool (!(ltB s1 s2))) W:=by
 simp [go_sem,Ka0,less_eq]
theorem mayR_any : ∀ (v : V) (w : World) (x : Array Value),VRd w v x → Calls Tryz.prog 133 #[.agg x] w fun e w'=>e = .returned (.bool (mayV Lib.validD v)) ∧ Below w.heap.size w w':=by
 refine V.ind fun k b n t ks l ih=>?_
 intro w x hx
 have HBR:=yh (fun (W : World) (hb : Below w.heap.size w W)=>bareR_any (hx.below hb))
 rw [mayV_head,mayVs_all]
 have hT:=OneB.start w x
 obtain ⟨pk,ck,pl,cl,rfl,htx,hk1,hl1⟩:=Kb2.1 hx
 have z1 : (ks.length : Int) ≤ 140737488355328:=by have:=hk1.1;have:=hk1.2.1;omega
 have z2 : (l.length : Int) ≤ 140737488355328:=by have:=hl1.1.2.1;omega
 have hh : headV Lib.validD (.mk k b n t ks l) = (decide (0 ≤ k) && decide (k ≤ 7) && bareV (.mk k b n t ks l) && (!(k == 6 || k == 7) || decide (0 ≤ n)) && Lib.validD t && (!(k == 5) || ks.length == l.length)):=rfl
 have HU:=yh (fun (W : World)=>utfR_any t W htx)
 have HK:=yh (And.intro hk1 (And.intro hl1 ih))
 have HT:=yh hT
 have px0:=Kah (o:=0) hT.1 rfl;have px1:=Kah (o:=1) hT.1 rfl;have px2:=Kah (o:=2) hT.1 rfl;have px3:=Kah (o:=3) hT.1 rfl;have px4:=Kah (o:=4) hT.1 rfl;have px5:=Kah (o:=5) hT.1 rfl
 clear ih hx hk1 hl1 hT htx px0 px1 px2 px3 px4 px5
 generalize bareV (.mk k b n t ks l) = B at *
 generalize Lib.validD t = U at *
 cases hc : headV Lib.validD (.mk k b n t ks l) with
 | false =>
   rw [hc] at hh
   have hh2 : B = true → U = true → (k < 0 ∨ 7 < k ∨ ((k = 6 ∨ k = 7) ∧ n < 0) ∨ (k = 5 ∧ (ks.length : Int) ≠ l.length)):=by
    rintro rfl rfl
    by_cases h : k < 0 ∨ 7 < k ∨ ((k = 6 ∨ k = 7) ∧ n < 0) ∨ (k = 5 ∧ (ks.length : Int) ≠ l.length)
    ·exact h
    ·have : (decide (0 ≤ k) && decide (k ≤ 7) && true && (!(k == 6 || k == 7) || decide (0 ≤ n)) && true && (!(k == 5) || ks.length == l.length)) = true:=by
      simp only [Bool.and_eq_true,decide_eq_true_eq,Bool.or_eq_true,Bool.not_eq_true',Bool.or_eq_false_iff,beq_eq_false_iff_ne,beq_iff_eq]
      exact ⟨⟨⟨⟨⟨by omega,by omega⟩,trivial⟩,by omega⟩,trivial⟩,by omega⟩
     rw [this] at hh
     cases hh
   have HH:=yh hh2
   clear hh hc hh2
   by_cases hlen : (ks.length : Int) = l.length
   all_goals cases B
   all_goals cases U
   all_goals
    go_enter Tryz.func133,Tryz.ntmps133
    go_wp2_with (first
     | (go_at_call 185
        (
          refine (HBR.out _ HT.out.2).mono ?_
          rintro e w1 ⟨rfl,hb⟩
          have hT1:=HT.out.below hb
          have px0:=Kah (o:=0) hT1.1 rfl;have px1:=Kah (o:=1) hT1.1 rfl;have px2:=Kah (o:=2) hT1.1 rfl;have px3:=Kah (o:=3) hT1.1 rfl;have px4:=Kah (o:=4) hT1.1 rfl;have px5:=Kah (o:=5) hT1.1 rfl
          have HT:=yh hT1
          clear hT1 hb))
     | (go_at_call 95;refine (HU.out _).mono ?_;rintro e w' ⟨rfl,rfl⟩))
    all_goals first
     | (go_ret;exact ⟨rfl,HT.out.2⟩)
     | (exfalso;have h:=HH.out (by trivial) (by trivial);omega)
 | true =>
   rw [hc] at hh
   have h1:=hh.symm
   simp only [Bool.and_eq_true,decide_eq_true_eq,Bool.or_eq_true,Bool.not_eq_true',Bool.or_eq_false_iff,beq_eq_false_iff_ne,beq_iff_eq] at h1
   obtain ⟨⟨⟨⟨⟨k0,k7⟩,rfl⟩,h67⟩,rfl⟩,h5⟩:=h1
   clear hh hc
   have hcs : (k = 5 ∧ (ks.length : Int) = l.length) ∨ (k = 6 ∧ 0 ≤ n) ∨ (k = 7 ∧ 0 ≤ n) ∨ (0 ≤ k ∧ k ≤ 4):=by omega
   have g0 : ¬ k < 0:=by omega
   have g7 : ¬ 7 < k:=by omega
   have hfacts : ((k == 5) = true ∧ (k == 6) = false ∧ (k == 7) = false ∧ ((ks.length : Int) != (l.length : Int)) = false) ∨ ((k == 5) = false ∧ (k == 6) = true ∧ (k == 7) = false ∧ ¬ n < 0) ∨ ((k == 5) = false ∧ (k == 6) = false ∧ (k == 7) = true ∧ ¬ n < 0) ∨ ((k == 5) = false ∧ (k == 6) = false ∧ (k == 7) = false ∧ (0 : Int) ≤ 0):=by
    simp only [beq_iff_eq,beq_eq_false_iff_ne,bne_eq_false_iff_eq]
    omega
   clear h67 h5 k0 k7 hcs
   rcases hfacts with ⟨d5,d6,d7,d8⟩ | ⟨d5,d6,d7,d8⟩ | ⟨d5,d6,d7,d8⟩ | ⟨d5,d6,d7,d8⟩
   all_goals
    go_enter Tryz.func133,Tryz.ntmps133
    go_wp2_with (first
     | (go_at_call 185
        (
          refine (HBR.out _ HT.out.2).mono ?_
          rintro e w1 ⟨rfl,hb⟩
          have hT1:=HT.out.below hb
          have px0:=Kah (o:=0) hT1.1 rfl;have px1:=Kah (o:=1) hT1.1 rfl;have px2:=Kah (o:=2) hT1.1 rfl;have px3:=Kah (o:=3) hT1.1 rfl;have px4:=Kah (o:=4) hT1.1 rfl;have px5:=Kah (o:=5) hT1.1 rfl
          have HT:=yh hT1
          clear hT1 hb))
     | (go_at_call 95;refine (HU.out _).mono ?_;rintro e w' ⟨rfl,rfl⟩))
    clear d5 d6 d7 d8 g0 g7 px0 px1 px2 px3 px4 px5
    have HT0:=HT
    go_loopw [3] (fun i W=>∃ j : Nat,j ≤ ks.length ∧ i = .int .i64 (j : Int) ∧ Hid (KeysOk (ks.take j)) ∧ Hid (OneB w W #[.int .i64 k,.bool b,.int .i64 n,.string (strB t),.slice pk ks.length ck,.slice pl l.length cl])) (fun i _=>ks.length - (intOf i).toNat)
    case atStart=>exact ⟨0,Nat.zero_le _,rfl,yh ⟨rfl,rfl⟩,HT0⟩
    case round =>
     clear HT HT0
     obtain ⟨j,hj,rfl,HQ,HT⟩:=hrel
     have hT1:=HT.out
     have px0:=Kah (o:=0) hT1.1 rfl;have px1:=Kah (o:=1) hT1.1 rfl;have px2:=Kah (o:=2) hT1.1 rfl;have px3:=Kah (o:=3) hT1.1 rfl;have px4:=Kah (o:=4) hT1.1 rfl;have px5:=Kah (o:=5) hT1.1 rfl
     by_cases hlt : j < ks.length
     ·have hlt1 : j + 1 ≤ ks.length:=hlt
      obtain ⟨bk,ok,rfl,q0,ql⟩:=(HK.out.1.below hT1.2).get hlt
      have hcu:=fun (W : World)=>utfR_any ks[j] W ql
      have htk : ks.take (j + 1) = ks.take j ++ [ks[j]]:=List.take_succ_eq_append_getElem hlt
      have hall : (ks.take (j + 1)).all Lib.validD = Lib.validD ks[j]:=by rw [htk,List.all_append,HQ.out.1];simp
      have hno : Lib.validD ks[j] = false → ks.all Lib.validD = false:=fun h=>List.all_eq_false.2 ⟨ks[j],List.getElem_mem hlt,by rw [h];simp⟩
      clear hT1 ql
      go_wp2
      cases hv : Lib.validD ks[j] with
      | false =>
        simp only [hv] at hcu
        have hU : KeyU w #[.int .i64 k,.bool b,.int .i64 n,.string (strB t),.slice (some ⟨bk,ok,none⟩) ks.length ck,.slice pl l.length cl] bk (ok + j) (ok + j) ks[j] ks[j] wr.drew:=⟨HT.out.below (Below.refl _ _).drew,q0,q0⟩
        refine Kaf (fun W=>KeyU w #[.int .i64 k,.bool b,.int .i64 n,.string (strB t),.slice (some ⟨bk,ok,none⟩) ks.length ck,.slice pl l.length cl] bk (ok + j) (ok + j) ks[j] ks[j] W) (by kernel_rfl) hU (fun hU=>?_)
        refine tk 0 60 (v:=.pointer (some ⟨w.heap.size,4,none⟩)) rfl rfl (fun W hW=>Kac rfl rfl (Ka8 _ _ (by decide) W)) ?_
        simp only [Act.put,sA,sZ,sS]
        refine tk 1 61 (v:=.slice (some ⟨bk,ok,none⟩) ks.length ck) rfl rfl (fun W hW=>Kad rfl rfl (Kae (w:=W) Tryz.underlying26 rfl (Kah hW.box.1 rfl))) ?_
        simp only [Act.put,sA,sZ,sS]
        refine tk 2 62 (v:=.int .i64 (j : Int)) rfl rfl (fun W hW=>Kab rfl rfl) ?_
        simp only [Act.put,sA,sZ,sS]
        refine tk 3 63 (v:=.pointer (some ⟨bk,ok + j,none⟩)) rfl rfl (fun W hW=>Kaj rfl rfl rfl (ia_keys _ _ _ _ _ hlt W)) ?_
        simp only [Act.put,sA,sZ,sS]
        refine tk 4 64 (v:=.string (strB ks[j])) rfl rfl (fun W hW=>Kad rfl rfl (Kae (w:=W) Tryz.underlying9 rfl hW.two)) ?_
        simp only [Act.put,sA,sZ,sS]
        refine Kao 5 65 rfl rfl (by kernel_rfl) rfl (Kan [.string (strB ks[j])] rfl rfl Tryz.func95 (by kernel_rfl) (by kernel_rfl)) ?_
        refine (hcu _).mono ?_
        rintro e w' ⟨rfl,rfl⟩
        refine ⟨_,rfl,.inr (by assumption),?_⟩
        simp only [Act.put,sA,sZ,sS]
        refine tk 6 66 (v:=.bool true) rfl rfl (fun W hW=>Kar (b:=false) rfl rfl) ?_
        simp only [Act.put,sA,sZ,sS]
        refine tk 7 67 (v:=.bool true) rfl rfl (fun W hW=>Kab rfl rfl) ?_
        simp only [Act.put,sA,sZ,sS]
        refine tn 8 68 rfl rfl ?_
        simp only [Act.put,sA,sZ,sS]
        refine tn 9 69 rfl rfl ?_
        simp only [Act.put,sA,sZ,sS]
        refine tn 10 70 rfl rfl ?_
        simp only [Act.put,sA,sZ,sS]
        refine tn 11 71 rfl rfl ?_
        simp only [Act.put,sA,sZ,sS]
        refine tn 12 72 rfl rfl ?_
        simp only [Act.put,sA,sZ,sS]
        refine tn 13 73 rfl rfl ?_
        simp only [Act.put,sA,sZ,sS]
        refine tn 14 74 rfl rfl ?_
        simp only [Act.put,sA,sZ,sS]
        refine tn 15 75 rfl rfl ?_
        simp only [Act.put,sA,sZ,sS]
        refine tn 16 76 rfl rfl ?_
        simp only [Act.put,sA,sZ,sS]
        refine tn 17 77 rfl rfl ?_
        simp only [Act.put,sA,sZ,sS]
        refine tn 18 78 rfl rfl ?_
        simp only [Act.put,sA,sZ,sS]
        refine tn 19 79 rfl rfl ?_
        simp only [Act.put,sA,sZ,sS]
        refine tn 20 80 rfl rfl ?_
        simp only [Act.put,sA,sZ,sS]
        refine tn 21 81 rfl rfl ?_
        simp only [Act.put,sA,sZ,sS]
        refine tn 22 82 rfl rfl ?_
        simp only [Act.put,sA,sZ,sS]
        refine tn 23 83 rfl rfl ?_
        simp only [Act.put,sA,sZ,sS]
        refine tk 24 84 (v:=.bool true) rfl rfl (fun W hW=>rfl) ?_
        simp only [Act.put,sA,sZ,sS]
        refine done (by kernel_rfl) ?_ _
        go_wp2
        go_ret
        exact ⟨Kam (by rw [hno hv];simp),hU.box.2⟩
      | true =>
        simp only [hv] at hcu
        rw [hv] at hall
        by_cases hj0 : j = 0
        ·have hgt : ∀ W : World,(binOp .gtr 3 (.int .i64 (j : Int)) (.int .i64 0)).run Tryz.prog W = .ok (.bool false) W:=by
          intro W;simp [go_sem,hj0]
         have hU : KeyU w #[.int .i64 k,.bool b,.int .i64 n,.string (strB t),.slice (some ⟨bk,ok,none⟩) ks.length ck,.slice pl l.length cl] bk (ok + j) (ok + j) ks[j] ks[j] wr.drew:=⟨HT.out.below (Below.refl _ _).drew,q0,q0⟩
         refine Kaf (fun W=>KeyU w #[.int .i64 k,.bool b,.int .i64 n,.string (strB t),.slice (some ⟨bk,ok,none⟩) ks.length ck,.slice pl l.length cl] bk (ok + j) (ok + j) ks[j] ks[j] W) (by kernel_rfl) hU (fun hU=>?_)
         refine tk 0 60 (v:=.pointer (some ⟨w.heap.size,4,none⟩)) rfl rfl (fun W hW=>Kac rfl rfl (Ka8 _ _ (by decide) W)) ?_
         simp only [Act.put,sA,sZ,sS]
         refine tk 1 61 (v:=.slice (some ⟨bk,ok,none⟩) ks.length ck) rfl rfl (fun W hW=>Kad rfl rfl (Kae (w:=W) Tryz.underlying26 rfl (Kah hW.box.1 rfl))) ?_
         simp only [Act.put,sA,sZ,sS]
         refine tk 2 62 (v:=.int .i64 (j : Int)) rfl rfl (fun W hW=>Kab rfl rfl) ?_
         simp only [Act.put,sA,sZ,sS]
         refine tk 3 63 (v:=.pointer (some ⟨bk,ok + j,none⟩)) rfl rfl (fun W hW=>Kaj rfl rfl rfl (ia_keys _ _ _ _ _ hlt W)) ?_
         simp only [Act.put,sA,sZ,sS]
         refine tk 4 64 (v:=.string (strB ks[j])) rfl rfl (fun W hW=>Kad rfl rfl (Kae (w:=W) Tryz.underlying9 rfl hW.two)) ?_
         simp only [Act.put,sA,sZ,sS]
         refine Kao 5 65 rfl rfl (by kernel_rfl) rfl (Kan [.string (strB ks[j])] rfl rfl Tryz.func95 (by kernel_rfl) (by kernel_rfl)) ?_
         refine (hcu _).mono ?_
         rintro e w' ⟨rfl,rfl⟩
         refine ⟨_,rfl,.inr (by assumption),?_⟩
         simp only [Act.put,sA,sZ,sS]
         refine tk 6 66 (v:=.bool false) rfl rfl (fun W hW=>Kar (b:=true) rfl rfl) ?_
         simp only [Act.put,sA,sZ,sS]
         refine tk 7 67 (v:=.bool false) rfl rfl (fun W hW=>Kab rfl rfl) ?_
         simp only [Act.put,sA,sZ,sS]
         refine tk 8 68 (v:=.int .i64 (j : Int)) rfl rfl (fun W hW=>Kab rfl rfl) ?_
         simp only [Act.put,sA,sZ,sS]
         refine tk 9 69 (v:=.bool false) rfl rfl (fun W hW=>Kal rfl rfl rfl (hgt W)) ?_
         simp only [Act.put,sA,sZ,sS]
         refine tk 10 70 (v:=.bool false) rfl rfl (fun W hW=>Kab rfl rfl) ?_
         simp only [Act.put,sA,sZ,sS]
         refine tn 11 71 rfl rfl ?_
         simp only [Act.put,sA,sZ,sS]
         refine tn 12 72 rfl rfl ?_
         simp only [Act.put,sA,sZ,sS]
         refine tn 13 73 rfl rfl ?_
         simp only [Act.put,sA,sZ,sS]
         refine tn 14 74 rfl rfl ?_
         simp only [Act.put,sA,sZ,sS]
         refine tn 15 75 rfl rfl ?_
         simp only [Act.put,sA,sZ,sS]
         refine tn 16 76 rfl rfl ?_
         simp only [Act.put,sA,sZ,sS]
         refine tn 17 77 rfl rfl ?_
         simp only [Act.put,sA,sZ,sS]
         refine tn 18 78 rfl rfl ?_
         simp only [Act.put,sA,sZ,sS]
         refine tn 19 79 rfl rfl ?_
         simp only [Act.put,sA,sZ,sS]
         refine tn 20 80 rfl rfl ?_
         simp only [Act.put,sA,sZ,sS]
         refine tn 21 81 rfl rfl ?_
         simp only [Act.put,sA,sZ,sS]
         refine tn 22 82 rfl rfl ?_
         simp only [Act.put,sA,sZ,sS]
         refine tk 23 83 (v:=.bool false) rfl rfl (fun W hW=>rfl) ?_
         simp only [Act.put,sA,sZ,sS]
         refine tk 24 84 (v:=.bool false) rfl rfl (fun W hW=>rfl) ?_
         simp only [Act.put,sA,sZ,sS]
         refine done (by kernel_rfl) ?_ _
         have hr : Kav (ks.take (j + 1)) = true:=by
          have e : ks.take j = []:=by rw [hj0];rfl
          rw [htk,e];rfl
         have HN:=yh (show KeysOk (ks.take (j + 1)) from And.intro hall hr)
         have HT0:=yh hU.box
         have px4:=Kah (o:=4) hU.box.1 rfl
         clear hU hcu htk hall hno hr q0 HQ
         go_wp2
         go_roundw
         case rel=>exact ⟨j + 1,hlt1,by go_num,HN,HT0⟩
         case measure=>simp [intOf];omega
        ·obtain ⟨m,hm⟩ : ∃ m,j = m + 1:=⟨j - 1,by omega⟩
         have hmn : m < ks.length:=by omega
         obtain ⟨bk',ok',hp',q1,_⟩:=(HK.out.1.below HT.out.2).get hmn
         cases hp'
         have hgt : ∀ W : World,(binOp .gtr 3 (.int .i64 (j : Int)) (.int .i64 0)).run Tryz.prog W = .ok (.bool true) W:=by
          intro W;simp [go_sem];omega
         have hsub : ∀ W : World,(binOp .sub 3 (.int .i64 (j : Int)) (.int .i64 1)).run Tryz.prog W = .ok (.int .i64 (m : Int)) W:=by
          intro W
          have e : IntKind.i64.wrap ((j : Int) - 1) = m:=by simp [IntKind.wrap,IntKind.signed,IntKind.bits];omega
          simp [go_sem,e]
         have hU : KeyU w #[.int .i64 k,.bool b,.int .i64 n,.string (strB t),.slice (some ⟨bk,ok,none⟩) ks.length ck,.slice pl l.length cl] bk (ok + m) (ok + j) ks[m] ks[j] wr.drew:=⟨HT.out.below (Below.refl _ _).drew,q1,q0⟩
         have hrs : Kav (ks.take (j + 1)) = (Kav (ks.take j) && ltB ks[m] ks[j]):=by
          have h1:=Kcs (l:=ks) (j:=m) (by omega)
          have e3 : ks[m + 1]'(by omega) = ks[j]:=by simp only [hm]
          rw [show ks.take (j + 1) = ks.take (m + 2) by rw [hm],h1,e3,show ks.take (m + 1) = ks.take j by rw [hm]]
         cases hlb : ltB ks[m] ks[j] with
         | false =>
           have hge : ∀ W : World,(binOp .geq 9 (.string (strB ks[m])) (.string (strB ks[j]))).run Tryz.prog W = .ok (.bool true) W:=fun W=>by rw [geq_str,hlb];rfl
           refine Kaf (fun W=>KeyU w #[.int .i64 k,.bool b,.int .i64 n,.string (strB t),.slice (some ⟨bk,ok,none⟩) ks.length ck,.slice pl l.length cl] bk (ok + m) (ok + j) ks[m] ks[j] W) (by kernel_rfl) hU (fun hU=>?_)
           refine tk 0 60 (v:=.pointer (some ⟨w.heap.size,4,none⟩)) rfl rfl (fun W hW=>Kac rfl rfl (Ka8 _ _ (by decide) W)) ?_
           simp only [Act.put,sA,sZ,sS]
           refine tk 1 61 (v:=.slice (some ⟨bk,ok,none⟩) ks.length ck) rfl rfl (fun W hW=>Kad rfl rfl (Kae (w:=W) Tryz.underlying26 rfl (Kah hW.box.1 rfl))) ?_
           simp only [Act.put,sA,sZ,sS]
           refine tk 2 62 (v:=.int .i64 (j : Int)) rfl rfl (fun W hW=>Kab rfl rfl) ?_
           simp only [Act.put,sA,sZ,sS]
           refine tk 3 63 (v:=.pointer (some ⟨bk,ok + j,none⟩)) rfl rfl (fun W hW=>Kaj rfl rfl rfl (ia_keys _ _ _ _ _ hlt W)) ?_
           simp only [Act.put,sA,sZ,sS]
           refine tk 4 64 (v:=.string (strB ks[j])) rfl rfl (fun W hW=>Kad rfl rfl (Kae (w:=W) Tryz.underlying9 rfl hW.two)) ?_
           simp only [Act.put,sA,sZ,sS]
           refine Kao 5 65 rfl rfl (by kernel_rfl) rfl (Kan [.string (strB ks[j])] rfl rfl Tryz.func95 (by kernel_rfl) (by kernel_rfl)) ?_
           refine (hcu _).mono ?_
           rintro e w' ⟨rfl,rfl⟩
           refine ⟨_,rfl,.inr (by assumption),?_⟩
           simp only [Act.put,sA,sZ,sS]
           refine tk 6 66 (v:=.bool false) rfl rfl (fun W hW=>Kar (b:=true) rfl rfl) ?_
           simp only [Act.put,sA,sZ,sS]
           refine tk 7 67 (v:=.bool false) rfl rfl (fun W hW=>Kab rfl rfl) ?_
           simp only [Act.put,sA,sZ,sS]
           refine tk 8 68 (v:=.int .i64 (j : Int)) rfl rfl (fun W hW=>Kab rfl rfl) ?_
           simp only [Act.put,sA,sZ,sS]
           refine tk 9 69 (v:=.bool true) rfl rfl (fun W hW=>Kal rfl rfl rfl (hgt W)) ?_
           simp only [Act.put,sA,sZ,sS]
           refine tk 10 70 (v:=.bool true) rfl rfl (fun W hW=>Kab rfl rfl) ?_
           simp only [Act.put,sA,sZ,sS]
           refine tk 11 71 (v:=.pointer (some ⟨w.heap.size,4,none⟩)) rfl rfl (fun W hW=>Kac rfl rfl (Ka8 _ _ (by decide) W)) ?_
           simp only [Act.put,sA,sZ,sS]
           refine tk 12 72 (v:=.slice (some ⟨bk,ok,none⟩) ks.length ck) rfl rfl (fun W hW=>Kad rfl rfl (Kae (w:=W) Tryz.underlying26 rfl (Kah hW.box.1 rfl))) ?_
           simp only [Act.put,sA,sZ,sS]
           refine tk 13 73 (v:=.int .i64 (j : Int)) rfl rfl (fun W hW=>Kab rfl rfl) ?_
           simp only [Act.put,sA,sZ,sS]
           refine tk 14 74 (v:=.int .i64 (m : Int)) rfl rfl (fun W hW=>Kal rfl rfl rfl (hsub W)) ?_
           simp only [Act.put,sA,sZ,sS]
           refine tk 15 75 (v:=.pointer (some ⟨bk,ok + m,none⟩)) rfl rfl (fun W hW=>Kaj rfl rfl rfl (ia_keys _ _ _ _ _ hmn W)) ?_
           simp only [Act.put,sA,sZ,sS]
           refine tk 16 76 (v:=.string (strB ks[m])) rfl rfl (fun W hW=>Kad rfl rfl (Kae (w:=W) Tryz.underlying9 rfl hW.one)) ?_
           simp only [Act.put,sA,sZ,sS]
           refine tk 17 77 (v:=.pointer (some ⟨w.heap.size,4,none⟩)) rfl rfl (fun W hW=>Kac rfl rfl (Ka8 _ _ (by decide) W)) ?_
           simp only [Act.put,sA,sZ,sS]
           refine tk 18 78 (v:=.slice (some ⟨bk,ok,none⟩) ks.length ck) rfl rfl (fun W hW=>Kad rfl rfl (Kae (w:=W) Tryz.underlying26 rfl (Kah hW.box.1 rfl))) ?_
           simp only [Act.put,sA,sZ,sS]
           refine tk 19 79 (v:=.int .i64 (j : Int)) rfl rfl (fun W hW=>Kab rfl rfl) ?_
           simp only [Act.put,sA,sZ,sS]
           refine tk 20 80 (v:=.pointer (some ⟨bk,ok + j,none⟩)) rfl rfl (fun W hW=>Kaj rfl rfl rfl (ia_keys _ _ _ _ _ hlt W)) ?_
           simp only [Act.put,sA,sZ,sS]
           refine tk 21 81 (v:=.string (strB ks[j])) rfl rfl (fun W hW=>Kad rfl rfl (Kae (w:=W) Tryz.underlying9 rfl hW.two)) ?_
           simp only [Act.put,sA,sZ,sS]
           refine tk 22 82 (v:=.bool true) rfl rfl (fun W hW=>Kcf rfl rfl rfl (hge W)) ?_
           simp only [Act.put,sA,sZ,sS]
           refine tk 23 83 (v:=.bool true) rfl rfl (fun W hW=>rfl) ?_
           simp only [Act.put,sA,sZ,sS]
           refine tk 24 84 (v:=.bool true) rfl rfl (fun W hW=>rfl) ?_
           simp only [Act.put,sA,sZ,sS]
           refine done (by kernel_rfl) ?_ _
           have hrf : Kav ks = false:=by
            cases hrb : Kav ks with
            | false=>rfl
            | true =>
              have:=Kd3 hrb (j + 1) hlt1
              rw [hrs,hlb] at this
              simp at this
           go_wp2
           go_ret
           exact ⟨Kam (by rw [hrf];simp),hU.box.2⟩
         | true =>
           have hge : ∀ W : World,(binOp .geq 9 (.string (strB ks[m])) (.string (strB ks[j]))).run Tryz.prog W = .ok (.bool false) W:=fun W=>by rw [geq_str,hlb];rfl
           refine Kaf (fun W=>KeyU w #[.int .i64 k,.bool b,.int .i64 n,.string (strB t),.slice (some ⟨bk,ok,none⟩) ks.length ck,.slice pl l.length cl] bk (ok + m) (ok + j) ks[m] ks[j] W) (by kernel_rfl) hU (fun hU=>?_)
           refine tk 0 60 (v:=.pointer (some ⟨w.heap.size,4,none⟩)) rfl rfl (fun W hW=>Kac rfl rfl (Ka8 _ _ (by decide) W)) ?_
           simp only [Act.put,sA,sZ,sS]
           refine tk 1 61 (v:=.slice (some ⟨bk,ok,none⟩) ks.length ck) rfl rfl (fun W hW=>Kad rfl rfl (Kae (w:=W) Tryz.underlying26 rfl (Kah hW.box.1 rfl))) ?_
           simp only [Act.put,sA,sZ,sS]
           refine tk 2 62 (v:=.int .i64 (j : Int)) rfl rfl (fun W hW=>Kab rfl rfl) ?_
           simp only [Act.put,sA,sZ,sS]
           refine tk 3 63 (v:=.pointer (some ⟨bk,ok + j,none⟩)) rfl rfl (fun W hW=>Kaj rfl rfl rfl (ia_keys _ _ _ _ _ hlt W)) ?_
           simp only [Act.put,sA,sZ,sS]
           refine tk 4 64 (v:=.string (strB ks[j])) rfl rfl (fun W hW=>Kad rfl rfl (Kae (w:=W) Tryz.underlying9 rfl hW.two)) ?_
           simp only [Act.put,sA,sZ,sS]
           refine Kao 5 65 rfl rfl (by kernel_rfl) rfl (Kan [.string (strB ks[j])] rfl rfl Tryz.func95 (by kernel_rfl) (by kernel_rfl)) ?_
           refine (hcu _).mono ?_
           rintro e w' ⟨rfl,rfl⟩
           refine ⟨_,rfl,.inr (by assumption),?_⟩
           simp only [Act.put,sA,sZ,sS]
           refine tk 6 66 (v:=.bool false) rfl rfl (fun W hW=>Kar (b:=true) rfl rfl) ?_
           simp only [Act.put,sA,sZ,sS]
           refine tk 7 67 (v:=.bool false) rfl rfl (fun W hW=>Kab rfl rfl) ?_
           simp only [Act.put,sA,sZ,sS]
           refine tk 8 68 (v:=.int .i64 (j : Int)) rfl rfl (fun W hW=>Kab rfl rfl) ?_
           simp only [Act.put,sA,sZ,sS]
           refine tk 9 69 (v:=.bool true) rfl rfl (fun W hW=>Kal rfl rfl rfl (hgt W)) ?_
           simp only [Act.put,sA,sZ,sS]
           refine tk 10 70 (v:=.bool true) rfl rfl (fun W hW=>Kab rfl rfl) ?_
           simp only [Act.put,sA,sZ,sS]
           refine tk 11 71 (v:=.pointer (some ⟨w.heap.size,4,none⟩)) rfl rfl (fun W hW=>Kac rfl rfl (Ka8 _ _ (by decide) W)) ?_
           simp only [Act.put,sA,sZ,sS]
           refine tk 12 72 (v:=.slice (some ⟨bk,ok,none⟩) ks.length ck) rfl rfl (fun W hW=>Kad rfl rfl (Kae (w:=W) Tryz.underlying26 rfl (Kah hW.box.1 rfl))) ?_
           simp only [Act.put,sA,sZ,sS]
           refine tk 13 73 (v:=.int .i64 (j : Int)) rfl rfl (fun W hW=>Kab rfl rfl) ?_
           simp only [Act.put,sA,sZ,sS]
           refine tk 14 74 (v:=.int .i64 (m : Int)) rfl rfl (fun W hW=>Kal rfl rfl rfl (hsub W)) ?_
           simp only [Act.put,sA,sZ,sS]
           refine tk 15 75 (v:=.pointer (some ⟨bk,ok + m,none⟩)) rfl rfl (fun W hW=>Kaj rfl rfl rfl (ia_keys _ _ _ _ _ hmn W)) ?_
           simp only [Act.put,sA,sZ,sS]
           refine tk 16 76 (v:=.string (strB ks[m])) rfl rfl (fun W hW=>Kad rfl rfl (Kae (w:=W) Tryz.underlying9 rfl hW.one)) ?_
           simp only [Act.put,sA,sZ,sS]
           refine tk 17 77 (v:=.pointer (some ⟨w.heap.size,4,none⟩)) rfl rfl (fun W hW=>Kac rfl rfl (Ka8 _ _ (by decide) W)) ?_
           simp only [Act.put,sA,sZ,sS]
           refine tk 18 78 (v:=.slice (some ⟨bk,ok,none⟩) ks.length ck) rfl rfl (fun W hW=>Kad rfl rfl (Kae (w:=W) Tryz.underlying26 rfl (Kah hW.box.1 rfl))) ?_
           simp only [Act.put,sA,sZ,sS]
           refine tk 19 79 (v:=.int .i64 (j : Int)) rfl rfl (fun W hW=>Kab rfl rfl) ?_
           simp only [Act.put,sA,sZ,sS]
           refine tk 20 80 (v:=.pointer (some ⟨bk,ok + j,none⟩)) rfl rfl (fun W hW=>Kaj rfl rfl rfl (ia_keys _ _ _ _ _ hlt W)) ?_
           simp only [Act.put,sA,sZ,sS]
           refine tk 21 81 (v:=.string (strB ks[j])) rfl rfl (fun W hW=>Kad rfl rfl (Kae (w:=W) Tryz.underlying9 rfl hW.two)) ?_
           simp only [Act.put,sA,sZ,sS]
           refine tk 22 82 (v:=.bool false) rfl rfl (fun W hW=>Kcf rfl rfl rfl (hge W)) ?_
           simp only [Act.put,sA,sZ,sS]
           refine tk 23 83 (v:=.bool false) rfl rfl (fun W hW=>rfl) ?_
           simp only [Act.put,sA,sZ,sS]
           refine tk 24 84 (v:=.bool false) rfl rfl (fun W hW=>rfl) ?_
           simp only [Act.put,sA,sZ,sS]
           refine done (by kernel_rfl) ?_ _
           have hr : Kav (ks.take (j + 1)) = true:=by rw [hrs,hlb,HQ.out.2];rfl
           have HN:=yh (show KeysOk (ks.take (j + 1)) from And.intro hall hr)
           have HT0:=yh hU.box
           have px4:=Kah (o:=4) hU.box.1 rfl
           clear hU hcu htk hall hno hr q0 q1 HQ hrs hm hsub hgt hge
           go_wp2
           go_roundw
           case rel=>exact ⟨j + 1,hlt1,by go_num,HN,HT0⟩
           case measure=>simp [intOf];omega
     ·obtain rfl : j = ks.length:=by omega
      have hR:=HQ.out
      rw [List.take_length] at hR
      have HR:=yh hR
      have HT0:=HT
      clear hT1 hR HQ
      go_wp2
      go_loopw [4] (fun i W=>∃ j : Nat,j ≤ l.length ∧ i = .int .i64 (j : Int) ∧ Hid (ValsOk (l.take j)) ∧ Hid (OneB w W #[.int .i64 k,.bool b,.int .i64 n,.string (strB t),.slice pk ks.length ck,.slice pl l.length cl])) (fun i _=>l.length - (intOf i).toNat)
      case atStart=>exact ⟨0,Nat.zero_le _,rfl,yh rfl,HT0⟩
      case round =>
       clear HT HT0 px0 px1 px2 px3 px4 px5
       obtain ⟨j,hj,rfl,HQ,HT⟩:=hrel
       have hT1:=HT.out
       have px0:=Kah (o:=0) hT1.1 rfl;have px1:=Kah (o:=1) hT1.1 rfl;have px2:=Kah (o:=2) hT1.1 rfl;have px3:=Kah (o:=3) hT1.1 rfl;have px4:=Kah (o:=4) hT1.1 rfl;have px5:=Kah (o:=5) hT1.1 rfl
       by_cases hlt : j < l.length
       ·have hlt1 : j + 1 ≤ l.length:=hlt
        obtain ⟨g1,o1,pk1,ck1,pl1,cl1,rfl,⟨a0,a1,a2,a3,a4,a5⟩,hv1⟩:=(HK.out.2.1.below hT1.2).at hlt
        have hcall:=HK.out.2.2 l[j] (List.getElem_mem hlt) _ _ hv1
        have htk : (l.take (j + 1)).all (mayV Lib.validD) = mayV Lib.validD l[j]:=by
         have hq : (l.take j).all (mayV Lib.validD) = true:=HQ.out
         rw [List.take_succ_eq_append_getElem hlt,List.all_append,hq];simp
        have hno : mayV Lib.validD l[j] = false → l.all (mayV Lib.validD) = false:=fun h=>List.all_eq_false.2 ⟨l[j],List.getElem_mem hlt,by rw [h];simp⟩
        generalize mayV Lib.validD l[j] = on at *
        generalize l[j] = s1 at *
        have hok : on = true → ValsOk (l.take (j + 1)):=fun h=>htk.trans h
        have hnok : on = false → l.all (mayV Lib.validD) = false:=hno
        cases on with
        | true =>
          have hv:=hok rfl
          have HD:=yh (And.intro hcall (And.intro hv hT1))
          clear hcall htk hno hv1 hT1 hok hnok hv
          go_wp2_with (go_at_call 133
                       (
                         refine HD.out.1.mono ?_
                         rintro e w3 ⟨rfl,hb3⟩
                         have HG:=yh (HD.out.2.2.below hb3)
                         clear hb3))
          go_roundw
          case rel=>exact ⟨j + 1,hlt1,by go_num,yh HD.out.2.1,HG⟩
          case measure=>simp [intOf];omega
        | false =>
          have hv:=MayNo.mk (hnok rfl)
          have HD:=yh (And.intro hcall (And.intro hv hT1))
          clear hcall htk hno hv1 hT1 hok hnok hv
          go_wp2_with (go_at_call 133
                       (
                         refine HD.out.1.mono ?_
                         rintro e w3 ⟨rfl,hb3⟩
                         have HG:=yh (HD.out.2.2.below hb3)
                         clear hb3))
          go_ret
          exact ⟨Kam (by rw [HD.out.2.1.no];simp),HG.out.2⟩
       ·obtain rfl : j = l.length:=by omega
        have hQ:=HQ.out
        rw [List.take_length] at hQ
        have HQ2:=yh hQ
        clear hT1 hQ
        go_wp2
        go_ret
        exact ⟨Kam (by rw [HR.out.1,HR.out.2,HQ2.out];rfl),HT.out.2⟩
theorem countV_mk (k : Int) (b : Bool) (n : Int) (t : List UInt8) (ks : List (List UInt8)) (l : List V) : countV (.mk k b n t ks l) = 1 + Kb0 l:=by rw [countV]
theorem deepV_mk (k : Int) (b : Bool) (n : Int) (t : List UInt8) (ks : List (List UInt8)) (l : List V) : deepV (.mk k b n t ks l) = Kby l + 1:=by rw [deepV]
theorem bytesV_mk (k : Int) (b : Bool) (n : Int) (t : List UInt8) (ks : List (List UInt8)) (l : List V) : Kcl (.mk k b n t ks l) = t.length + (ks.map List.length).sum + Kbh l:=by rw [Kcl]
theorem longV_mk (k : Int) (b : Bool) (n : Int) (t : List UInt8) (ks : List (List UInt8)) (l : List V) : longV (.mk k b n t ks l) = max l.length (Kb9 l):=by rw [longV]
theorem countVs_snoc (l : List V) (v : V) : Kb0 (l ++ [v]) = Kb0 l + countV v:=by
 induction l with
 | nil=>simp [Kb0]
 | cons a r ih=>simp only [List.cons_append,Kb0,ih];omega
theorem deepVs_snoc (l : List V) (v : V) : Kby (l ++ [v]) = max (Kby l) (deepV v):=by
 induction l with
 | nil=>simp [Kby]
 | cons a r ih=>simp only [List.cons_append,Kby,ih];omega
theorem bytesVs_snoc (l : List V) (v : V) : Kbh (l ++ [v]) = Kbh l + Kcl v:=by
 induction l with
 | nil=>simp [Kbh]
 | cons a r ih=>simp only [List.cons_append,Kbh,ih];omega
theorem longVs_snoc (l : List V) (v : V) : Kb9 (l ++ [v]) = max (Kb9 l) (longV v):=by
 induction l with
 | nil=>simp [Kb9]
 | cons a r ih=>simp only [List.cons_append,Kb9,ih];omega
theorem sizes_tot : ∀ v : V,countV v ≤ totV v ∧ deepV v ≤ totV v ∧ Kcl v ≤ totV v ∧ longV v ≤ totV v:=by
 refine V.ind fun k b n t ks l ih=>?_
 have hl : Kb0 l ≤ totVs l ∧ Kby l ≤ totVs l ∧ Kbh l ≤ totVs l ∧ Kb9 l ≤ totVs l:=by
  induction l with
  | nil=>simp [Kb0,Kby,Kbh,Kb9]
  | cons a r ihr =>
    have h1:=ih a (by simp)
    have h2:=ihr fun v hv=>ih v (by simp [hv])
    simp only [Kb0,Kby,Kbh,Kb9,totVs]
    omega
 have hn:=Kdj l
 rw [countV_mk,deepV_mk,bytesV_mk,longV_mk,Kd4]
 omega
theorem exec_lenB {a : Act} {w : World} {o : Oper} {x : Operand} {l : List UInt8} (ho : o.op = .call { callee:=.builtin .len,args:=#[x],argTypes:=#[9] }) (hx : a.eval x = .string (strB l)) : (execOp a.eval o).run Tryz.prog w = .ok (.value (.int .i64 (l.length : Int))) w:=by
 have e : (strB l).size = l.length:=rfl
 unfold execOp;simp only [ho,resolve,invoke,Sem.run_bind,Sem.run_pure,Result.andThen_ok,List.map_toArray,List.map_cons,List.map_nil,hx];simp [go_sem,e]
theorem keysum_take (ks : List (List UInt8)) (j : Nat) : ((ks.take j).map List.length).sum ≤ (ks.map List.length).sum:=by
 have e : ks.take j ++ ks.drop j = ks:=List.take_append_drop _ _
 have h:=congrArg (fun l=>(l.map List.length).sum) e
 simp only [List.map_append,List.sum_append] at h
 omega
theorem totVs_take (l : List V) (j : Nat) : totVs (l.take j) ≤ totVs l:=by
 have e : l.take j ++ l.drop j = l:=List.take_append_drop _ _
 have:=congrArg totVs e
 rw [totVs_append] at this
 omega
theorem sizes_tots (l : List V) : Kb0 l ≤ totVs l ∧ Kby l ≤ totVs l ∧ Kbh l ≤ totVs l ∧ Kb9 l ≤ totVs l:=by
 induction l with
 | nil=>simp [Kb0,Kby,Kbh,Kb9]
 | cons a r ihr =>
   have h1:=sizes_tot a
   simp only [Kb0,Kby,Kbh,Kb9,totVs]
   omega
structure SixU (w : World) (X : Array Value) (bl o : Nat) (c0 c1 c2 c3 c4 c5 : Value) (W : World) : Prop where
 box : OneB w W X
 h0 : W.cell? ⟨bl,o,none⟩ = some c0
 h1 : W.cell? ⟨bl,o + 1,none⟩ = some c1
 h2 : W.cell? ⟨bl,o + 2,none⟩ = some c2
 h3 : W.cell? ⟨bl,o + 3,none⟩ = some c3
 h4 : W.cell? ⟨bl,o + 4,none⟩ = some c4
 h5 : W.cell? ⟨bl,o + 5,none⟩ = some c5
theorem SixU.keep {w W W' : World} {X : Array Value} {bl o : Nat} {c0 c1 c2 c3 c4 c5 : Value} (h : SixU w X bl o c0 c1 c2 c3 c4 c5 W) (b : Below W.heap.size W W') : SixU w X bl o c0 c1 c2 c3 c4 c5 W' :=
 ⟨h.box.below b,Kag b (ltOf h.h0) h.h0,Kag b (ltOf h.h1) h.h1,Kag b (ltOf h.h2) h.h2,Kag b (ltOf h.h3) h.h3,Kag b (ltOf h.h4) h.h4,Kag b (ltOf h.h5) h.h5⟩
theorem sizeR_any : ∀ (v : V) (w : World) (x : Array Value),totV v ≤ 1099511627776 → VRd w v x →
 Calls Tryz.prog 32 #[.agg x] w fun e w'=>e = .returned (.tuple #[.int .i64 (countV v : Int),.int .i64 (deepV v : Int),.int .i64 (Kcl v : Int),.int .i64 (longV v : Int)]) ∧ Below w.heap.size w w':=by
 refine V.ind fun k b n t ks l ih=>?_
 intro w x htot hx
 rw [Kd4] at htot
 have hT:=OneB.start w x
 obtain ⟨pk,ck,pl,cl,rfl,htx,hk1,hl1⟩:=Kb2.1 hx
 have z1 : (ks.length : Int) ≤ 140737488355328:=by have:=hk1.1;have:=hk1.2.1;omega
 have z2 : (l.length : Int) ≤ 140737488355328:=by have:=hl1.1.2.1;omega
 have HK:=yh (And.intro hk1 (And.intro hl1 (And.intro ih htot)))
 rw [countV_mk,deepV_mk,bytesV_mk,longV_mk]
 have hb0 : Kcl (.mk 0 false 0 t [] []) = t.length:=by rw [bytesV_mk];simp [Kbh]
 have hT0 : OneB w (w.alloc (.cells #[.int .i64 k,.bool b,.int .i64 n,.string (strB t),.slice pk ks.length ck,.slice pl l.length cl] 31)).drew #[.int .i64 k,.bool b,.int .i64 n,.string (strB t),.slice pk ks.length ck,.slice pl l.length cl]:=hT.below (Below.refl _ _).drew
 clear ih hx hk1 hl1 hT htx htot hb0
 go_enter Tryz.func32,Tryz.ntmps32
 go_wp2
 refine Kaf (fun W=>OneB w W #[.int .i64 k,.bool b,.int .i64 n,.string (strB t),.slice pk ks.length ck,.slice pl l.length cl]) (by kernel_rfl) hT0 (fun hU=>?_)
 refine tk 0 16 (v:=.pointer (some ⟨w.heap.size,3,none⟩)) rfl rfl (fun W hW=>Kac rfl rfl (Ka8 _ _ (by decide) W)) ?_
 simp only [Act.put,sA,sZ,sS]
 refine tk 1 17 (v:=.string (strB t)) rfl rfl (fun W hW=>Kad rfl rfl (Kae (w:=W) Tryz.underlying9 rfl (Kah hW.1 rfl))) ?_
 simp only [Act.put,sA,sZ,sS]
 refine tk 2 18 (v:=.int .i64 (t.length : Int)) rfl rfl (fun W hW=>exec_lenB rfl rfl) ?_
 simp only [Act.put,sA,sZ,sS]
 refine tk 3 19 (v:=.pointer (some ⟨w.heap.size,5,none⟩)) rfl rfl (fun W hW=>Kac rfl rfl (Ka8 _ _ (by decide) W)) ?_
 simp only [Act.put,sA,sZ,sS]
 refine tk 4 20 (v:=.slice pl l.length cl) rfl rfl (fun W hW=>Kad rfl rfl (Kae (w:=W) Tryz.underlying29 rfl (Kah hW.1 rfl))) ?_
 simp only [Act.put,sA,sZ,sS]
 refine tk 5 21 (v:=.int .i64 (l.length : Int)) rfl rfl (fun W hW=>exec_lenV rfl rfl) ?_
 simp only [Act.put,sA,sZ,sS]
 refine tk 6 6 (v:=.int .i64 1) rfl rfl (fun W hW=>Ka1 rfl rfl) ?_
 simp only [Act.put,sA,sZ,sS]
 refine tk 7 7 (v:=.int .i64 0) rfl rfl (fun W hW=>Ka1 rfl rfl) ?_
 simp only [Act.put,sA,sZ,sS]
 refine tk 8 8 (v:=.int .i64 (t.length : Int)) rfl rfl (fun W hW=>Ka1 rfl rfl) ?_
 simp only [Act.put,sA,sZ,sS]
 refine tk 9 9 (v:=.int .i64 (l.length : Int)) rfl rfl (fun W hW=>Ka1 rfl rfl) ?_
 simp only [Act.put,sA,sZ,sS]
 refine done (by kernel_rfl) ?_ _
 have HT0:=yh hU
 clear hU hT0
 go_wp2
 go_loopw [8,10] (fun y i W=>∃ j : Nat,j ≤ ks.length ∧ i = .int .i64 (j : Int) ∧ y = .int .i64 ((t.length + ((ks.take j).map List.length).sum : Nat) : Int) ∧ Hid (OneB w W #[.int .i64 k,.bool b,.int .i64 n,.string (strB t),.slice pk ks.length ck,.slice pl l.length cl])) (fun _ i _=>ks.length - (intOf i).toNat)
 case atStart=>exact ⟨0,Nat.zero_le _,rfl,by simp,HT0⟩
 case round =>
  clear HT0
  obtain ⟨j,hj,rfl,rfl,HT⟩:=hrel
  have hT1:=HT.out
  have px0:=Kah (o:=0) hT1.1 rfl;have px1:=Kah (o:=1) hT1.1 rfl;have px2:=Kah (o:=2) hT1.1 rfl;have px3:=Kah (o:=3) hT1.1 rfl;have px4:=Kah (o:=4) hT1.1 rfl;have px5:=Kah (o:=5) hT1.1 rfl
  have hsl:=keysum_take ks j
  by_cases hlt : j < ks.length
  ·have hlt1 : j + 1 ≤ ks.length:=hlt
   obtain ⟨bk,ok,rfl,q0,ql⟩:=(HK.out.1.below hT1.2).get hlt
   have hsum : t.length + ((ks.take (j + 1)).map List.length).sum = t.length + ((ks.take j).map List.length).sum + ks[j].length:=by
    rw [List.take_succ_eq_append_getElem hlt,List.map_append,List.sum_append];simp;omega
   have hsl2:=keysum_take ks (j + 1)
   have z5 : ((t.length + ((ks.take j).map List.length).sum : Nat) : Int) + (ks[j].length : Int) ≤ 1099511627776:=by have:=HK.out.2.2.2;omega
   have zs2 : (strB ks[j]).size = ks[j].length:=rfl
   have HS:=yh hsum
   generalize t.length + ((ks.take j).map List.length).sum = S at *
   clear hsl hsl2 hsum hT1
   go_wp2
   go_roundw
   case rel=>exact ⟨j + 1,hlt1,by go_num,by rw [HS.out];go_num,HT⟩
   case measure=>simp [intOf];omega
  ·obtain rfl : j = ks.length:=by omega
   rw [List.take_length]
   have zb : t.length + (ks.map List.length).sum + totVs l ≤ 1099511627776:=by have:=HK.out.2.2.2;omega
   have HZB:=yh zb
   generalize hY : t.length + (ks.map List.length).sum = Y at *
   have HY:=yh hY
   have HT0:=HT
   clear hsl hT1 hY zb
   go_wp2
   go_loopw [6,7,8,9,11] (fun c d y g i W=>∃ j : Nat,j ≤ l.length ∧ i = .int .i64 (j : Int) ∧ c = .int .i64 ((1 + Kb0 (l.take j) : Nat) : Int) ∧ d = .int .i64 ((Kby (l.take j) : Nat) : Int) ∧ y = .int .i64 ((Y + Kbh (l.take j) : Nat) : Int) ∧ g = .int .i64 ((max l.length (Kb9 (l.take j)) : Nat) : Int) ∧ Hid (OneB w W #[.int .i64 k,.bool b,.int .i64 n,.string (strB t),.slice pk ks.length ck,.slice pl l.length cl])) (fun _ _ _ _ i _=>l.length - (intOf i).toNat)
   case atStart=>exact ⟨0,Nat.zero_le _,rfl,by simp [Kb0],by simp [Kby],by simp [Kbh],by simp [Kb9],HT0⟩
   case round =>
    clear HT0 HT
    obtain ⟨j,hj,rfl,rfl,rfl,rfl,rfl,HT⟩:=hrel
    have hT1:=HT.out
    clear px0 px1 px2 px3 px4 px5
    have px0:=Kah (o:=0) hT1.1 rfl;have px1:=Kah (o:=1) hT1.1 rfl;have px2:=Kah (o:=2) hT1.1 rfl;have px3:=Kah (o:=3) hT1.1 rfl;have px4:=Kah (o:=4) hT1.1 rfl;have px5:=Kah (o:=5) hT1.1 rfl
    have hs0:=sizes_tots (l.take j)
    have htl:=totVs_take l j
    by_cases hlt : j < l.length
    ·have hlt1 : j + 1 ≤ l.length:=hlt
     obtain ⟨g1,o1,pk1,ck1,pl1,cl1,rfl,⟨a0,a1,a2,a3,a4,a5⟩,hv1⟩:=(HK.out.2.1.below hT1.2).at hlt
     have htl2:=totVs_take l (j + 1)
     have hss:=sizes_tot l[j]
     have htk : l.take (j + 1) = l.take j ++ [l[j]]:=List.take_succ_eq_append_getElem hlt
     rw [htk,totVs_append] at htl2
     have htv : totVs [l[j]] = totV l[j]:=by simp [totVs]
     have hcall:=HK.out.2.2.1 l[j] (List.getElem_mem hlt)
     have hn1 : Kb0 (l.take (j + 1)) = Kb0 (l.take j) + countV l[j]:=by rw [htk,countVs_snoc]
     have hn2 : Kby (l.take (j + 1)) = max (Kby (l.take j)) (deepV l[j]):=by rw [htk,deepVs_snoc]
     have hn3 : Kbh (l.take (j + 1)) = Kbh (l.take j) + Kcl l[j]:=by rw [htk,bytesVs_snoc]
     have hn4 : Kb9 (l.take (j + 1)) = max (Kb9 (l.take j)) (longV l[j]):=by rw [htk,longVs_snoc]
     have hzb:=HZB.out
     have hq1 : 1 + Kb0 (l.take j) + countV l[j] ≤ 4398046511104:=by omega
     have hq2 : Y + Kbh (l.take j) + Kcl l[j] ≤ 4398046511104:=by omega
     have HN:=yh (And.intro hn1 (And.intro hn2 (And.intro hn3 hn4)))
     have hcv : totV l[j] ≤ 1099511627776:=by omega
     generalize l[j] = s1 at *
     generalize Kb0 (l.take j) = C at *
     generalize Kby (l.take j) = D at *
     generalize Kbh (l.take j) = B at *
     generalize Kb9 (l.take j) = G at *
     have hcl:=hcall wr _ hcv hv1
     have HD:=yh (And.intro hcl hT1)
     clear hn1 hn2 hn3 hn4 hss htl htl2 htv hs0 hzb hcall hv1 hT1 htk hcl
     go_wp2_with (go_at_call 32
                  (
                    refine HD.out.1.mono ?_
                    rintro e w5 ⟨rfl,hb5⟩
                    have hT5:=HD.out.2.below hb5
                    have HT5:=yh hT5
                    clear hb5 hT5))
     go_roundw
     case rel=>exact ⟨j + 1,hlt1,by go_num,by rw [HN.out.1];congr 1;omega,by rw [HN.out.2.1];congr 1;omega,by rw [HN.out.2.2.1];congr 1;omega,by rw [HN.out.2.2.2];congr 1;omega,HT5⟩
     case measure=>simp [intOf];omega
    ·obtain rfl : j = l.length:=by omega
     rw [List.take_length] at *
     have HF:=yh hT1.2
     have hzb:=HZB.out
     have hd1 : Kby l + 1 ≤ 4398046511104:=by omega
     clear hs0 htl hT1 hzb
     go_wp2
     refine bodyPost_ret (v:=.tuple #[.int .i64 ((1 + Kb0 l : Nat) : Int),.int .i64 ((Kby l + 1 : Nat) : Int),.int .i64 ((Y + Kbh l : Nat) : Int),.int .i64 ((max l.length (Kb9 l) : Nat) : Int)]) (by simp [results,Tryz.results32,go_sem]) rfl ⟨by rw [HY.out],HF.out⟩
theorem checkR_any {v : V} {w : World} {x : Array Value} (htot : totV v ≤ 1099511627776) (hx : VRd w v x) : Calls Tryz.prog 83 #[.agg x] w fun e w'=>e = .returned (.int .i64 (Kcr Lib.validD v)) ∧ Below w.heap.size w w':=by
 have hT:=OneB.start w x
 have hmay:=mayR_any v _ _ (hx.below hT.2)
 have hsz:=fun (W : World) (hb : Below w.heap.size w W)=>sizeR_any v W x htot (hx.below hb)
 have hst:=sizes_tot v
 obtain ⟨pk,ck,pl,cl,rfl,_⟩:=hx.open
 have HM:=yh hmay
 have HS:=yh hsz
 have HT:=yh hT
 have hc : Kcr Lib.validD v = if mayV Lib.validD v then (if 64 < deepV v || 1048576 < Kcl v || 65536 < longV v then 3 else 0) else 110:=rfl
 have z1 : ((deepV v : Nat) : Int) ≤ 1099511627776:=by omega
 have z2 : ((Kcl v : Nat) : Int) ≤ 1099511627776:=by omega
 have z3 : ((longV v : Nat) : Int) ≤ 1099511627776:=by omega
 have HC:=yh hc
 clear hmay hsz hT hx hst htot hc
 generalize Kcr Lib.validD v = R at *
 generalize mayV Lib.validD v = M at *
 generalize deepV v = D at *
 generalize Kcl v = B at *
 generalize longV v = G at *
 cases M with
 | false =>
   have hR:=HC.out
   have HR:=yh hR
   clear hR
   go_enter Tryz.func83,Tryz.ntmps83
   go_wp2_with (go_at_call 133
                (
                  refine HM.out.mono ?_
                  rintro e w1 ⟨rfl,hb⟩
                  have HT1:=yh (HT.out.below hb)
                  clear hb))
   go_ret
   exact ⟨Kc0 HR.out.symm,HT1.out.2⟩
 | true =>
   go_enter Tryz.func83,Tryz.ntmps83
   go_wp2_with (first
    | (go_at_call 133
       (
         refine HM.out.mono ?_
         rintro e w1 ⟨rfl,hb⟩
         have HT1:=yh (HT.out.below hb)
         have HL1:=yh (get_val HT1.out.1)
         clear hb))
    | (refine Kci rfl _ _ _ rfl rfl HL1.out ?_)
    | (go_at_call 32
       (
         refine (HS.out _ HT1.out.2).mono ?_
         rintro e w2 ⟨rfl,hb⟩
         have HB:=yh (Kaa HT1.out.2 hb)
         clear hb)))
   all_goals
    go_ret
    refine ⟨Kc0 ?_,HB.out⟩
    have h:=HC.out
    rw [if_pos trivial] at h
    rw [h]
    (repeat' split) <;> first | rfl | (simp only [Bool.or_eq_true,decide_eq_true_eq] at * <;> omega)
structure PairU (w : World) (s1 s2 : V) (g1 o1 g2 o2 : Nat) (c0 c1 c2 c3 c4 c5 d0 d1 d2 d3 d4 d5 : Value) (W : World) : Prop where
 b : Below w.heap.size w W
 h0 : W.cell? ⟨g1,o1,none⟩ = some c0
 h1 : W.cell? ⟨g1,o1 + 1,none⟩ = some c1
 h2 : W.cell? ⟨g1,o1 + 2,none⟩ = some c2
 h3 : W.cell? ⟨g1,o1 + 3,none⟩ = some c3
 h4 : W.cell? ⟨g1,o1 + 4,none⟩ = some c4
 h5 : W.cell? ⟨g1,o1 + 5,none⟩ = some c5
 q0 : W.cell? ⟨g2,o2,none⟩ = some d0
 q1 : W.cell? ⟨g2,o2 + 1,none⟩ = some d1
 q2 : W.cell? ⟨g2,o2 + 2,none⟩ = some d2
 q3 : W.cell? ⟨g2,o2 + 3,none⟩ = some d3
 q4 : W.cell? ⟨g2,o2 + 4,none⟩ = some d4
 q5 : W.cell? ⟨g2,o2 + 5,none⟩ = some d5
 r1 : VRd W s1 #[c0,c1,c2,c3,c4,c5]
 r2 : VRd W s2 #[d0,d1,d2,d3,d4,d5]
theorem PairU.keep {w W W' : World} {s1 s2 : V} {g1 o1 g2 o2 : Nat} {c0 c1 c2 c3 c4 c5 d0 d1 d2 d3 d4 d5 : Value} (h : PairU w s1 s2 g1 o1 g2 o2 c0 c1 c2 c3 c4 c5 d0 d1 d2 d3 d4 d5 W) (b : Below W.heap.size W W') : PairU w s1 s2 g1 o1 g2 o2 c0 c1 c2 c3 c4 c5 d0 d1 d2 d3 d4 d5 W' :=
 ⟨Kaa h.b b,Kag b (ltOf h.h0) h.h0,Kag b (ltOf h.h1) h.h1,Kag b (ltOf h.h2) h.h2,Kag b (ltOf h.h3) h.h3,Kag b (ltOf h.h4) h.h4,Kag b (ltOf h.h5) h.h5,
  Kag b (ltOf h.q0) h.q0,Kag b (ltOf h.q1) h.q1,Kag b (ltOf h.q2) h.q2,Kag b (ltOf h.q3) h.q3,Kag b (ltOf h.q4) h.q4,Kag b (ltOf h.q5) h.q5,h.r1.below b,h.r2.below b⟩
structure KeyTwo (w : World) (X Y : Array Value) (b1 o1 b2 o2 : Nat) (s1 s2 : List UInt8) (W : World) : Prop where
 two : TwoV w W X Y
 one : W.cell? ⟨b1,o1,none⟩ = some (.string (strB s1))
 sec : W.cell? ⟨b2,o2,none⟩ = some (.string (strB s2))
theorem KeyTwo.keep {w W W' : World} {X Y : Array Value} {b1 o1 b2 o2 : Nat} {s1 s2 : List UInt8} (h : KeyTwo w X Y b1 o1 b2 o2 s1 s2 W) (b : Below W.heap.size W W') : KeyTwo w X Y b1 o1 b2 o2 s1 s2 W' :=
 ⟨h.two.below b,Kag b (ltOf h.one) h.one,Kag b (ltOf h.sec) h.sec⟩
structure AlU (w : World) (X Y : Array Value) (s1 : V) (g1 o1 g2 o2 : Nat) (c0 c1 c2 c3 c4 c5 d0 d1 d2 d3 d4 d5 : Value) (W : World) : Prop where
 two : TwoV w W X Y
 p : PairU w s1 s1 g1 o1 g2 o2 c0 c1 c2 c3 c4 c5 d0 d1 d2 d3 d4 d5 W
theorem AlU.keep {w W W' : World} {X Y : Array Value} {s1 : V} {g1 o1 g2 o2 : Nat} {c0 c1 c2 c3 c4 c5 d0 d1 d2 d3 d4 d5 : Value} (h : AlU w X Y s1 g1 o1 g2 o2 c0 c1 c2 c3 c4 c5 d0 d1 d2 d3 d4 d5 W) (b : Below W.heap.size W W') : AlU w X Y s1 g1 o1 g2 o2 c0 c1 c2 c3 c4 c5 d0 d1 d2 d3 d4 d5 W':=⟨h.two.below b,h.p.keep b⟩
structure StoU (w : World) (X : Array Value) (g o q : Nat) (kj k0 : Int) (W : World) : Prop where
 one : OneB w W X
 kj : W.cell? ⟨g,q,none⟩ = some (.int .i64 kj)
 k0 : W.cell? ⟨g,o,none⟩ = some (.int .i64 k0)
def SameK (l : List V) (j : Nat) : Prop:=∀ i v u,i < j → l[i]? = some v → l[0]? = some u → v.kind = u.kind
theorem badB_eq (k k0 : Int) : badB k k0 = true ↔ k ≠ k0 ∨ k < 1 ∨ 3 < k:=by unfold badB;simp [Bool.or_eq_true,or_assoc]
theorem storL_bad {l : List V} {i : Nat} {v u : V} (h : l[i]? = some v) (h0 : l[0]? = some u) (hk : v.kind ≠ u.kind) : storL l = false:=by
 unfold storL
 rw [List.all_eq_false]
 refine ⟨v,List.mem_of_getElem? h,?_⟩
 have e : (l.map V.kind).headD 0 = u.kind:=by cases l with
  | nil=>simp at h0
  | cons a r=>simp only [List.getElem?_cons_zero,Option.some.injEq] at h0;subst h0;rfl
 rw [e,(badB_eq _ _).2 (.inl hk)];simp
theorem storL_same {l : List V} {u : V} (h0 : l[0]? = some u) (hs : SameK l l.length) : storL l = (decide (1 ≤ u.kind) && decide (u.kind ≤ 3)):=by
 have e : (l.map V.kind).headD 0 = u.kind:=by cases l with
  | nil=>simp at h0
  | cons a r=>simp only [List.getElem?_cons_zero,Option.some.injEq] at h0;subst h0;rfl
 have hall : ∀ x ∈ l,x.kind = u.kind:=fun x hx=>by
  obtain ⟨i,hi,rfl⟩:=List.getElem_of_mem hx
  exact hs i _ _ hi (List.getElem?_eq_getElem hi) h0
 unfold storL
 rw [e,Bool.eq_iff_iff,List.all_eq_true]
 simp only [Bool.and_eq_true,decide_eq_true_eq,Bool.not_eq_true']
 constructor
 ·intro h
  have:=h u (List.mem_of_getElem? h0)
  have hb : (u.kind ≠ u.kind ∨ u.kind < 1 ∨ 3 < u.kind) → False:=fun hh=>by rw [(badB_eq u.kind u.kind).2 hh] at this;cases this
  constructor
  ·by_cases h1 : u.kind < 1
   ·exact (hb (.inr (.inl h1))).elim
   ·omega
  ·by_cases h1 : 3 < u.kind
   ·exact (hb (.inr (.inr h1))).elim
   ·omega
 ·rintro ⟨h1,h2⟩ x hx
  rw [hall x hx]
  cases hb : badB u.kind u.kind with
  | false=>rfl
  | true=>rcases (badB_eq _ _).1 hb with h | h | h <;> omega
theorem storL_one (v : V) : storL [v] = (decide (1 ≤ v.kind) && decide (v.kind ≤ 3)):=storL_same (u:=v) rfl (fun i x u hi h h0=>by
 have : i = 0:=by simpa using hi
 subst this;rw [h] at h0;cases h0;rfl)
theorem kinds3 (k : Int) : ((k == 1) = true ∧ (decide (1 ≤ k) && decide (k ≤ 3)) = true) ∨ ((k == 1) = false ∧ (k == 2) = true ∧ (decide (1 ≤ k) && decide (k ≤ 3)) = true) ∨ ((k == 1) = false ∧ (k == 2) = false ∧ (k == 3) = true ∧ (decide (1 ≤ k) && decide (k ≤ 3)) = true) ∨ ((k == 1) = false ∧ (k == 2) = false ∧ (k == 3) = false ∧ (decide (1 ≤ k) && decide (k ≤ 3)) = false):=by
 by_cases h1 : k = 1
 ·subst h1;exact .inl ⟨rfl,rfl⟩
 ·by_cases h2 : k = 2
  ·subst h2;exact .inr (.inl ⟨rfl,rfl,rfl⟩)
  ·by_cases h3 : k = 3
   ·subst h3;exact .inr (.inr (.inl ⟨rfl,rfl,rfl,rfl⟩))
   ·refine .inr (.inr (.inr ⟨by simpa using h1,by simpa using h2,by simpa using h3,?_⟩))
    rw [Bool.and_eq_false_iff,decide_eq_false_iff_not,decide_eq_false_iff_not];omega
theorem storR_any {v : V} {w : World} {x : Array Value} (hx : VRd w v x) (ho : okV v = true) :
 Calls Tryz.prog 136 #[.agg x] w fun e w'=>e = .returned (.bool (storB v)) ∧ Below w.heap.size w w':=by
 obtain ⟨pk,ck,pl,cl,rfl,htx,hk1,hl1⟩:=hx.open
 have hF:=oneV_iff.1 (mayV_iff.1 (okV_may ho)).1
 have hls : v.kind ≠ 4 → v.kind ≠ 5 → v.list = []:=hF.list
 have hR : storB v = storL (if v.kind = 4 then v.list else [v]):=rfl
 have hbad : ∀ (i : Nat) (s u : V),v.list[i]? = some s → v.list[0]? = some u → s.kind ≠ u.kind → storB v = false:=by
  intro i s u h h0 hne
  by_cases h4 : v.kind = 4
  ·rw [hR,if_pos h4];exact storL_bad h h0 hne
  ·by_cases h5 : v.kind = 5
   ·rw [hR,if_neg h4,storL_one,h5];rfl
   ·rw [hls h4 h5] at h;simp at h
 have hend : SameK v.list v.list.length → storB v = if v.kind = 4 then (match v.list[0]? with | some u=>decide (1 ≤ u.kind) && decide (u.kind ≤ 3) | none=>true) else (decide (1 ≤ v.kind) && decide (v.kind ≤ 3)):=by
  intro hs
  by_cases h4 : v.kind = 4
  ·rw [hR,if_pos h4,if_pos h4]
   cases h0 : v.list[0]? with
   | none =>
     have : v.list = []:=by cases hv : v.list with
      | nil=>rfl
      | cons a r=>rw [hv] at h0;simp at h0
     rw [this];rfl
   | some u=>exact storL_same h0 hs
  ·rw [hR,if_neg h4,if_neg h4,storL_one]
 generalize storB v = R at *
 have hT:=OneB.start w #[.int .i64 v.kind,.bool v.b,.int .i64 v.n,.string (strB v.text),.slice pk v.keys.length ck,.slice pl v.list.length cl]
 have z1 : (v.list.length : Int) ≤ 140737488355328:=by have:=hl1.1.2.1;omega
 have px0:=Kah (o:=0) hT.1 rfl;have px5:=Kah (o:=5) hT.1 rfl
 have HT:=yh hT
 have HL:=yh hl1
 have HB:=yh hbad
 have HE:=yh hend
 clear hx hk1 hl1 hT hbad hend hR hls hF ho
 go_enter Tryz.func136,Tryz.ntmps136
 go_wp2
 clear px0 px5
 go_loopw [3] (fun i W=>∃ j : Nat,j ≤ v.list.length ∧ i = .int .i64 (j : Int) ∧ Hid (SameK v.list j ∧ OneB w W #[.int .i64 v.kind,.bool v.b,.int .i64 v.n,.string (strB v.text),.slice pk v.keys.length ck,.slice pl v.list.length cl])) (fun i _=>v.list.length - (intOf i).toNat)
 case atStart=>exact ⟨0,Nat.zero_le _,rfl,yh ⟨fun i _ _ hi=>by omega,HT.out⟩⟩
 case round =>
  clear HT
  obtain ⟨j,hj,rfl,HJ⟩:=hrel
  have hT1:=HJ.out.2
  have px0:=Kah (o:=0) hT1.1 rfl;have px5:=Kah (o:=5) hT1.1 rfl
  by_cases hlt : j < v.list.length
  ·have hlt1 : j + 1 ≤ v.list.length:=hlt
   have hpos : 0 < v.list.length:=by omega
   have hbd : Below w.heap.size w wr.drew:=Kaa hT1.2 (Below.refl _ _).drew
   obtain ⟨g1,o1,pk1,ck1,pl1,cl1,rfl,⟨a0,_⟩,_⟩:=(HL.out.below hbd).at hlt
   obtain ⟨g2,o2,pk2,ck2,pl2,cl2,e2,⟨q0,_⟩,_⟩:=(HL.out.below hbd).at hpos
   cases e2
   have hsj : v.list[j]? = some v.list[j]:=List.getElem?_eq_getElem hlt
   have hs0 : v.list[0]? = some v.list[0]:=List.getElem?_eq_getElem hpos
   rw [Nat.zero_mul,Nat.add_zero] at q0
   have hstep : v.list[j].kind = v.list[0].kind → SameK v.list (j + 1):=fun e i s u hi h h0=>by
    by_cases hij : i = j
    ·subst hij;rw [hsj] at h;rw [hs0] at h0;cases h;cases h0;exact e
    ·exact HJ.out.1 i s u (by omega) h h0
   have hbad2 : v.list[j].kind ≠ v.list[0].kind → R = false:=HB.out j _ _ hsj hs0
   generalize v.list[j].kind = kj at *
   generalize v.list[0].kind = k0 at *
   have hU0 : StoU w #[.int .i64 v.kind,.bool v.b,.int .i64 v.n,.string (strB v.text),.slice pk v.keys.length ck,.slice (some ⟨g1,o1,none⟩) v.list.length cl] g1 o1 (o1 + j * 6) kj k0 wr.drew:=⟨hT1.below (Below.refl _ _).drew,a0,q0⟩
   clear a0 q0 hsj hs0 hbd hT1
   by_cases e : kj = k0
   ·have HS:=yh (hstep e)
    have hne : ∀ W,(binOp .neq 28 (.int .i64 kj) (.int .i64 k0)).run Tryz.prog W = .ok (.bool false) W:=fun W=>by simp [go_sem,e]
    clear hstep hbad2 e HJ
    go_wp2
    refine Kaf (fun W=>StoU w #[.int .i64 v.kind,.bool v.b,.int .i64 v.n,.string (strB v.text),.slice pk v.keys.length ck,.slice (some ⟨g1,o1,none⟩) v.list.length cl] g1 o1 (o1 + j * 6) kj k0 W) (by kernel_rfl) hU0 (fun hU=>?_)
    refine tk 0 12 (v:=.pointer (some ⟨w.heap.size,5,none⟩)) rfl rfl (fun W hW=>Kac rfl rfl (Ka8 _ _ (by decide) W)) ?_
    simp only [Act.put,sA,sZ,sS]
    refine tk 1 13 (v:=.slice (some ⟨g1,o1,none⟩) v.list.length cl) rfl rfl (fun W hW=>Kad rfl rfl (Kae (w:=W) Tryz.underlying29 rfl (Kah hW.one.1 rfl))) ?_
    simp only [Act.put,sA,sZ,sS]
    refine tk 2 14 (v:=.int .i64 (j : Int)) rfl rfl (fun W hW=>Kab rfl rfl) ?_
    simp only [Act.put,sA,sZ,sS]
    refine tk 3 15 (v:=.pointer (some ⟨g1,o1 + j * 6,none⟩)) rfl rfl (fun W hW=>Kaj rfl rfl rfl (ia_vals _ _ _ _ _ hlt W)) ?_
    simp only [Act.put,sA,sZ,sS]
    refine tk 4 16 (v:=.pointer (some ⟨g1,o1 + j * 6,none⟩)) rfl rfl (fun W hW=>Kac rfl rfl (Kec _ _ W)) ?_
    simp only [Act.put,sA,sZ,sS]
    refine tk 5 17 (v:=.int .i64 kj) rfl rfl (fun W hW=>Kad rfl rfl (Kae (w:=W) Tryz.underlying28 rfl hW.kj)) ?_
    simp only [Act.put,sA,sZ,sS]
    refine tk 6 18 (v:=.pointer (some ⟨w.heap.size,5,none⟩)) rfl rfl (fun W hW=>Kac rfl rfl (Ka8 _ _ (by decide) W)) ?_
    simp only [Act.put,sA,sZ,sS]
    refine tk 7 19 (v:=.slice (some ⟨g1,o1,none⟩) v.list.length cl) rfl rfl (fun W hW=>Kad rfl rfl (Kae (w:=W) Tryz.underlying29 rfl (Kah hW.one.1 rfl))) ?_
    simp only [Act.put,sA,sZ,sS]
    refine tk 8 20 (v:=.pointer (some ⟨g1,o1,none⟩)) rfl rfl (fun W hW=>Kaj rfl rfl rfl (ia_first _ _ _ _ hpos W)) ?_
    simp only [Act.put,sA,sZ,sS]
    refine tk 9 21 (v:=.pointer (some ⟨g1,o1,none⟩)) rfl rfl (fun W hW=>Kac rfl rfl (Kec _ _ W)) ?_
    simp only [Act.put,sA,sZ,sS]
    refine tk 10 22 (v:=.int .i64 k0) rfl rfl (fun W hW=>Kad rfl rfl (Kae (w:=W) Tryz.underlying28 rfl hW.k0)) ?_
    simp only [Act.put,sA,sZ,sS]
    refine tk 11 23 (v:=.bool false) rfl rfl (fun W hW=>Kal rfl rfl rfl (hne W)) ?_
    simp only [Act.put,sA,sZ,sS]
    refine done (by kernel_rfl) ?_ _
    have HT0:=yh (And.intro HS.out hU.one)
    clear hU hU0 hne HS px0 px5
    go_wp2
    go_roundw
    case rel=>exact ⟨j + 1,by omega,by go_num,HT0⟩
    case measure=>simp [intOf];omega
   ·have HR:=yh (hbad2 e)
    have hne : ∀ W,(binOp .neq 28 (.int .i64 kj) (.int .i64 k0)).run Tryz.prog W = .ok (.bool true) W:=fun W=>by simp [go_sem,e]
    clear hstep hbad2 e HJ
    go_wp2
    refine Kaf (fun W=>StoU w #[.int .i64 v.kind,.bool v.b,.int .i64 v.n,.string (strB v.text),.slice pk v.keys.length ck,.slice (some ⟨g1,o1,none⟩) v.list.length cl] g1 o1 (o1 + j * 6) kj k0 W) (by kernel_rfl) hU0 (fun hU=>?_)
    refine tk 0 12 (v:=.pointer (some ⟨w.heap.size,5,none⟩)) rfl rfl (fun W hW=>Kac rfl rfl (Ka8 _ _ (by decide) W)) ?_
    simp only [Act.put,sA,sZ,sS]
    refine tk 1 13 (v:=.slice (some ⟨g1,o1,none⟩) v.list.length cl) rfl rfl (fun W hW=>Kad rfl rfl (Kae (w:=W) Tryz.underlying29 rfl (Kah hW.one.1 rfl))) ?_
    simp only [Act.put,sA,sZ,sS]
    refine tk 2 14 (v:=.int .i64 (j : Int)) rfl rfl (fun W hW=>Kab rfl rfl) ?_
    simp only [Act.put,sA,sZ,sS]
    refine tk 3 15 (v:=.pointer (some ⟨g1,o1 + j * 6,none⟩)) rfl rfl (fun W hW=>Kaj rfl rfl rfl (ia_vals _ _ _ _ _ hlt W)) ?_
    simp only [Act.put,sA,sZ,sS]
    refine tk 4 16 (v:=.pointer (some ⟨g1,o1 + j * 6,none⟩)) rfl rfl (fun W hW=>Kac rfl rfl (Kec _ _ W)) ?_
    simp only [Act.put,sA,sZ,sS]
    refine tk 5 17 (v:=.int .i64 kj) rfl rfl (fun W hW=>Kad rfl rfl (Kae (w:=W) Tryz.underlying28 rfl hW.kj)) ?_
    simp only [Act.put,sA,sZ,sS]
    refine tk 6 18 (v:=.pointer (some ⟨w.heap.size,5,none⟩)) rfl rfl (fun W hW=>Kac rfl rfl (Ka8 _ _ (by decide) W)) ?_
    simp only [Act.put,sA,sZ,sS]
    refine tk 7 19 (v:=.slice (some ⟨g1,o1,none⟩) v.list.length cl) rfl rfl (fun W hW=>Kad rfl rfl (Kae (w:=W) Tryz.underlying29 rfl (Kah hW.one.1 rfl))) ?_
    simp only [Act.put,sA,sZ,sS]
    refine tk 8 20 (v:=.pointer (some ⟨g1,o1,none⟩)) rfl rfl (fun W hW=>Kaj rfl rfl rfl (ia_first _ _ _ _ hpos W)) ?_
    simp only [Act.put,sA,sZ,sS]
    refine tk 9 21 (v:=.pointer (some ⟨g1,o1,none⟩)) rfl rfl (fun W hW=>Kac rfl rfl (Kec _ _ W)) ?_
    simp only [Act.put,sA,sZ,sS]
    refine tk 10 22 (v:=.int .i64 k0) rfl rfl (fun W hW=>Kad rfl rfl (Kae (w:=W) Tryz.underlying28 rfl hW.k0)) ?_
    simp only [Act.put,sA,sZ,sS]
    refine tk 11 23 (v:=.bool true) rfl rfl (fun W hW=>Kal rfl rfl rfl (hne W)) ?_
    simp only [Act.put,sA,sZ,sS]
    refine done (by kernel_rfl) ?_ _
    have HF:=yh hU.one.2
    clear hU hU0 hne px0 px5
    go_wp2
    go_ret
    exact ⟨Kam HR.out.symm,HF.out⟩
  ·obtain rfl : j = v.list.length:=by omega
   have HF:=yh hT1.2
   have hE:=HE.out HJ.out.1
   by_cases h4 : v.kind = 4
   ·rw [if_pos h4] at hE
    have d4 : (v.kind == 4) = true:=by simpa using h4
    by_cases hpos : 0 < v.list.length
    ·obtain ⟨g2,o2,pk2,ck2,pl2,cl2,rfl,⟨q0,_⟩,_⟩:=(HL.out.below hT1.2).at hpos
     rw [List.getElem?_eq_getElem hpos] at hE
     simp only at hE
     rw [Nat.zero_mul,Nat.add_zero] at q0
     have d5 : decide ((0 : Int) < (v.list.length : Int)) = true:=by rw [decide_eq_true_iff];omega
     have d6 : decide (0 < v.list.length) = true:=by rw [decide_eq_true_iff];omega
     generalize v.list[0].kind = k0 at *
     have hk:=kinds3 k0
     generalize (decide (1 ≤ k0) && decide (k0 ≤ 3)) = B at *
     have HR:=yh hE
     clear hE hT1 h4 HJ HE HB HL
     rcases hk with ⟨k1,hB⟩ | ⟨k1,k2,hB⟩ | ⟨k1,k2,k3,hB⟩ | ⟨k1,k2,k3,hB⟩
     all_goals
      have HB2:=yh (HR.out.trans hB)
      clear hB HR
      go_wp2
      go_ret
      exact ⟨Kam HB2.out.symm,HF.out⟩
    ·have hnil : v.list = []:=List.eq_nil_of_length_eq_zero (by omega)
     have d5 : decide ((0 : Int) < (v.list.length : Int)) = false:=by rw [decide_eq_false_iff_not];omega
     have d6 : decide (0 < v.list.length) = false:=by rw [decide_eq_false_iff_not];omega
     have hE2 : R = true:=by rw [hE,hnil];rfl
     have HR:=yh hE2
     clear hE hE2 hT1 h4 HJ HE HB HL hnil
     go_wp2
     go_ret
     exact ⟨Kam HR.out.symm,HF.out⟩
   ·rw [if_neg h4] at hE
    have d4 : (v.kind == 4) = false:=by simpa using h4
    generalize v.kind = k0 at *
    have hk:=kinds3 k0
    generalize (decide (1 ≤ k0) && decide (k0 ≤ 3)) = B at *
    have HR:=yh hE
    clear hE hT1 h4 HJ HE HB HL
    rcases hk with ⟨k1,hB⟩ | ⟨k1,k2,hB⟩ | ⟨k1,k2,k3,hB⟩ | ⟨k1,k2,k3,hB⟩
    all_goals
     have HB2:=yh (HR.out.trans hB)
     clear hB HR
     go_wp2
     go_ret
     exact ⟨Kam HB2.out.symm,HF.out⟩
theorem geq_zero (n : Int) (W : World) : (binOp .geq 3 (.int .i64 n) (.int .i64 0)).run Tryz.prog W = .ok (.bool (decide (0 ≤ n))) W:=by simp [go_sem]
theorem cmp_geq (a b : List UInt8) : decide (0 ≤ cmpB a b) = !(ltB a b):=by
 rcases cmpB_cases a b with ⟨h1,h2⟩ | ⟨h1,h2,h3⟩ | ⟨h1,h2,h3,_⟩
 ·rw [h1,h2];rfl
 ·rw [h1,h3];rfl
 ·rw [h1,h3];rfl
def Kda (l : List (List UInt8)) : Bool:=Kav l && l.all okNm
theorem risesNm_no {l : List (List UInt8)} {j : Nat} (hj : j < l.length) (h : okNm l[j] = false) : Kda l = false:=by
 have : l.all okNm = false:=by
  rw [List.all_eq_false]
  exact ⟨l[j],List.getElem_mem hj,by simp [h]⟩
 unfold Kda
 rw [this,Bool.and_false]
theorem risesB_no {l : List (List UInt8)} {j : Nat} (h0 : 0 < j) (hj : j < l.length) (h : ltB l[j - 1] l[j] = false) : Kav l = false:=by
 cases hr : Kav l with
 | false=>rfl
 | true =>
   have hp:=(rises_pair l).1 hr
   have:=List.pairwise_iff_getElem.1 hp (j - 1) j (by omega) hj (by omega)
   have e : ltB l[j - 1] l[j] = true:=this
   rw [h] at e;cases e
theorem risesB_one {l : List (List UInt8)} (hj : 0 < l.length) : Kav (l.take 1) = true:=by
 cases l with
 | nil=>simp at hj
 | cons a r=>rfl
theorem risesB_more {l : List (List UInt8)} {j : Nat} (h0 : 0 < j) (hj : j < l.length) (hr : Kav (l.take j) = true) (h : ltB l[j - 1] l[j] = true) : Kav (l.take (j + 1)) = true:=by
 obtain ⟨i,rfl⟩ : ∃ i,j = i + 1:=⟨j - 1,by omega⟩
 rw [Kcs hj,hr]
 simpa using h
theorem refrises_any {w : World} {p : Option Addr} {c : Nat} {l : List (List UInt8)} (h : RdS w p c l) : Calls Tryz.prog 33 #[.slice p l.length c] w fun e w'=>e = .returned (.bool (Kda l)) ∧ Below w.heap.size w w':=by
 have z1 : (l.length : Int) ≤ 140737488355328:=by have:=h.2.1.1;omega
 have H:=yh h
 clear h
 go_enter Tryz.func33,Tryz.ntmps33
 go_wp2
 go_loopw [3] (fun i W=>∃ j : Nat,j ≤ l.length ∧ i = .int .i64 (j : Int) ∧ Hid ((l.take j).all okNm = true ∧ Kav (l.take j) = true ∧ Below w.heap.size w W)) (fun i _=>l.length - (intOf i).toNat)
 case atStart=>exact ⟨0,Nat.zero_le _,rfl,yh ⟨by simp,by simp [Kav],Below.refl _ _⟩⟩
 case round =>
  obtain ⟨j,hj,rfl,HI⟩:=hrel
  by_cases hlt : j < l.length
  ·have hlt1 : j + 1 ≤ l.length:=hlt
   have hRw:=H.out.below HI.out.2.2
   obtain ⟨bk,ok,rfl,q1,hl1⟩:=hRw.get hlt
   have hi1 : ∀ W' : World,(Instr.indexAt 26 (.slice (some ⟨bk,ok,none⟩) l.length c) (.int .i64 (j : Int))).run Tryz.prog W' = .ok (.pointer (some ⟨bk,ok + j,none⟩)) W':=fun W'=>ia_text hlt W'
   have hall:=Kd9 (f:=okNm) hlt HI.out.1
   have hno:=risesNm_no hlt
   have hnm:=fun W=>refname_any (w:=W) l[j] hl1
   have hB0 : Below wr.heap.size wr wr.drew:=(Below.refl _ wr).drew
   cases hok : okNm l[j] with
   | false =>
     have HF:=yh (And.intro (hno hok) HI.out.2.2)
     simp only [hok] at hnm
     generalize l[j] = s1 at *
     have HX:=yh (And.intro hi1 (And.intro q1 (And.intro hnm hB0)))
     clear hi1 q1 hnm hB0 hall hno hRw HI
     go_wp2
     obtain ⟨hi1,q1,hnm,hB0⟩:=HX.out
     refine Kaf (fun W=>Below wr.heap.size wr W) (by kernel_rfl) hB0 (fun hS=>?_)
     refine tk 0 10 (v:=.slice (some ⟨bk,ok,none⟩) l.length c) rfl rfl (fun W hW=>Kab rfl rfl) ?_
     simp only [Act.put,sA,sZ,sS]
     refine tk 1 11 (v:=.int .i64 (j : Int)) rfl rfl (fun W hW=>Kab rfl rfl) ?_
     simp only [Act.put,sA,sZ,sS]
     refine tk 2 12 (v:=.pointer (some ⟨bk,ok + j,none⟩)) rfl rfl (fun W hW=>Kaj rfl rfl rfl (hi1 W)) ?_
     simp only [Act.put,sA,sZ,sS]
     refine tk 3 13 (v:=.string (strB s1)) rfl rfl (fun W hW=>Kad rfl rfl (Kae (w:=W) Tryz.underlying9 rfl (Kag hW (ltOf q1) q1))) ?_
     simp only [Act.put,sA,sZ,sS]
     refine Kao 4 14 rfl rfl (by kernel_rfl) rfl (Kan [.string (strB s1)] rfl rfl Tryz.func35 (by kernel_rfl) (by kernel_rfl)) ?_
     refine (hnm _).mono ?_
     rintro e W4 ⟨rfl,rfl⟩
     have hS4:=hS
     refine ⟨_,rfl,.inr hS4,?_⟩
     simp only [Act.put,sA,sZ,sS]
     refine tk 5 15 (v:=.bool true) rfl rfl (fun W hW=>Kar (b:=false) rfl rfl) ?_
     simp only [Act.put,sA,sZ,sS]
     refine tk 6 16 (v:=.bool true) rfl rfl (fun W hW=>Kab rfl rfl) ?_
     simp only [Act.put,sA,sZ,sS]
     refine tn 7 17 rfl rfl ?_
     simp only [Act.put,sA,sZ,sS]
     refine tn 8 18 rfl rfl ?_
     simp only [Act.put,sA,sZ,sS]
     refine tn 9 19 rfl rfl ?_
     simp only [Act.put,sA,sZ,sS]
     refine tn 10 20 rfl rfl ?_
     simp only [Act.put,sA,sZ,sS]
     refine tn 11 21 rfl rfl ?_
     simp only [Act.put,sA,sZ,sS]
     refine tn 12 22 rfl rfl ?_
     simp only [Act.put,sA,sZ,sS]
     refine tn 13 23 rfl rfl ?_
     simp only [Act.put,sA,sZ,sS]
     refine tn 14 24 rfl rfl ?_
     simp only [Act.put,sA,sZ,sS]
     refine tn 15 25 rfl rfl ?_
     simp only [Act.put,sA,sZ,sS]
     refine tn 16 26 rfl rfl ?_
     simp only [Act.put,sA,sZ,sS]
     refine tn 17 27 rfl rfl ?_
     simp only [Act.put,sA,sZ,sS]
     refine tn 18 28 rfl rfl ?_
     simp only [Act.put,sA,sZ,sS]
     refine Kau 19 29 rfl rfl (by kernel_rfl) rfl ?_ (.inr (by assumption))
     simp only [Act.put,sA,sZ,sS]
     refine tn 20 30 rfl rfl ?_
     simp only [Act.put,sA,sZ,sS]
     refine tn 21 31 rfl rfl ?_
     simp only [Act.put,sA,sZ,sS]
     refine tk 22 32 (v:=.bool true) rfl rfl (fun W hW=>rfl) ?_
     simp only [Act.put,sA,sZ,sS]
     refine done (by kernel_rfl) ?_ _
     have HB:=yh hS4
     clear hi1 q1 hnm hB0 hS hS4 HX
     go_wp2
     go_ret
     exact ⟨Kam HF.out.1.symm,Kaa HF.out.2 HB.out⟩
   | true =>
     have HA:=yh (hall hok)
     simp only [hok] at hnm
     by_cases h0 : j = 0
     ·subst h0
      have HN:=yh (risesB_one hlt)
      have hgt : ∀ W : World,(binOp .gtr 3 (.int .i64 ((0 : Nat) : Int)) (.int .i64 0)).run Tryz.prog W = .ok (.bool false) W:=fun W=>by simp [go_sem]
      have HB1:=yh HI.out.2.2
      generalize l[0] = s1 at *
      have HX:=yh (And.intro hi1 (And.intro q1 (And.intro hnm (And.intro hB0 hgt))))
      clear hi1 q1 hnm hB0 hgt hall hno hRw HI hok
      go_wp2
      obtain ⟨hi1,q1,hnm,hB0,hgt⟩:=HX.out
      refine Kaf (fun W=>Below wr.heap.size wr W) (by kernel_rfl) hB0 (fun hS=>?_)
      refine tk 0 10 (v:=.slice (some ⟨bk,ok,none⟩) l.length c) rfl rfl (fun W hW=>Kab rfl rfl) ?_
      simp only [Act.put,sA,sZ,sS]
      refine tk 1 11 (v:=.int .i64 ((0 : Nat) : Int)) rfl rfl (fun W hW=>Kab rfl rfl) ?_
      simp only [Act.put,sA,sZ,sS]
      refine tk 2 12 (v:=.pointer (some ⟨bk,ok + 0,none⟩)) rfl rfl (fun W hW=>Kaj rfl rfl rfl (hi1 W)) ?_
      simp only [Act.put,sA,sZ,sS]
      refine tk 3 13 (v:=.string (strB s1)) rfl rfl (fun W hW=>Kad rfl rfl (Kae (w:=W) Tryz.underlying9 rfl (Kag hW (ltOf q1) q1))) ?_
      simp only [Act.put,sA,sZ,sS]
      refine Kao 4 14 rfl rfl (by kernel_rfl) rfl (Kan [.string (strB s1)] rfl rfl Tryz.func35 (by kernel_rfl) (by kernel_rfl)) ?_
      refine (hnm _).mono ?_
      rintro e W4 ⟨rfl,rfl⟩
      have hS4:=hS
      refine ⟨_,rfl,.inr hS4,?_⟩
      simp only [Act.put,sA,sZ,sS]
      refine tk 5 15 (v:=.bool false) rfl rfl (fun W hW=>Kar (b:=true) rfl rfl) ?_
      simp only [Act.put,sA,sZ,sS]
      refine tk 6 16 (v:=.bool false) rfl rfl (fun W hW=>Kab rfl rfl) ?_
      simp only [Act.put,sA,sZ,sS]
      refine tk 7 17 (v:=.int .i64 ((0 : Nat) : Int)) rfl rfl (fun W hW=>Kab rfl rfl) ?_
      simp only [Act.put,sA,sZ,sS]
      refine tk 8 18 (v:=.bool false) rfl rfl (fun W hW=>Kal rfl rfl rfl (hgt W)) ?_
      simp only [Act.put,sA,sZ,sS]
      refine tk 9 19 (v:=.bool false) rfl rfl (fun W hW=>Kab rfl rfl) ?_
      simp only [Act.put,sA,sZ,sS]
      refine tn 10 20 rfl rfl ?_
      simp only [Act.put,sA,sZ,sS]
      refine tn 11 21 rfl rfl ?_
      simp only [Act.put,sA,sZ,sS]
      refine tn 12 22 rfl rfl ?_
      simp only [Act.put,sA,sZ,sS]
      refine tn 13 23 rfl rfl ?_
      simp only [Act.put,sA,sZ,sS]
      refine tn 14 24 rfl rfl ?_
      simp only [Act.put,sA,sZ,sS]
      refine tn 15 25 rfl rfl ?_
      simp only [Act.put,sA,sZ,sS]
      refine tn 16 26 rfl rfl ?_
      simp only [Act.put,sA,sZ,sS]
      refine tn 17 27 rfl rfl ?_
      simp only [Act.put,sA,sZ,sS]
      refine tn 18 28 rfl rfl ?_
      simp only [Act.put,sA,sZ,sS]
      refine Kau 19 29 rfl rfl (by kernel_rfl) rfl ?_ (.inr (by assumption))
      simp only [Act.put,sA,sZ,sS]
      refine tn 20 30 rfl rfl ?_
      simp only [Act.put,sA,sZ,sS]
      refine tk 21 31 (v:=.bool false) rfl rfl (fun W hW=>rfl) ?_
      simp only [Act.put,sA,sZ,sS]
      refine tk 22 32 (v:=.bool false) rfl rfl (fun W hW=>rfl) ?_
      simp only [Act.put,sA,sZ,sS]
      refine done (by kernel_rfl) ?_ _
      have HB:=yh (Kaa HB1.out hS4)
      clear hi1 q1 hnm hB0 hgt hS hS4 HX
      go_wp2
      go_roundw
      case rel=>exact ⟨1,hlt1,by go_num,yh ⟨HA.out,HN.out,HB.out⟩⟩
      case measure=>simp [intOf];omega
     ·have h0' : 0 < j:=Nat.pos_of_ne_zero h0
      obtain ⟨bk2,ok2,e2,q0,hl0⟩:=hRw.get (show j - 1 < l.length by omega)
      cases e2
      have hi0 : ∀ W' : World,(Instr.indexAt 26 (.slice (some ⟨bk,ok,none⟩) l.length c) (.int .i64 ((j - 1 : Nat) : Int))).run Tryz.prog W' = .ok (.pointer (some ⟨bk,ok + (j - 1),none⟩)) W':=fun W'=>ia_text (by omega) W'
      have hgt : ∀ W : World,(binOp .gtr 3 (.int .i64 (j : Int)) (.int .i64 0)).run Tryz.prog W = .ok (.bool true) W:=fun W=>by
       have e : decide ((0 : Int) < (j : Int)) = true:=by simp;omega
       simp [go_sem,h0']
      have hsub : ∀ W : World,(binOp .sub 3 (.int .i64 (j : Int)) (.int .i64 1)).run Tryz.prog W = .ok (.int .i64 ((j - 1 : Nat) : Int)) W:=fun W=>by
       have e1 : (j : Int) = ((j - 1 : Nat) : Int) + 1:=by omega
       rw [e1]
       exact sub_one (by omega) W
      have hnr:=risesB_no h0' hlt
      have hmr:=risesB_more h0' hlt HI.out.2.1
      have hge:=fun W=>geq_zero (cmpB l[j - 1] l[j]) W
      simp only [cmp_geq] at hge
      have HNR:=yh (And.intro hnr hmr)
      have HB1:=yh HI.out.2.2
      generalize l[j - 1] = s0 at *
      generalize l[j] = s1 at *
      have HX:=yh (And.intro hi1 (And.intro q1 (And.intro hnm (And.intro hB0 (And.intro hgt (And.intro hi0 (And.intro q0 (And.intro hl0 (And.intro hl1 (And.intro hsub hge))))))))))
      clear hi1 q1 hnm hB0 hgt hi0 q0 hl0 hl1 hsub hge hall hno hRw HI hok h0 hnr hmr
      cases hlb : ltB s0 s1 with
      | true =>
        have HN:=yh (HNR.out.2 hlb)
        go_wp2
        obtain ⟨hi1,q1,hnm,hB0,hgt,hi0,q0,hl0,hl1,hsub,hge⟩:=HX.out
        refine Kaf (fun W=>Below wr.heap.size wr W) (by kernel_rfl) hB0 (fun hS=>?_)
        refine tk 0 10 (v:=.slice (some ⟨bk,ok,none⟩) l.length c) rfl rfl (fun W hW=>Kab rfl rfl) ?_
        simp only [Act.put,sA,sZ,sS]
        refine tk 1 11 (v:=.int .i64 (j : Int)) rfl rfl (fun W hW=>Kab rfl rfl) ?_
        simp only [Act.put,sA,sZ,sS]
        refine tk 2 12 (v:=.pointer (some ⟨bk,ok + j,none⟩)) rfl rfl (fun W hW=>Kaj rfl rfl rfl (hi1 W)) ?_
        simp only [Act.put,sA,sZ,sS]
        refine tk 3 13 (v:=.string (strB s1)) rfl rfl (fun W hW=>Kad rfl rfl (Kae (w:=W) Tryz.underlying9 rfl (Kag hW (ltOf q1) q1))) ?_
        simp only [Act.put,sA,sZ,sS]
        refine Kao 4 14 rfl rfl (by kernel_rfl) rfl (Kan [.string (strB s1)] rfl rfl Tryz.func35 (by kernel_rfl) (by kernel_rfl)) ?_
        refine (hnm _).mono ?_
        rintro e W4 ⟨rfl,rfl⟩
        have hS4:=hS
        refine ⟨_,rfl,.inr hS4,?_⟩
        simp only [Act.put,sA,sZ,sS]
        refine tk 5 15 (v:=.bool false) rfl rfl (fun W hW=>Kar (b:=true) rfl rfl) ?_
        simp only [Act.put,sA,sZ,sS]
        refine tk 6 16 (v:=.bool false) rfl rfl (fun W hW=>Kab rfl rfl) ?_
        simp only [Act.put,sA,sZ,sS]
        refine tk 7 17 (v:=.int .i64 (j : Int)) rfl rfl (fun W hW=>Kab rfl rfl) ?_
        simp only [Act.put,sA,sZ,sS]
        refine tk 8 18 (v:=.bool true) rfl rfl (fun W hW=>Kal rfl rfl rfl (hgt W)) ?_
        simp only [Act.put,sA,sZ,sS]
        refine tk 9 19 (v:=.bool true) rfl rfl (fun W hW=>Kab rfl rfl) ?_
        simp only [Act.put,sA,sZ,sS]
        refine tk 10 20 (v:=.slice (some ⟨bk,ok,none⟩) l.length c) rfl rfl (fun W hW=>Kab rfl rfl) ?_
        simp only [Act.put,sA,sZ,sS]
        refine tk 11 21 (v:=.int .i64 (j : Int)) rfl rfl (fun W hW=>Kab rfl rfl) ?_
        simp only [Act.put,sA,sZ,sS]
        refine tk 12 22 (v:=.int .i64 ((j - 1 : Nat) : Int)) rfl rfl (fun W hW=>Kal rfl rfl rfl (hsub W)) ?_
        simp only [Act.put,sA,sZ,sS]
        refine tk 13 23 (v:=.pointer (some ⟨bk,ok + (j - 1),none⟩)) rfl rfl (fun W hW=>Kaj rfl rfl rfl (hi0 W)) ?_
        simp only [Act.put,sA,sZ,sS]
        refine tk 14 24 (v:=.string (strB s0)) rfl rfl (fun W hW=>Kad rfl rfl (Kae (w:=W) Tryz.underlying9 rfl (Kag hW (ltOf q0) q0))) ?_
        simp only [Act.put,sA,sZ,sS]
        refine tk 15 25 (v:=.slice (some ⟨bk,ok,none⟩) l.length c) rfl rfl (fun W hW=>Kab rfl rfl) ?_
        simp only [Act.put,sA,sZ,sS]
        refine tk 16 26 (v:=.int .i64 (j : Int)) rfl rfl (fun W hW=>Kab rfl rfl) ?_
        simp only [Act.put,sA,sZ,sS]
        refine tk 17 27 (v:=.pointer (some ⟨bk,ok + j,none⟩)) rfl rfl (fun W hW=>Kaj rfl rfl rfl (hi1 W)) ?_
        simp only [Act.put,sA,sZ,sS]
        refine tk 18 28 (v:=.string (strB s1)) rfl rfl (fun W hW=>Kad rfl rfl (Kae (w:=W) Tryz.underlying9 rfl (Kag hW (ltOf q1) q1))) ?_
        simp only [Act.put,sA,sZ,sS]
        refine Kao 19 29 rfl rfl (by kernel_rfl) rfl (Kan [.string (strB s0),.string (strB s1)] rfl rfl Tryz.func93 (by kernel_rfl) (by kernel_rfl)) ?_
        refine (texts_any s0 s1 hl0 hl1 _).mono ?_
        rintro e W19 ⟨rfl,hb19⟩
        have hS19:=Kaa hS4 hb19
        refine ⟨_,rfl,.inr hS19,?_⟩
        simp only [Act.put,sA,sZ,sS]
        refine tk 20 30 (v:=.bool (!(ltB s0 s1))) rfl rfl (fun W hW=>Kal rfl rfl rfl (hge W)) ?_
        simp only [Act.put,sA,sZ,sS]
        refine tk 21 31 (v:=.bool (!(ltB s0 s1))) rfl rfl (fun W hW=>rfl) ?_
        simp only [Act.put,sA,sZ,sS]
        refine tk 22 32 (v:=.bool (!(ltB s0 s1))) rfl rfl (fun W hW=>rfl) ?_
        simp only [Act.put,sA,sZ,sS]
        refine done (by kernel_rfl) ?_ _
        have HB:=yh (Kaa HB1.out hS19)
        clear hi1 q1 hnm hB0 hgt hi0 q0 hl0 hl1 hsub hge hS hS4 hS19 hb19 HX
        simp only [hlb,Bool.not_true]
        go_wp2
        go_roundw
        case rel=>exact ⟨j + 1,hlt1,by go_num,yh ⟨HA.out,HN.out,HB.out⟩⟩
        case measure=>simp [intOf];omega
      | false =>
        have HN:=yh (HNR.out.1 hlb)
        go_wp2
        obtain ⟨hi1,q1,hnm,hB0,hgt,hi0,q0,hl0,hl1,hsub,hge⟩:=HX.out
        refine Kaf (fun W=>Below wr.heap.size wr W) (by kernel_rfl) hB0 (fun hS=>?_)
        refine tk 0 10 (v:=.slice (some ⟨bk,ok,none⟩) l.length c) rfl rfl (fun W hW=>Kab rfl rfl) ?_
        simp only [Act.put,sA,sZ,sS]
        refine tk 1 11 (v:=.int .i64 (j : Int)) rfl rfl (fun W hW=>Kab rfl rfl) ?_
        simp only [Act.put,sA,sZ,sS]
        refine tk 2 12 (v:=.pointer (some ⟨bk,ok + j,none⟩)) rfl rfl (fun W hW=>Kaj rfl rfl rfl (hi1 W)) ?_
        simp only [Act.put,sA,sZ,sS]
        refine tk 3 13 (v:=.string (strB s1)) rfl rfl (fun W hW=>Kad rfl rfl (Kae (w:=W) Tryz.underlying9 rfl (Kag hW (ltOf q1) q1))) ?_
        simp only [Act.put,sA,sZ,sS]
        refine Kao 4 14 rfl rfl (by kernel_rfl) rfl (Kan [.string (strB s1)] rfl rfl Tryz.func35 (by kernel_rfl) (by kernel_rfl)) ?_
        refine (hnm _).mono ?_
        rintro e W4 ⟨rfl,rfl⟩
        have hS4:=hS
        refine ⟨_,rfl,.inr hS4,?_⟩
        simp only [Act.put,sA,sZ,sS]
        refine tk 5 15 (v:=.bool false) rfl rfl (fun W hW=>Kar (b:=true) rfl rfl) ?_
        simp only [Act.put,sA,sZ,sS]
        refine tk 6 16 (v:=.bool false) rfl rfl (fun W hW=>Kab rfl rfl) ?_
        simp only [Act.put,sA,sZ,sS]
        refine tk 7 17 (v:=.int .i64 (j : Int)) rfl rfl (fun W hW=>Kab rfl rfl) ?_
        simp only [Act.put,sA,sZ,sS]
        refine tk 8 18 (v:=.bool true) rfl rfl (fun W hW=>Kal rfl rfl rfl (hgt W)) ?_
        simp only [Act.put,sA,sZ,sS]
        refine tk 9 19 (v:=.bool true) rfl rfl (fun W hW=>Kab rfl rfl) ?_
        simp only [Act.put,sA,sZ,sS]
        refine tk 10 20 (v:=.slice (some ⟨bk,ok,none⟩) l.length c) rfl rfl (fun W hW=>Kab rfl rfl) ?_
        simp only [Act.put,sA,sZ,sS]
        refine tk 11 21 (v:=.int .i64 (j : Int)) rfl rfl (fun W hW=>Kab rfl rfl) ?_
        simp only [Act.put,sA,sZ,sS]
        refine tk 12 22 (v:=.int .i64 ((j - 1 : Nat) : Int)) rfl rfl (fun W hW=>Kal rfl rfl rfl (hsub W)) ?_
        simp only [Act.put,sA,sZ,sS]
        refine tk 13 23 (v:=.pointer (some ⟨bk,ok + (j - 1),none⟩)) rfl rfl (fun W hW=>Kaj rfl rfl rfl (hi0 W)) ?_
        simp only [Act.put,sA,sZ,sS]
        refine tk 14 24 (v:=.string (strB s0)) rfl rfl (fun W hW=>Kad rfl rfl (Kae (w:=W) Tryz.underlying9 rfl (Kag hW (ltOf q0) q0))) ?_
        simp only [Act.put,sA,sZ,sS]
        refine tk 15 25 (v:=.slice (some ⟨bk,ok,none⟩) l.length c) rfl rfl (fun W hW=>Kab rfl rfl) ?_
        simp only [Act.put,sA,sZ,sS]
        refine tk 16 26 (v:=.int .i64 (j : Int)) rfl rfl (fun W hW=>Kab rfl rfl) ?_
        simp only [Act.put,sA,sZ,sS]
        refine tk 17 27 (v:=.pointer (some ⟨bk,ok + j,none⟩)) rfl rfl (fun W hW=>Kaj rfl rfl rfl (hi1 W)) ?_
        simp only [Act.put,sA,sZ,sS]
        refine tk 18 28 (v:=.string (strB s1)) rfl rfl (fun W hW=>Kad rfl rfl (Kae (w:=W) Tryz.underlying9 rfl (Kag hW (ltOf q1) q1))) ?_
        simp only [Act.put,sA,sZ,sS]
        refine Kao 19 29 rfl rfl (by kernel_rfl) rfl (Kan [.string (strB s0),.string (strB s1)] rfl rfl Tryz.func93 (by kernel_rfl) (by kernel_rfl)) ?_
        refine (texts_any s0 s1 hl0 hl1 _).mono ?_
        rintro e W19 ⟨rfl,hb19⟩
        have hS19:=Kaa hS4 hb19
        refine ⟨_,rfl,.inr hS19,?_⟩
        simp only [Act.put,sA,sZ,sS]
        refine tk 20 30 (v:=.bool (!(ltB s0 s1))) rfl rfl (fun W hW=>Kal rfl rfl rfl (hge W)) ?_
        simp only [Act.put,sA,sZ,sS]
        refine tk 21 31 (v:=.bool (!(ltB s0 s1))) rfl rfl (fun W hW=>rfl) ?_
        simp only [Act.put,sA,sZ,sS]
        refine tk 22 32 (v:=.bool (!(ltB s0 s1))) rfl rfl (fun W hW=>rfl) ?_
        simp only [Act.put,sA,sZ,sS]
        refine done (by kernel_rfl) ?_ _
        have HB:=yh (Kaa HB1.out hS19)
        clear hi1 q1 hnm hB0 hgt hi0 q0 hl0 hl1 hsub hge hS hS4 hS19 hb19 HX
        simp only [hlb,Bool.not_false]
        go_wp2
        go_ret
        exact ⟨Kam (by unfold Kda;rw [HN.out,Bool.false_and]),HB.out⟩
  ·obtain rfl : j = l.length:=by omega
   have h1:=HI.out.1
   have h2:=HI.out.2.1
   rw [List.take_length] at h1 h2
   have HF:=yh (And.intro (show Kda l = true by unfold Kda;rw [h1,h2];rfl) HI.out.2.2)
   clear HI h1 h2
   go_wp2
   go_ret
   exact ⟨Kam HF.out.1.symm,HF.out.2⟩
theorem refstor_any {v : V} {w : World} {x : Array Value} (hx : VRd w v x) (ht : totV v ≤ 1099511627776) : Calls Tryz.prog 94 #[.agg x] w fun e w'=>e = .returned (.bool (okSt v)) ∧ Below w.heap.size w w':=by
 have hb1:=Kai (w:=w) (.cells x 31)
 have hx1:=heap_alloc_new w (.cells x 31)
 have HC:=yh (checkR_any ht (hx.below hb1))
 have HST:=yh (fun (ho : okV v = true) W (g : Below (w.alloc (.cells x 31)).heap.size (w.alloc (.cells x 31)) W)=>storR_any ((hx.below hb1).below g) ho)
 have HX:=yh (And.intro hb1 hx1)
 have hbx : ∀ W : World,W.heap[w.heap.size]? = some (.cells x 31 (0,0)) → (loadVar 31 ⟨w.heap.size,0,none⟩).run Tryz.prog W = .ok (.agg x) W:=fun W hW=>Kdo.get (P:=Tryz.prog) (ef_val.size hx) hW
 have HL1:=yh (hbx _ hx1)
 have HLD:=yh hbx
 have hS:=(ef_val.ones hx)
 have hsz:=ef_val.size hx
 cases hok : decide (Kcr Lib.validD v = 0) with
 | false =>
   have hne : ¬ Kcr Lib.validD v = 0:=by simpa using hok
   have hov : okV v = false:=by unfold okV;rw [beq_eq_false_iff_ne];exact hne
   have HF:=yh (show okSt v = false by unfold okSt;rw [hov];rfl)
   generalize Kcr Lib.validD v = ck at *
   clear hb1 hx1 hbx hS hx ht hok hov HST HLD
   go_enter Tryz.func94,Tryz.ntmps94
   go_wp2_with (first
    | ((with_reducible apply Kap);exact HL1.out;exact rfl;clear HL1)
    | (go_at_call 83;refine HC.out.mono ?_;rintro e W2 ⟨rfl,hb⟩;have HB:=yh (Kaa HX.out.1 hb);clear hb))
   go_ret
   exact ⟨Kam HF.out.symm,HB.out⟩
 | true =>
   have he : Kcr Lib.validD v = 0:=by simpa using hok
   have hov : okV v = true:=by unfold okV;rw [he];rfl
   have HF:=yh (show okSt v = storB v by unfold okSt;rw [hov];rfl)
   rw [he] at HC
   have HST2:=yh (HST.out hov)
   generalize storB v = sb at *
   clear hb1 hx1 hbx hS hx ht hok hov HST he
   go_enter Tryz.func94,Tryz.ntmps94
   go_wp2_with (first
    | ((with_reducible apply Kap);exact HL1.out;exact rfl;clear HL1)
    | ((with_reducible apply Kcu);exact HL2.out;exact rfl;exact rfl;clear HL2)
    | (go_at_call 83
       (
        refine HC.out.mono ?_
        rintro e W2 ⟨rfl,hb⟩
        have HB:=yh (Kaa HX.out.1 hb)
        have HL2:=yh (HLD.out W2 (Kak hb (by simp) HX.out.2))
        have HS2:=yh (HST2.out W2 hb)
        clear hb))
    | (go_at_call 136;refine HS2.out.mono ?_;rintro e W3 ⟨rfl,hb⟩;have HB3:=yh (Kaa HB.out hb);clear hb))
   go_ret
   exact ⟨Kam HF.out.symm,HB3.out⟩
theorem Kdw (b o : Nat) (W : World) : (Instr.fieldAt 47 (.pointer (some ⟨b,o,none⟩)) 0).run Tryz.prog W = .ok (.pointer (some ⟨b,o,none⟩)) W:=by simp [go_sem]
theorem fa_pr1 (b o : Nat) (W : World) : (Instr.fieldAt 47 (.pointer (some ⟨b,o,none⟩)) 1).run Tryz.prog W = .ok (.pointer (some ⟨b,o + 1,none⟩)) W:=by simp [go_sem]
theorem ia_prop {b o n len c : Nat} (h : n < len) (W : World) : (Instr.indexAt 27 (.slice (some ⟨b,o,none⟩) len c) (.int .i64 (n : Int))).run Tryz.prog W = .ok (.pointer (some ⟨b,o + n * 7,none⟩)) W:=by simp [go_sem,h]
theorem ia_node {b o n len c : Nat} (h : n < len) (W : World) : (Instr.indexAt 22 (.slice (some ⟨b,o,none⟩) len c) (.int .i64 (n : Int))).run Tryz.prog W = .ok (.pointer (some ⟨b,o + n * 3,none⟩)) W:=by simp [go_sem,h]
theorem ia_rel {b o n len c : Nat} (h : n < len) (W : World) : (Instr.indexAt 23 (.slice (some ⟨b,o,none⟩) len c) (.int .i64 (n : Int))).run Tryz.prog W = .ok (.pointer (some ⟨b,o + n * 5,none⟩)) W:=by simp [go_sem,h]
theorem sub_nat {j : Nat} (h0 : 0 < j) (hj : j ≤ 140737488355328) (W : World) : (binOp .sub 3 (.int .i64 (j : Int)) (.int .i64 1)).run Tryz.prog W = .ok (.int .i64 ((j - 1 : Nat) : Int)) W:=by
 have e1 : (j : Int) = ((j - 1 : Nat) : Int) + 1:=by omega
 rw [e1]
 exact sub_one (by omega) W
theorem gtr_nat {j : Nat} (W : World) : (binOp .gtr 3 (.int .i64 (j : Int)) (.int .i64 0)).run Tryz.prog W = .ok (.bool (decide (0 < j))) W:=by
 have e : decide ((0 : Int) < (j : Int)) = decide (0 < j):=by rw [Bool.eq_iff_iff];simp
 simp [go_sem]
theorem Kdr {w : World} {b o : Nat} {p : PropD} {cs : Array Value} (hv : PRd w p cs) (hc : ∀ (i : Nat) (u : Value),cs[i]? = some u → w.cell? ⟨b,o + i,none⟩ = some u) :
 w.cell? ⟨b,o,none⟩ = some (.string (strB p.key)) ∧ p.key.length ≤ 140737488355328 ∧ ∃ y,VRd w p.val y ∧ ∀ (i : Nat) (u : Value),y[i]? = some u → w.cell? ⟨b,o + 1 + i,none⟩ = some u:=by
 obtain ⟨y,rfl,h1,h2⟩:=hv
 refine ⟨hc 0 _ (by rw [Array.getElem?_append_left (by simp)];rfl),h1,y,h2,fun i u hu=>?_⟩
 have:=hc (1 + i) u (by rw [Array.getElem?_append_right (by simp)];simpa using hu)
 rw [← Nat.add_assoc] at this
 exact this
theorem refprops_any {w : World} {p : Option Addr} {c : Nat} {l : List PropD} (h : GRd PRd 7 w p c l) (ht : ∀ x ∈ l,totV x.val ≤ 1099511627776) : Calls Tryz.prog 34 #[.slice p l.length c] w fun e w'=>e = .returned (.bool (okPs l)) ∧ Below w.heap.size w w':=by
 have z1 : (l.length : Int) ≤ 140737488355328:=by have:=h.1.2.1;omega
 have H:=yh (And.intro h ht)
 clear h ht
 go_enter Tryz.func34,Tryz.ntmps34
 go_wp2
 go_loopw [3] (fun i W=>∃ j : Nat,j ≤ l.length ∧ i = .int .i64 (j : Int) ∧ Hid ((l.take j).all okP = true ∧ Kav ((l.map PropD.key).take j) = true ∧ Below w.heap.size w W)) (fun i _=>l.length - (intOf i).toNat)
 case atStart=>exact ⟨0,Nat.zero_le _,rfl,yh ⟨by simp,by simp [Kav],Below.refl _ _⟩⟩
 case round =>
  obtain ⟨j,hj,rfl,HI⟩:=hrel
  by_cases hlt : j < l.length
  ·have hlt1 : j + 1 ≤ l.length:=hlt
   have hRw:=H.out.1.below (fun h=>h.below HI.out.2.2) HI.out.2.2
   have htv:=H.out.2 l[j] (List.getElem_mem hlt)
   obtain ⟨bk,ok,cs,rfl,hcs,hcc,hv⟩:=hRw.get hlt
   obtain ⟨q1,hl1,y1,hv1,r1⟩:=Kdr hv hcc
   have hy1:=ef_val.size hv1
   have hi1 : ∀ W' : World,(Instr.indexAt 27 (.slice (some ⟨bk,ok,none⟩) l.length c) (.int .i64 (j : Int))).run Tryz.prog W' = .ok (.pointer (some ⟨bk,ok + j * 7,none⟩)) W':=fun W'=>ia_prop hlt W'
   have hall:=Kd9 (f:=okP) hlt HI.out.1
   have hno:=okPs_no hlt
   have hop : okP l[j] = (okNm l[j].key && okSt l[j].val):=rfl
   rw [hop] at hall hno
   have hnm:=fun W=>refname_any (w:=W) l[j].key hl1
   have hst:=fun W (g : Below wr.heap.size wr W)=>refstor_any (w:=W) (hv1.below g) htv
   have hB0 : Below wr.heap.size wr wr.drew:=(Below.refl _ wr).drew
   have hk1 : (l.map PropD.key)[j]'(by simpa using hlt) = l[j].key:=List.getElem_map ..
   have hnr:=fun (h0 : 0 < j) (h : ltB (l[j - 1]'(by omega)).key l[j].key = false)=>risesB_no (l:=l.map PropD.key) h0 (by simpa using hlt) (by rw [List.getElem_map,List.getElem_map];exact h)
   have hmr:=fun (h0 : 0 < j) (h : ltB (l[j - 1]'(by omega)).key l[j].key = true)=>risesB_more (l:=l.map PropD.key) h0 (by simpa using hlt) HI.out.2.1 (by rw [List.getElem_map,List.getElem_map];exact h)
   clear hcs hcc hv hk1 hop
   cases hok : okNm l[j].key with
   | false =>
     have HF:=yh (And.intro (hno (by rw [hok];rfl)) HI.out.2.2)
     simp only [hok] at hnm
     clear hnr hmr
     generalize l[j].key = s1 at *
     have HX:=yh (And.intro hi1 (And.intro q1 (And.intro hnm hB0)))
     clear hi1 q1 hnm hB0 hall hno hRw HI hst hv1 r1 htv
     go_wp2
     obtain ⟨hi1,q1,hnm,hB0⟩:=HX.out
     refine Kaf (fun W=>Below wr.heap.size wr W) (by kernel_rfl) hB0 (fun hS=>?_)
     refine tk 0 10 (v:=.slice (some ⟨bk,ok,none⟩) l.length c) rfl rfl (fun W hW=>Kab rfl rfl) ?_
     simp only [Act.put,sA,sZ,sS]
     refine tk 1 11 (v:=.int .i64 (j : Int)) rfl rfl (fun W hW=>Kab rfl rfl) ?_
     simp only [Act.put,sA,sZ,sS]
     refine tk 2 12 (v:=.pointer (some ⟨bk,ok + j * 7,none⟩)) rfl rfl (fun W hW=>Kaj rfl rfl rfl (hi1 W)) ?_
     simp only [Act.put,sA,sZ,sS]
     refine tk 3 13 (v:=.pointer (some ⟨bk,ok + j * 7,none⟩)) rfl rfl (fun W hW=>Kac rfl rfl (Kdw _ _ W)) ?_
     simp only [Act.put,sA,sZ,sS]
     refine tk 4 14 (v:=.string (strB s1)) rfl rfl (fun W hW=>Kad rfl rfl (Kae (w:=W) Tryz.underlying9 rfl (Kag hW (ltOf q1) q1))) ?_
     simp only [Act.put,sA,sZ,sS]
     refine Kao 5 15 rfl rfl (by kernel_rfl) rfl (Kan [.string (strB s1)] rfl rfl Tryz.func35 (by kernel_rfl) (by kernel_rfl)) ?_
     refine (hnm _).mono ?_
     rintro e W5 ⟨rfl,rfl⟩
     have hS5:=hS
     refine ⟨_,rfl,.inr hS5,?_⟩
     simp only [Act.put,sA,sZ,sS]
     refine tk 6 16 (v:=.bool true) rfl rfl (fun W hW=>Kar (b:=false) rfl rfl) ?_
     simp only [Act.put,sA,sZ,sS]
     refine tk 7 17 (v:=.bool true) rfl rfl (fun W hW=>Kab rfl rfl) ?_
     simp only [Act.put,sA,sZ,sS]
     refine tn 8 18 rfl rfl ?_
     simp only [Act.put,sA,sZ,sS]
     refine tn 9 19 rfl rfl ?_
     simp only [Act.put,sA,sZ,sS]
     refine tn 10 20 rfl rfl ?_
     simp only [Act.put,sA,sZ,sS]
     refine tn 11 21 rfl rfl ?_
     simp only [Act.put,sA,sZ,sS]
     refine tn 12 22 rfl rfl ?_
     simp only [Act.put,sA,sZ,sS]
     refine Kau 13 23 rfl rfl (by kernel_rfl) rfl ?_ (.inr (by assumption))
     simp only [Act.put,sA,sZ,sS]
     refine tn 14 24 rfl rfl ?_
     simp only [Act.put,sA,sZ,sS]
     refine tk 15 25 (v:=.bool true) rfl rfl (fun W hW=>rfl) ?_
     simp only [Act.put,sA,sZ,sS]
     refine tk 16 26 (v:=.bool true) rfl rfl (fun W hW=>Kab rfl rfl) ?_
     simp only [Act.put,sA,sZ,sS]
     refine tn 17 27 rfl rfl ?_
     simp only [Act.put,sA,sZ,sS]
     refine tn 18 28 rfl rfl ?_
     simp only [Act.put,sA,sZ,sS]
     refine tn 19 29 rfl rfl ?_
     simp only [Act.put,sA,sZ,sS]
     refine tn 20 30 rfl rfl ?_
     simp only [Act.put,sA,sZ,sS]
     refine tn 21 31 rfl rfl ?_
     simp only [Act.put,sA,sZ,sS]
     refine tn 22 32 rfl rfl ?_
     simp only [Act.put,sA,sZ,sS]
     refine tn 23 33 rfl rfl ?_
     simp only [Act.put,sA,sZ,sS]
     refine tn 24 34 rfl rfl ?_
     simp only [Act.put,sA,sZ,sS]
     refine tn 25 35 rfl rfl ?_
     simp only [Act.put,sA,sZ,sS]
     refine tn 26 36 rfl rfl ?_
     simp only [Act.put,sA,sZ,sS]
     refine tn 27 37 rfl rfl ?_
     simp only [Act.put,sA,sZ,sS]
     refine tn 28 38 rfl rfl ?_
     simp only [Act.put,sA,sZ,sS]
     refine tn 29 39 rfl rfl ?_
     simp only [Act.put,sA,sZ,sS]
     refine tn 30 40 rfl rfl ?_
     simp only [Act.put,sA,sZ,sS]
     refine Kau 31 41 rfl rfl (by kernel_rfl) rfl ?_ (.inr (by assumption))
     simp only [Act.put,sA,sZ,sS]
     refine tn 32 42 rfl rfl ?_
     simp only [Act.put,sA,sZ,sS]
     refine tn 33 43 rfl rfl ?_
     simp only [Act.put,sA,sZ,sS]
     refine tk 34 44 (v:=.bool true) rfl rfl (fun W hW=>rfl) ?_
     simp only [Act.put,sA,sZ,sS]
     refine done (by kernel_rfl) ?_ _
     have HB:=yh hS5
     clear hi1 q1 hnm hB0 hS hS5 HX
     go_wp2
     go_ret
     exact ⟨Kam HF.out.1.symm,Kaa HF.out.2 HB.out⟩
   | true =>
     simp only [hok] at hnm
     cases hos : okSt l[j].val with
     | false =>
       have HF:=yh (And.intro (hno (by rw [hok,hos];rfl)) HI.out.2.2)
       simp only [hos] at hst
       clear hnr hmr
       generalize l[j].key = s1 at *
       have HX:=yh (And.intro hi1 (And.intro q1 (And.intro hnm (And.intro hB0 (And.intro hst (And.intro hy1 r1))))))
       clear hi1 q1 hnm hB0 hall hno hRw HI hst hv1 r1 htv hos hy1
       go_wp2
       obtain ⟨hi1,q1,hnm,hB0,hst,hy1,r1⟩:=HX.out
       refine Kaf (fun W=>Below wr.heap.size wr W) (by kernel_rfl) hB0 (fun hS=>?_)
       refine tk 0 10 (v:=.slice (some ⟨bk,ok,none⟩) l.length c) rfl rfl (fun W hW=>Kab rfl rfl) ?_
       simp only [Act.put,sA,sZ,sS]
       refine tk 1 11 (v:=.int .i64 (j : Int)) rfl rfl (fun W hW=>Kab rfl rfl) ?_
       simp only [Act.put,sA,sZ,sS]
       refine tk 2 12 (v:=.pointer (some ⟨bk,ok + j * 7,none⟩)) rfl rfl (fun W hW=>Kaj rfl rfl rfl (hi1 W)) ?_
       simp only [Act.put,sA,sZ,sS]
       refine tk 3 13 (v:=.pointer (some ⟨bk,ok + j * 7,none⟩)) rfl rfl (fun W hW=>Kac rfl rfl (Kdw _ _ W)) ?_
       simp only [Act.put,sA,sZ,sS]
       refine tk 4 14 (v:=.string (strB s1)) rfl rfl (fun W hW=>Kad rfl rfl (Kae (w:=W) Tryz.underlying9 rfl (Kag hW (ltOf q1) q1))) ?_
       simp only [Act.put,sA,sZ,sS]
       refine Kao 5 15 rfl rfl (by kernel_rfl) rfl (Kan [.string (strB s1)] rfl rfl Tryz.func35 (by kernel_rfl) (by kernel_rfl)) ?_
       refine (hnm _).mono ?_
       rintro e W5 ⟨rfl,rfl⟩
       have hS5:=hS
       refine ⟨_,rfl,.inr hS5,?_⟩
       simp only [Act.put,sA,sZ,sS]
       refine tk 6 16 (v:=.bool false) rfl rfl (fun W hW=>Kar (b:=true) rfl rfl) ?_
       simp only [Act.put,sA,sZ,sS]
       refine tk 7 17 (v:=.bool false) rfl rfl (fun W hW=>Kab rfl rfl) ?_
       simp only [Act.put,sA,sZ,sS]
       refine tk 8 18 (v:=.slice (some ⟨bk,ok,none⟩) l.length c) rfl rfl (fun W hW=>Kab rfl rfl) ?_
       simp only [Act.put,sA,sZ,sS]
       refine tk 9 19 (v:=.int .i64 (j : Int)) rfl rfl (fun W hW=>Kab rfl rfl) ?_
       simp only [Act.put,sA,sZ,sS]
       refine tk 10 20 (v:=.pointer (some ⟨bk,ok + j * 7,none⟩)) rfl rfl (fun W hW=>Kaj rfl rfl rfl (hi1 W)) ?_
       simp only [Act.put,sA,sZ,sS]
       refine tk 11 21 (v:=.pointer (some ⟨bk,ok + j * 7 + 1,none⟩)) rfl rfl (fun W hW=>Kac rfl rfl (fa_pr1 _ _ W)) ?_
       simp only [Act.put,sA,sZ,sS]
       refine tk 12 22 (v:=.agg y1) rfl rfl (fun W hW=>Kad rfl rfl (StT.load (P:=Tryz.prog) (W:=W) Kdo hy1 fun i u hu=>Kag hW (ltOf (r1 i u hu)) (r1 i u hu))) ?_
       simp only [Act.put,sA,sZ,sS]
       refine Kao 13 23 rfl rfl (by kernel_rfl) rfl (Kan [.agg y1] rfl rfl Tryz.func94 (by kernel_rfl) (by kernel_rfl)) ?_
       refine (hst _ hS5).mono ?_
       rintro e W13 ⟨rfl,hb13⟩
       have hS13:=Kaa hS5 hb13
       refine ⟨_,rfl,.inr hS13,?_⟩
       simp only [Act.put,sA,sZ,sS]
       refine tk 14 24 (v:=.bool true) rfl rfl (fun W hW=>Kar (b:=false) rfl rfl) ?_
       simp only [Act.put,sA,sZ,sS]
       refine tk 15 25 (v:=.bool true) rfl rfl (fun W hW=>rfl) ?_
       simp only [Act.put,sA,sZ,sS]
       refine tk 16 26 (v:=.bool true) rfl rfl (fun W hW=>Kab rfl rfl) ?_
       simp only [Act.put,sA,sZ,sS]
       refine tn 17 27 rfl rfl ?_
       simp only [Act.put,sA,sZ,sS]
       refine tn 18 28 rfl rfl ?_
       simp only [Act.put,sA,sZ,sS]
       refine tn 19 29 rfl rfl ?_
       simp only [Act.put,sA,sZ,sS]
       refine tn 20 30 rfl rfl ?_
       simp only [Act.put,sA,sZ,sS]
       refine tn 21 31 rfl rfl ?_
       simp only [Act.put,sA,sZ,sS]
       refine tn 22 32 rfl rfl ?_
       simp only [Act.put,sA,sZ,sS]
       refine tn 23 33 rfl rfl ?_
       simp only [Act.put,sA,sZ,sS]
       refine tn 24 34 rfl rfl ?_
       simp only [Act.put,sA,sZ,sS]
       refine tn 25 35 rfl rfl ?_
       simp only [Act.put,sA,sZ,sS]
       refine tn 26 36 rfl rfl ?_
       simp only [Act.put,sA,sZ,sS]
       refine tn 27 37 rfl rfl ?_
       simp only [Act.put,sA,sZ,sS]
       refine tn 28 38 rfl rfl ?_
       simp only [Act.put,sA,sZ,sS]
       refine tn 29 39 rfl rfl ?_
       simp only [Act.put,sA,sZ,sS]
       refine tn 30 40 rfl rfl ?_
       simp only [Act.put,sA,sZ,sS]
       refine Kau 31 41 rfl rfl (by kernel_rfl) rfl ?_ (.inr (by assumption))
       simp only [Act.put,sA,sZ,sS]
       refine tn 32 42 rfl rfl ?_
       simp only [Act.put,sA,sZ,sS]
       refine tn 33 43 rfl rfl ?_
       simp only [Act.put,sA,sZ,sS]
       refine tk 34 44 (v:=.bool true) rfl rfl (fun W hW=>rfl) ?_
       simp only [Act.put,sA,sZ,sS]
       refine done (by kernel_rfl) ?_ _
       have HB:=yh hS13
       clear hi1 q1 hnm hB0 hS hS5 hS13 hb13 hst hy1 r1 HX
       go_wp2
       go_ret
       exact ⟨Kam HF.out.1.symm,Kaa HF.out.2 HB.out⟩
     | true =>
       have HA:=yh (hall (by rw [hok,hos];rfl))
       simp only [hos] at hst
       have hgt:=gtr_nat (j:=j)
       by_cases h0 : j = 0
       ·subst h0
        have HN:=yh (risesB_one (l:=l.map PropD.key) (by simpa using hlt))
        have HB1:=yh HI.out.2.2
        clear hnr hmr
        have hgt : ∀ W : World,(binOp .gtr 3 (.int .i64 ((0 : Nat) : Int)) (.int .i64 0)).run Tryz.prog W = .ok (.bool false) W:=fun W=>by simp [go_sem]
        generalize l[0].key = s1 at *
        have HX:=yh (And.intro hi1 (And.intro q1 (And.intro hnm (And.intro hB0 (And.intro hst (And.intro hy1 (And.intro r1 hgt)))))))
        clear hi1 q1 hnm hB0 hall hno hRw HI hst hv1 r1 htv hos hy1 hgt hok
        go_wp2
        obtain ⟨hi1,q1,hnm,hB0,hst,hy1,r1,hgt⟩:=HX.out
        refine Kaf (fun W=>Below wr.heap.size wr W) (by kernel_rfl) hB0 (fun hS=>?_)
        refine tk 0 10 (v:=.slice (some ⟨bk,ok,none⟩) l.length c) rfl rfl (fun W hW=>Kab rfl rfl) ?_
        simp only [Act.put,sA,sZ,sS]
        refine tk 1 11 (v:=.int .i64 ((0 : Nat) : Int)) rfl rfl (fun W hW=>Kab rfl rfl) ?_
        simp only [Act.put,sA,sZ,sS]
        refine tk 2 12 (v:=.pointer (some ⟨bk,ok + 0 * 7,none⟩)) rfl rfl (fun W hW=>Kaj rfl rfl rfl (hi1 W)) ?_
        simp only [Act.put,sA,sZ,sS]
        refine tk 3 13 (v:=.pointer (some ⟨bk,ok + 0 * 7,none⟩)) rfl rfl (fun W hW=>Kac rfl rfl (Kdw _ _ W)) ?_
        simp only [Act.put,sA,sZ,sS]
        refine tk 4 14 (v:=.string (strB s1)) rfl rfl (fun W hW=>Kad rfl rfl (Kae (w:=W) Tryz.underlying9 rfl (Kag hW (ltOf q1) q1))) ?_
        simp only [Act.put,sA,sZ,sS]
        refine Kao 5 15 rfl rfl (by kernel_rfl) rfl (Kan [.string (strB s1)] rfl rfl Tryz.func35 (by kernel_rfl) (by kernel_rfl)) ?_
        refine (hnm _).mono ?_
        rintro e W5 ⟨rfl,rfl⟩
        have hS5:=hS
        refine ⟨_,rfl,.inr hS5,?_⟩
        simp only [Act.put,sA,sZ,sS]
        refine tk 6 16 (v:=.bool false) rfl rfl (fun W hW=>Kar (b:=true) rfl rfl) ?_
        simp only [Act.put,sA,sZ,sS]
        refine tk 7 17 (v:=.bool false) rfl rfl (fun W hW=>Kab rfl rfl) ?_
        simp only [Act.put,sA,sZ,sS]
        refine tk 8 18 (v:=.slice (some ⟨bk,ok,none⟩) l.length c) rfl rfl (fun W hW=>Kab rfl rfl) ?_
        simp only [Act.put,sA,sZ,sS]
        refine tk 9 19 (v:=.int .i64 ((0 : Nat) : Int)) rfl rfl (fun W hW=>Kab rfl rfl) ?_
        simp only [Act.put,sA,sZ,sS]
        refine tk 10 20 (v:=.pointer (some ⟨bk,ok + 0 * 7,none⟩)) rfl rfl (fun W hW=>Kaj rfl rfl rfl (hi1 W)) ?_
        simp only [Act.put,sA,sZ,sS]
        refine tk 11 21 (v:=.pointer (some ⟨bk,ok + 0 * 7 + 1,none⟩)) rfl rfl (fun W hW=>Kac rfl rfl (fa_pr1 _ _ W)) ?_
        simp only [Act.put,sA,sZ,sS]
        refine tk 12 22 (v:=.agg y1) rfl rfl (fun W hW=>Kad rfl rfl (StT.load (P:=Tryz.prog) (W:=W) Kdo hy1 fun i u hu=>Kag hW (ltOf (r1 i u hu)) (r1 i u hu))) ?_
        simp only [Act.put,sA,sZ,sS]
        refine Kao 13 23 rfl rfl (by kernel_rfl) rfl (Kan [.agg y1] rfl rfl Tryz.func94 (by kernel_rfl) (by kernel_rfl)) ?_
        refine (hst _ hS5).mono ?_
        rintro e W13 ⟨rfl,hb13⟩
        have hS13:=Kaa hS5 hb13
        refine ⟨_,rfl,.inr hS13,?_⟩
        simp only [Act.put,sA,sZ,sS]
        refine tk 14 24 (v:=.bool false) rfl rfl (fun W hW=>Kar (b:=true) rfl rfl) ?_
        simp only [Act.put,sA,sZ,sS]
        refine tk 15 25 (v:=.bool false) rfl rfl (fun W hW=>rfl) ?_
        simp only [Act.put,sA,sZ,sS]
        refine tk 16 26 (v:=.bool false) rfl rfl (fun W hW=>Kab rfl rfl) ?_
        simp only [Act.put,sA,sZ,sS]
        refine tk 17 27 (v:=.int .i64 ((0 : Nat) : Int)) rfl rfl (fun W hW=>Kab rfl rfl) ?_
        simp only [Act.put,sA,sZ,sS]
        refine tk 18 28 (v:=.bool false) rfl rfl (fun W hW=>Kal rfl rfl rfl (hgt W)) ?_
        simp only [Act.put,sA,sZ,sS]
        refine tk 19 29 (v:=.bool false) rfl rfl (fun W hW=>Kab rfl rfl) ?_
        simp only [Act.put,sA,sZ,sS]
        refine tn 20 30 rfl rfl ?_
        simp only [Act.put,sA,sZ,sS]
        refine tn 21 31 rfl rfl ?_
        simp only [Act.put,sA,sZ,sS]
        refine tn 22 32 rfl rfl ?_
        simp only [Act.put,sA,sZ,sS]
        refine tn 23 33 rfl rfl ?_
        simp only [Act.put,sA,sZ,sS]
        refine tn 24 34 rfl rfl ?_
        simp only [Act.put,sA,sZ,sS]
        refine tn 25 35 rfl rfl ?_
        simp only [Act.put,sA,sZ,sS]
        refine tn 26 36 rfl rfl ?_
        simp only [Act.put,sA,sZ,sS]
        refine tn 27 37 rfl rfl ?_
        simp only [Act.put,sA,sZ,sS]
        refine tn 28 38 rfl rfl ?_
        simp only [Act.put,sA,sZ,sS]
        refine tn 29 39 rfl rfl ?_
        simp only [Act.put,sA,sZ,sS]
        refine tn 30 40 rfl rfl ?_
        simp only [Act.put,sA,sZ,sS]
        refine Kau 31 41 rfl rfl (by kernel_rfl) rfl ?_ (.inr (by assumption))
        simp only [Act.put,sA,sZ,sS]
        refine tn 32 42 rfl rfl ?_
        simp only [Act.put,sA,sZ,sS]
        refine tk 33 43 (v:=.bool false) rfl rfl (fun W hW=>rfl) ?_
        simp only [Act.put,sA,sZ,sS]
        refine tk 34 44 (v:=.bool false) rfl rfl (fun W hW=>rfl) ?_
        simp only [Act.put,sA,sZ,sS]
        refine done (by kernel_rfl) ?_ _
        have HB:=yh (Kaa HB1.out hS13)
        clear hi1 q1 hnm hB0 hS hS5 hS13 hb13 hst hy1 r1 hgt HX
        go_wp2
        go_roundw
        case rel=>exact ⟨1,hlt1,by go_num,yh ⟨HA.out,HN.out,HB.out⟩⟩
        case measure=>simp [intOf];omega
       ·have h0' : 0 < j:=Nat.pos_of_ne_zero h0
        obtain ⟨bk2,ok2,cs0,e2,hcs0,hcc0,hv0⟩:=hRw.get (show j - 1 < l.length by omega)
        cases e2
        obtain ⟨q0,hl0,_,_,_⟩:=Kdr hv0 hcc0
        have hi0 : ∀ W' : World,(Instr.indexAt 27 (.slice (some ⟨bk,ok,none⟩) l.length c) (.int .i64 ((j - 1 : Nat) : Int))).run Tryz.prog W' = .ok (.pointer (some ⟨bk,ok + (j - 1) * 7,none⟩)) W':=fun W'=>ia_prop (by omega) W'
        have hgt : ∀ W : World,(binOp .gtr 3 (.int .i64 (j : Int)) (.int .i64 0)).run Tryz.prog W = .ok (.bool true) W:=fun W=>by rw [gtr_nat];simp [h0']
        have hsub:=sub_nat h0' (show j ≤ 140737488355328 by omega)
        have hge:=fun W=>geq_zero (cmpB (l[j - 1]'(by omega)).key l[j].key) W
        simp only [cmp_geq] at hge
        have HNR:=yh (And.intro (hnr h0') (hmr h0'))
        have HB1:=yh HI.out.2.2
        generalize (l[j - 1]'(by omega)).key = s0 at *
        generalize l[j].key = s1 at *
        have HX:=yh (And.intro hi1 (And.intro q1 (And.intro hnm (And.intro hB0 (And.intro hgt (And.intro hi0 (And.intro q0 (And.intro hl0 (And.intro hl1 (And.intro hsub (And.intro hge (And.intro hst (And.intro hy1 r1)))))))))))))
        clear hi1 q1 hnm hB0 hgt hi0 q0 hl0 hl1 hsub hge hall hno hRw HI hok h0 hnr hmr hst hv1 r1 htv hos hy1 hcs0 hcc0 hv0
        cases hlb : ltB s0 s1 with
        | true =>
          have HN:=yh (HNR.out.2 hlb)
          go_wp2
          obtain ⟨hi1,q1,hnm,hB0,hgt,hi0,q0,hl0,hl1,hsub,hge,hst,hy1,r1⟩:=HX.out
          refine Kaf (fun W=>Below wr.heap.size wr W) (by kernel_rfl) hB0 (fun hS=>?_)
          refine tk 0 10 (v:=.slice (some ⟨bk,ok,none⟩) l.length c) rfl rfl (fun W hW=>Kab rfl rfl) ?_
          simp only [Act.put,sA,sZ,sS]
          refine tk 1 11 (v:=.int .i64 (j : Int)) rfl rfl (fun W hW=>Kab rfl rfl) ?_
          simp only [Act.put,sA,sZ,sS]
          refine tk 2 12 (v:=.pointer (some ⟨bk,ok + j * 7,none⟩)) rfl rfl (fun W hW=>Kaj rfl rfl rfl (hi1 W)) ?_
          simp only [Act.put,sA,sZ,sS]
          refine tk 3 13 (v:=.pointer (some ⟨bk,ok + j * 7,none⟩)) rfl rfl (fun W hW=>Kac rfl rfl (Kdw _ _ W)) ?_
          simp only [Act.put,sA,sZ,sS]
          refine tk 4 14 (v:=.string (strB s1)) rfl rfl (fun W hW=>Kad rfl rfl (Kae (w:=W) Tryz.underlying9 rfl (Kag hW (ltOf q1) q1))) ?_
          simp only [Act.put,sA,sZ,sS]
          refine Kao 5 15 rfl rfl (by kernel_rfl) rfl (Kan [.string (strB s1)] rfl rfl Tryz.func35 (by kernel_rfl) (by kernel_rfl)) ?_
          refine (hnm _).mono ?_
          rintro e W5 ⟨rfl,rfl⟩
          have hS5:=hS
          refine ⟨_,rfl,.inr hS5,?_⟩
          simp only [Act.put,sA,sZ,sS]
          refine tk 6 16 (v:=.bool false) rfl rfl (fun W hW=>Kar (b:=true) rfl rfl) ?_
          simp only [Act.put,sA,sZ,sS]
          refine tk 7 17 (v:=.bool false) rfl rfl (fun W hW=>Kab rfl rfl) ?_
          simp only [Act.put,sA,sZ,sS]
          refine tk 8 18 (v:=.slice (some ⟨bk,ok,none⟩) l.length c) rfl rfl (fun W hW=>Kab rfl rfl) ?_
          simp only [Act.put,sA,sZ,sS]
          refine tk 9 19 (v:=.int .i64 (j : Int)) rfl rfl (fun W hW=>Kab rfl rfl) ?_
          simp only [Act.put,sA,sZ,sS]
          refine tk 10 20 (v:=.pointer (some ⟨bk,ok + j * 7,none⟩)) rfl rfl (fun W hW=>Kaj rfl rfl rfl (hi1 W)) ?_
          simp only [Act.put,sA,sZ,sS]
          refine tk 11 21 (v:=.pointer (some ⟨bk,ok + j * 7 + 1,none⟩)) rfl rfl (fun W hW=>Kac rfl rfl (fa_pr1 _ _ W)) ?_
          simp only [Act.put,sA,sZ,sS]
          refine tk 12 22 (v:=.agg y1) rfl rfl (fun W hW=>Kad rfl rfl (StT.load (P:=Tryz.prog) (W:=W) Kdo hy1 fun i u hu=>Kag hW (ltOf (r1 i u hu)) (r1 i u hu))) ?_
          simp only [Act.put,sA,sZ,sS]
          refine Kao 13 23 rfl rfl (by kernel_rfl) rfl (Kan [.agg y1] rfl rfl Tryz.func94 (by kernel_rfl) (by kernel_rfl)) ?_
          refine (hst _ hS5).mono ?_
          rintro e W13 ⟨rfl,hb13⟩
          have hS13:=Kaa hS5 hb13
          refine ⟨_,rfl,.inr hS13,?_⟩
          simp only [Act.put,sA,sZ,sS]
          refine tk 14 24 (v:=.bool false) rfl rfl (fun W hW=>Kar (b:=true) rfl rfl) ?_
          simp only [Act.put,sA,sZ,sS]
          refine tk 15 25 (v:=.bool false) rfl rfl (fun W hW=>rfl) ?_
          simp only [Act.put,sA,sZ,sS]
          refine tk 16 26 (v:=.bool false) rfl rfl (fun W hW=>Kab rfl rfl) ?_
          simp only [Act.put,sA,sZ,sS]
          refine tk 17 27 (v:=.int .i64 (j : Int)) rfl rfl (fun W hW=>Kab rfl rfl) ?_
          simp only [Act.put,sA,sZ,sS]
          refine tk 18 28 (v:=.bool true) rfl rfl (fun W hW=>Kal rfl rfl rfl (hgt W)) ?_
          simp only [Act.put,sA,sZ,sS]
          refine tk 19 29 (v:=.bool true) rfl rfl (fun W hW=>Kab rfl rfl) ?_
          simp only [Act.put,sA,sZ,sS]
          refine tk 20 30 (v:=.slice (some ⟨bk,ok,none⟩) l.length c) rfl rfl (fun W hW=>Kab rfl rfl) ?_
          simp only [Act.put,sA,sZ,sS]
          refine tk 21 31 (v:=.int .i64 (j : Int)) rfl rfl (fun W hW=>Kab rfl rfl) ?_
          simp only [Act.put,sA,sZ,sS]
          refine tk 22 32 (v:=.int .i64 ((j - 1 : Nat) : Int)) rfl rfl (fun W hW=>Kal rfl rfl rfl (hsub W)) ?_
          simp only [Act.put,sA,sZ,sS]
          refine tk 23 33 (v:=.pointer (some ⟨bk,ok + (j - 1) * 7,none⟩)) rfl rfl (fun W hW=>Kaj rfl rfl rfl (hi0 W)) ?_
          simp only [Act.put,sA,sZ,sS]
          refine tk 24 34 (v:=.pointer (some ⟨bk,ok + (j - 1) * 7,none⟩)) rfl rfl (fun W hW=>Kac rfl rfl (Kdw _ _ W)) ?_
          simp only [Act.put,sA,sZ,sS]
          refine tk 25 35 (v:=.string (strB s0)) rfl rfl (fun W hW=>Kad rfl rfl (Kae (w:=W) Tryz.underlying9 rfl (Kag hW (ltOf q0) q0))) ?_
          simp only [Act.put,sA,sZ,sS]
          refine tk 26 36 (v:=.slice (some ⟨bk,ok,none⟩) l.length c) rfl rfl (fun W hW=>Kab rfl rfl) ?_
          simp only [Act.put,sA,sZ,sS]
          refine tk 27 37 (v:=.int .i64 (j : Int)) rfl rfl (fun W hW=>Kab rfl rfl) ?_
          simp only [Act.put,sA,sZ,sS]
          refine tk 28 38 (v:=.pointer (some ⟨bk,ok + j * 7,none⟩)) rfl rfl (fun W hW=>Kaj rfl rfl rfl (hi1 W)) ?_
          simp only [Act.put,sA,sZ,sS]
          refine tk 29 39 (v:=.pointer (some ⟨bk,ok + j * 7,none⟩)) rfl rfl (fun W hW=>Kac rfl rfl (Kdw _ _ W)) ?_
          simp only [Act.put,sA,sZ,sS]
          refine tk 30 40 (v:=.string (strB s1)) rfl rfl (fun W hW=>Kad rfl rfl (Kae (w:=W) Tryz.underlying9 rfl (Kag hW (ltOf q1) q1))) ?_
          simp only [Act.put,sA,sZ,sS]
          refine Kao 31 41 rfl rfl (by kernel_rfl) rfl (Kan [.string (strB s0),.string (strB s1)] rfl rfl Tryz.func93 (by kernel_rfl) (by kernel_rfl)) ?_
          refine (texts_any s0 s1 hl0 hl1 _).mono ?_
          rintro e W31 ⟨rfl,hb31⟩
          have hS31:=Kaa hS13 hb31
          refine ⟨_,rfl,.inr hS31,?_⟩
          simp only [Act.put,sA,sZ,sS]
          refine tk 32 42 (v:=.bool (!(ltB s0 s1))) rfl rfl (fun W hW=>Kal rfl rfl rfl (hge W)) ?_
          simp only [Act.put,sA,sZ,sS]
          refine tk 33 43 (v:=.bool (!(ltB s0 s1))) rfl rfl (fun W hW=>rfl) ?_
          simp only [Act.put,sA,sZ,sS]
          refine tk 34 44 (v:=.bool (!(ltB s0 s1))) rfl rfl (fun W hW=>rfl) ?_
          simp only [Act.put,sA,sZ,sS]
          refine done (by kernel_rfl) ?_ _
          have HB:=yh (Kaa HB1.out hS31)
          clear hi1 q1 hnm hB0 hgt hi0 q0 hl0 hl1 hsub hge hst hy1 r1 hS hS5 hS13 hS31 hb13 hb31 HX
          simp only [hlb,Bool.not_true]
          go_wp2
          go_roundw
          case rel=>exact ⟨j + 1,hlt1,by go_num,yh ⟨HA.out,HN.out,HB.out⟩⟩
          case measure=>simp [intOf];omega
        | false =>
          have HN:=yh (HNR.out.1 hlb)
          go_wp2
          obtain ⟨hi1,q1,hnm,hB0,hgt,hi0,q0,hl0,hl1,hsub,hge,hst,hy1,r1⟩:=HX.out
          refine Kaf (fun W=>Below wr.heap.size wr W) (by kernel_rfl) hB0 (fun hS=>?_)
          refine tk 0 10 (v:=.slice (some ⟨bk,ok,none⟩) l.length c) rfl rfl (fun W hW=>Kab rfl rfl) ?_
          simp only [Act.put,sA,sZ,sS]
          refine tk 1 11 (v:=.int .i64 (j : Int)) rfl rfl (fun W hW=>Kab rfl rfl) ?_
          simp only [Act.put,sA,sZ,sS]
          refine tk 2 12 (v:=.pointer (some ⟨bk,ok + j * 7,none⟩)) rfl rfl (fun W hW=>Kaj rfl rfl rfl (hi1 W)) ?_
          simp only [Act.put,sA,sZ,sS]
          refine tk 3 13 (v:=.pointer (some ⟨bk,ok + j * 7,none⟩)) rfl rfl (fun W hW=>Kac rfl rfl (Kdw _ _ W)) ?_
          simp only [Act.put,sA,sZ,sS]
          refine tk 4 14 (v:=.string (strB s1)) rfl rfl (fun W hW=>Kad rfl rfl (Kae (w:=W) Tryz.underlying9 rfl (Kag hW (ltOf q1) q1))) ?_
          simp only [Act.put,sA,sZ,sS]
          refine Kao 5 15 rfl rfl (by kernel_rfl) rfl (Kan [.string (strB s1)] rfl rfl Tryz.func35 (by kernel_rfl) (by kernel_rfl)) ?_
          refine (hnm _).mono ?_
          rintro e W5 ⟨rfl,rfl⟩
          have hS5:=hS
          refine ⟨_,rfl,.inr hS5,?_⟩
          simp only [Act.put,sA,sZ,sS]
          refine tk 6 16 (v:=.bool false) rfl rfl (fun W hW=>Kar (b:=true) rfl rfl) ?_
          simp only [Act.put,sA,sZ,sS]
          refine tk 7 17 (v:=.bool false) rfl rfl (fun W hW=>Kab rfl rfl) ?_
          simp only [Act.put,sA,sZ,sS]
          refine tk 8 18 (v:=.slice (some ⟨bk,ok,none⟩) l.length c) rfl rfl (fun W hW=>Kab rfl rfl) ?_
          simp only [Act.put,sA,sZ,sS]
          refine tk 9 19 (v:=.int .i64 (j : Int)) rfl rfl (fun W hW=>Kab rfl rfl) ?_
          simp only [Act.put,sA,sZ,sS]
          refine tk 10 20 (v:=.pointer (some ⟨bk,ok + j * 7,none⟩)) rfl rfl (fun W hW=>Kaj rfl rfl rfl (hi1 W)) ?_
          simp only [Act.put,sA,sZ,sS]
          refine tk 11 21 (v:=.pointer (some ⟨bk,ok + j * 7 + 1,none⟩)) rfl rfl (fun W hW=>Kac rfl rfl (fa_pr1 _ _ W)) ?_
          simp only [Act.put,sA,sZ,sS]
          refine tk 12 22 (v:=.agg y1) rfl rfl (fun W hW=>Kad rfl rfl (StT.load (P:=Tryz.prog) (W:=W) Kdo hy1 fun i u hu=>Kag hW (ltOf (r1 i u hu)) (r1 i u hu))) ?_
          simp only [Act.put,sA,sZ,sS]
          refine Kao 13 23 rfl rfl (by kernel_rfl) rfl (Kan [.agg y1] rfl rfl Tryz.func94 (by kernel_rfl) (by kernel_rfl)) ?_
          refine (hst _ hS5).mono ?_
          rintro e W13 ⟨rfl,hb13⟩
          have hS13:=Kaa hS5 hb13
          refine ⟨_,rfl,.inr hS13,?_⟩
          simp only [Act.put,sA,sZ,sS]
          refine tk 14 24 (v:=.bool false) rfl rfl (fun W hW=>Kar (b:=true) rfl rfl) ?_
          simp only [Act.put,sA,sZ,sS]
          refine tk 15 25 (v:=.bool false) rfl rfl (fun W hW=>rfl) ?_
          simp only [Act.put,sA,sZ,sS]
          refine tk 16 26 (v:=.bool false) rfl rfl (fun W hW=>Kab rfl rfl) ?_
          simp only [Act.put,sA,sZ,sS]
          refine tk 17 27 (v:=.int .i64 (j : Int)) rfl rfl (fun W hW=>Kab rfl rfl) ?_
          simp only [Act.put,sA,sZ,sS]
          refine tk 18 28 (v:=.bool true) rfl rfl (fun W hW=>Kal rfl rfl rfl (hgt W)) ?_
          simp only [Act.put,sA,sZ,sS]
          refine tk 19 29 (v:=.bool true) rfl rfl (fun W hW=>Kab rfl rfl) ?_
          simp only [Act.put,sA,sZ,sS]
          refine tk 20 30 (v:=.slice (some ⟨bk,ok,none⟩) l.length c) rfl rfl (fun W hW=>Kab rfl rfl) ?_
          simp only [Act.put,sA,sZ,sS]
          refine tk 21 31 (v:=.int .i64 (j : Int)) rfl rfl (fun W hW=>Kab rfl rfl) ?_
          simp only [Act.put,sA,sZ,sS]
          refine tk 22 32 (v:=.int .i64 ((j - 1 : Nat) : Int)) rfl rfl (fun W hW=>Kal rfl rfl rfl (hsub W)) ?_
          simp only [Act.put,sA,sZ,sS]
          refine tk 23 33 (v:=.pointer (some ⟨bk,ok + (j - 1) * 7,none⟩)) rfl rfl (fun W hW=>Kaj rfl rfl rfl (hi0 W)) ?_
          simp only [Act.put,sA,sZ,sS]
          refine tk 24 34 (v:=.pointer (some ⟨bk,ok + (j - 1) * 7,none⟩)) rfl rfl (fun W hW=>Kac rfl rfl (Kdw _ _ W)) ?_
          simp only [Act.put,sA,sZ,sS]
          refine tk 25 35 (v:=.string (strB s0)) rfl rfl (fun W hW=>Kad rfl rfl (Kae (w:=W) Tryz.underlying9 rfl (Kag hW (ltOf q0) q0))) ?_
          simp only [Act.put,sA,sZ,sS]
          refine tk 26 36 (v:=.slice (some ⟨bk,ok,none⟩) l.length c) rfl rfl (fun W hW=>Kab rfl rfl) ?_
          simp only [Act.put,sA,sZ,sS]
          refine tk 27 37 (v:=.int .i64 (j : Int)) rfl rfl (fun W hW=>Kab rfl rfl) ?_
          simp only [Act.put,sA,sZ,sS]
          refine tk 28 38 (v:=.pointer (some ⟨bk,ok + j * 7,none⟩)) rfl rfl (fun W hW=>Kaj rfl rfl rfl (hi1 W)) ?_
          simp only [Act.put,sA,sZ,sS]
          refine tk 29 39 (v:=.pointer (some ⟨bk,ok + j * 7,none⟩)) rfl rfl (fun W hW=>Kac rfl rfl (Kdw _ _ W)) ?_
          simp only [Act.put,sA,sZ,sS]
          refine tk 30 40 (v:=.string (strB s1)) rfl rfl (fun W hW=>Kad rfl rfl (Kae (w:=W) Tryz.underlying9 rfl (Kag hW (ltOf q1) q1))) ?_
          simp only [Act.put,sA,sZ,sS]
          refine Kao 31 41 rfl rfl (by kernel_rfl) rfl (Kan [.string (strB s0),.string (strB s1)] rfl rfl Tryz.func93 (by kernel_rfl) (by kernel_rfl)) ?_
          refine (texts_any s0 s1 hl0 hl1 _).mono ?_
          rintro e W31 ⟨rfl,hb31⟩
          have hS31:=Kaa hS13 hb31
          refine ⟨_,rfl,.inr hS31,?_⟩
          simp only [Act.put,sA,sZ,sS]
          refine tk 32 42 (v:=.bool (!(ltB s0 s1))) rfl rfl (fun W hW=>Kal rfl rfl rfl (hge W)) ?_
          simp only [Act.put,sA,sZ,sS]
          refine tk 33 43 (v:=.bool (!(ltB s0 s1))) rfl rfl (fun W hW=>rfl) ?_
          simp only [Act.put,sA,sZ,sS]
          refine tk 34 44 (v:=.bool (!(ltB s0 s1))) rfl rfl (fun W hW=>rfl) ?_
          simp only [Act.put,sA,sZ,sS]
          refine done (by kernel_rfl) ?_ _
          have HB:=yh (Kaa HB1.out hS31)
          clear hi1 q1 hnm hB0 hgt hi0 q0 hl0 hl1 hsub hge hst hy1 r1 hS hS5 hS13 hS31 hb13 hb31 HX
          simp only [hlb,Bool.not_false]
          go_wp2
          go_ret
          exact ⟨Kam (by rw [okPs_eq,HN.out,Bool.and_false]),HB.out⟩
  ·obtain rfl : j = l.length:=by omega
   have h1:=HI.out.1
   have h2:=HI.out.2.1
   rw [List.take_length] at h1
   rw [List.take_of_length_le (by simp)] at h2
   have HF:=yh (And.intro (show okPs l = true by rw [okPs_eq,h1,h2];rfl) HI.out.2.2)
   clear HI h1 h2
   go_wp2
   go_ret
   exact ⟨Kam HF.out.1.symm,HF.out.2⟩
def findAt (l : List Int) (x : Int) : Int:=match l.findIdx? (· == x) with
 | some i=>(i : Int)
 | none=>-1
theorem findAt_hit {l : List Int} {x : Int} {j : Nat} (hj : j < l.length) (h1 : x ∉ l.take j) (h2 : l[j] = x) : findAt l x = (j : Int):=by
 unfold findAt
 have : l.findIdx? (· == x) = some j:=by
  rw [List.findIdx?_eq_some_iff_getElem]
  refine ⟨hj,by simp [h2],fun i hi=>?_⟩
  have : l[i] ≠ x:=fun e=>h1 (by rw [List.mem_take_iff_getElem];exact ⟨i,by omega,e⟩)
  simp [this]
 rw [this]
theorem findAt_none {l : List Int} {x : Int} (h : x ∉ l) : findAt l x = -1:=by
 unfold findAt
 have : l.findIdx? (· == x) = none:=by
  rw [List.findIdx?_eq_none_iff]
  intro y hy
  have : y ≠ x:=fun e=>h (by rw [← e];exact hy)
  simp [this]
 rw [this]
theorem findAt_neg (l : List Int) (x : Int) : decide (findAt l x < 0) = !(l.any (· == x)):=by
 by_cases h : x ∈ l
 ·have h1 : l.any (· == x) = true:=by rw [List.any_eq_true];exact ⟨x,h,by simp⟩
  rw [h1]
  unfold findAt
  cases e : l.findIdx? (· == x) with
  | none =>
    rw [List.findIdx?_eq_none_iff] at e
    have:=e x h
    simp at this
  | some i=>simp
 ·have h1 : l.any (· == x) = false:=by
   rw [List.any_eq_false]
   intro y hy e
   have e : y = x:=by simpa using e
   exact h (by rw [← e];exact hy)
  rw [h1,findAt_none h]
  rfl
theorem take_no {l : List Int} {x : Int} {j : Nat} (hj : j < l.length) (h1 : x ∉ l.take j) (h2 : l[j] ≠ x) : x ∉ l.take (j + 1):=by
 rw [List.take_succ_eq_append_getElem hj,List.mem_append,List.mem_singleton]
 rintro (h | h)
 ·exact h1 h
 ·exact h2 h.symm
theorem reffind_any {w : World} {g : GraphD} {x : Array Value} (h : GrRd w g x) (i : Int) : Calls Tryz.prog 36 #[.agg x,.int .i64 i] w fun e w'=>e = .returned (.int .i64 (findAt (g.nodes.map NodeD.id) i)) ∧ Below w.heap.size w w':=by
 obtain ⟨pn,cn,pr,cr,rfl,hn,hr⟩:=h
 have hb1:=Kai (w:=w) (.cells #[.slice pn g.nodes.length cn,.slice pr g.rels.length cr,.int .i64 g.nextNode,.int .i64 g.nextRel] 25)
 have hx1:=heap_alloc_new w (.cells #[.slice pn g.nodes.length cn,.slice pr g.rels.length cr,.int .i64 g.nextNode,.int .i64 g.nextRel] 25)
 have p0 : (w.alloc (.cells #[.slice pn g.nodes.length cn,.slice pr g.rels.length cr,.int .i64 g.nextNode,.int .i64 g.nextRel] 25)).cell? ⟨w.heap.size,0,none⟩ = some (.slice pn g.nodes.length cn):=Kah (o:=0) hx1 rfl
 have hl:=hn.below (fun h=>h.below hb1) hb1
 have z1 : (g.nodes.length : Int) ≤ 140737488355328:=by have:=hl.1.2.1;omega
 have H:=yh (And.intro hl hb1)
 clear hn hr hb1 hx1 hl
 go_enter Tryz.func36,Tryz.ntmps36
 go_wp2
 generalize w.alloc (.cells #[.slice pn g.nodes.length cn,.slice pr g.rels.length cr,.int .i64 g.nextNode,.int .i64 g.nextRel] 25) = w1 at *
 go_loopw [5] (fun k W=>∃ j : Nat,j ≤ g.nodes.length ∧ k = .int .i64 (j : Int) ∧ Hid (i ∉ (g.nodes.map NodeD.id).take j) ∧ W = w1) (fun k _=>g.nodes.length - (intOf k).toNat)
 case atStart=>exact ⟨0,Nat.zero_le _,rfl,yh (by simp),rfl⟩
 case round =>
  obtain ⟨j,hj,rfl,HI,rfl⟩:=hrel
  by_cases hlt : j < g.nodes.length
  ·have hlt1 : j + 1 ≤ g.nodes.length:=hlt
   obtain ⟨bk,ok,cs,hp,hcs,hcc,hv⟩:=H.out.1.get hlt
   have q1 : wr.cell? ⟨bk,ok + j * 3,none⟩ = some (.int .i64 g.nodes[j].id):=hcc 0 _ (by obtain ⟨_,_,_,_,e,_⟩:=hv;rw [e];rfl)
   have hm : (g.nodes.map NodeD.id)[j]'(by simpa using hlt) = g.nodes[j].id:=List.getElem_map ..
   have hhit:=findAt_hit (l:=g.nodes.map NodeD.id) (x:=i) (j:=j) (by simpa using hlt) HI.out
   have hmiss:=take_no (l:=g.nodes.map NodeD.id) (x:=i) (j:=j) (by simpa using hlt) HI.out
   rw [hm] at hhit hmiss
   have HM:=yh (And.intro hhit hmiss)
   clear hm hhit hmiss hv hcc hcs
   generalize g.nodes[j].id = id at *
   subst hp
   by_cases he : id = i
   ·have HF:=yh (HM.out.1 he)
    subst he
    clear HM
    go_wp2
    go_ret
    exact ⟨Kc0 HF.out.symm,H.out.2⟩
   ·have HN:=yh (HM.out.2 he)
    have heq : (id == i) = false:=by rw [beq_eq_false_iff_ne];exact he
    clear HM
    go_wp2
    go_roundw
    case rel=>exact ⟨j + 1,hlt1,by go_num,HN,trivial⟩
    case measure=>simp [intOf];omega
  ·obtain rfl : j = g.nodes.length:=by omega
   have hq:=HI.out
   rw [List.take_of_length_le (by simp)] at hq
   have HF:=yh (findAt_none hq)
   clear hq
   go_wp2
   go_ret
   exact ⟨Kc0 HF.out.symm,H.out.2⟩
end Go.Proofs.YtihfnegakcghiaaGreatDoor
