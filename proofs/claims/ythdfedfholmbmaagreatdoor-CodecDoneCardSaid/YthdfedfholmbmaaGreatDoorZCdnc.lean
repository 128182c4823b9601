/- Texts that the proof shares (each declaration is a lemma of this layer). -/
import Derived.Test.YthdfedfholmbmaaGreatDoorZCdna
import Derived.Test.YthdfedfholmbmaaGreatDoorZCdnb
import Derived.Lib.Replace
import Derived.Lib.SplitLaws
import Derived.Laws.BitsAllLaws
import Derived.Lib.AppendStr
import Derived.Lib.IndexLaws
set_option linter.unusedSimpArgs false
set_option linter.unusedVariables false
set_option maxRecDepth 100000
set_option maxHeartbeats 64000000
namespace Go.Proofs.YthdfedfholmbmaaGreatDoor
open Go.RowKit
theorem rrowsP_any {α : Type} {E : World → (Nat → Prop) → α → Array Value → Prop} (hE : EL E 7) (d : Dec α) {w W : World} {q : Nat} {l : List UInt8} {kv0 : Value} (hl : l.length ≤ 1000000)
 (h : RSt 141 w W q l) (J : List α → World → Value → Prop) (Jx : World → Prop) (hJ : KeepJ w W q J) (hx : ∀ m W' kv,J m W' kv → Jx W') (h0 : J [] W kv0)
 (one : ∀ m W1 kv l',J m W1 kv → W.heap.size ≤ W1.heap.size → RSt 141 w W1 q l' → l'.length ≤ 1000000 → m.length ≤ 1000000 → Calls Tryz.prog 109 #[.pointer (some ⟨q,0,none⟩)] W1 fun e W2=>match d l' with
   | some (x,s)=>∃ cs kv',e = .returned (.agg cs) ∧ ROne 141 E w W q J m W1 kv x s cs kv' W2 ∧ s.length ≤ l'.length
   | none=>e = given ∧ Jx W2 ∧ Below w.heap.size w W2) :
 Calls Tryz.prog 108 #[.pointer (some ⟨q,0,none⟩),.func (.func 109) #[.pointer (some ⟨q,0,none⟩)] #[]] W (RPost 141 E 136 7 w W q J Jx l.length (Ka2 d l)):=by
 have hqW:=h.lt
 have HN:=yh (Ka0 h)
 have HO:=yh one
 have HJ:=yh hJ
 have HX:=yh hx
 have H0:=yh h0
 clear one hJ hx h0 h
 cases hr : rdN 0 0 l with
 | none =>
   rw [hr] at HN
   clear HO
   go_enter Tryz.func108,Tryz.ntmps108
   go_wp2_with (go_at_call 55;refine HN.out.mono ?_;rintro e W1 h1;obtain ⟨t1,hb1,rfl⟩:=h1.none;have H1:=yh (And.intro t1 hb1);clear h1 t1 hb1)
   exact ⟨rfl,RPost.of_none (Kc6 hr) ⟨HX.out _ _ _ (HJ.out.keep H0.out H1.out.1.size H1.out.2 (fun b hb hq _=>H1.out.1.keep b hb hq)),H1.out.2⟩⟩
 | some p =>
   obtain ⟨n,r⟩:=p
   rw [hr] at HN
   have hn:=Keh hr
   have hrl : r.length ≤ l.length:=by
    obtain ⟨h1,_⟩:=Kcu.sound _ _ _ hr
    rw [h1,List.length_append];omega
   have z1 : (n : Int) < 18446744073709551616:=by omega
   have z2 : (r.length : Int) ≤ 1000000:=by omega
   by_cases hnr : n ≤ r.length
   ·have HRO:=yh (Ked (d:=d) hr hnr)
    have g1 : (n : Int) ≤ (r.length : Int):=by omega
    go_enter Tryz.func108,Tryz.ntmps108
    go_wp2_with (first
     | (go_at_call 55;refine HN.out.mono ?_;rintro e W1 h1
        (
         obtain ⟨t1,hb1,v1,rfl,rfl,s1⟩:=h1.some
         obtain ⟨p1,c1,hbx,_⟩:=s1.box
         have hcq:=Kab (o:=0) hbx rfl
         have H1:=yh (And.intro t1 (And.intro hb1 s1))
         clear h1 s1 t1 hb1 hbx))
     | (go_at_call 105;refine (Kax _).mono ?_;rintro e W2 ⟨rfl,rfl⟩))
    go_loopw [6,21] (fun ov i wr=>∃ (m : List α) (a : Option Addr) (n1 c1 : Nat),m.length ≤ n ∧ i = .int .u64 (m.length : Int) ∧ ov = .slice a n1 c1 ∧ Hid (∃ kv l',RInv 141 E 136 7 w W q J m wr kv (.slice a n1 c1) l' ∧ RepAt d n r m l' ∧ l'.length ≤ r.length)) (fun _ i _=>n - (intOf i).toNat)
    case atStart=>exact ⟨[],none,0,0,Nat.zero_le _,rfl,rfl,yh ⟨kv0,r,⟨H1.out.2.2,HJ.out.keep H0.out H1.out.1.size H1.out.2.1 (fun b hb hq _=>H1.out.1.keep b hb hq),GIn.start,H1.out.1.size,hqW⟩,RepAt.start _ _ _,Nat.le_refl _⟩⟩
    case round =>
     obtain ⟨m,a,n1,c1,hm,rfl,rfl,HI⟩:=hrel
     obtain ⟨kv,l',hinv,hrep,hll⟩:=HI.out
     clear HI H1 HN H0 hcq
     by_cases hlt : m.length < n
     ·have g2 : (m.length : Int) < (n : Int):=by omega
      have hone:=HO.out m wr kv l' hinv.j hinv.size hinv.st (by omega) (by omega)
      cases hd : d l' with
      | none =>
        rw [hd] at hone
        have hfail:=hrep.fail hlt hd
        have HC:=yh hone
        have HFL:=yh (HRO.out.trans hfail)
        clear hone hinv hrep hfail
        go_wp2_with (go_at_call 109;refine HC.out.mono ?_;rintro e W2 ⟨rfl,hg,hbw⟩;have HG:=yh (And.intro hg hbw);clear hg hbw HC)
        exact ⟨rfl,RPost.of_none HFL.out HG.out⟩
      | some p =>
        obtain ⟨x,s⟩:=p
        rw [hd] at hone
        have hstep:=hrep.step hlt hd
        have HC:=yh hone
        have HV:=yh (And.intro hinv hstep)
        have hlt1 : m.length + 1 ≤ n:=hlt
        have hm1 : m.length ≤ 1000000:=by omega
        clear hone hinv hrep hstep
        go_wp2_with (first
         | (go_at_call 109;refine HC.out.mono ?_;rintro e W2 ⟨cs,kv2,rfl,hone,hsl⟩
            (
             have hs:=hE.size hone.it
             have hones:=hE.ones hone.it
             have hbs:=Kap (P:=Tryz.prog) (w:=W2.alloc (.cells cs 136)) (v:=.agg cs) Tryz.underlying68 Tryz.sizeOf136 Tryz.zeroValue136 hs (by omega) (by omega)
             obtain ⟨v4,W4,ha,hinv4⟩:=HV.out.1.step hE gt_prop HJ.out hone hm1 68 (Kac (w:=W2) (.cells cs 136))
             obtain ⟨a4,n4,c4,rfl⟩ : ∃ a4 n4 c4,v4 = .slice a4 n4 c4:=by obtain ⟨p,c,e⟩:=hinv4.row.slice;exact ⟨_,_,_,e⟩
             have HS:=yh (StT.fresh Kco hs hones (W:=W2))
             have HL:=yh (StT.get Kco hs (heap_alloc_new W2 (.cells cs 136)))
             have HB:=yh hbs
             have HA:=yh ha
             have HR:=yh (And.intro hinv4 (show s.length ≤ r.length by omega))
             clear hs hones hbs ha hinv4
             clear hone HC))
         | ((with_reducible apply Kae);exact HS.out _ rfl;exact rfl;exact rfl;clear HS)
         | ((with_reducible apply Kal);exact HL.out;exact rfl;clear HL)
         | ((with_reducible apply op_bs1);exact HB.out;exact rfl;clear HB)
         | ((with_reducible apply Kcv);exact HA.out;exact rfl;exact rfl))
        go_roundw
        case rel=>exact ⟨m ++ [x],a4,n4,c4,by rw [List.length_append];exact hlt1,by rw [List.length_append];go_num,rfl,yh ⟨kv2,s,HR.out.1,HV.out.2,HR.out.2⟩⟩
        case measure=>simp [intOf];omega
     ·have hme : m.length = n:=by omega
      have g2 : ¬ ((m.length : Int) < (n : Int)):=by omega
      have hdone:=hrep.done hme
      have HD:=yh (HRO.out.trans hdone)
      have HF:=yh (And.intro hinv (show l'.length ≤ l.length by omega))
      clear hinv hrep hdone
      go_wp2
      go_ret
      exact RPost.of_some HD.out HF.out.1 HF.out.2
   ·have HRO:=yh (Kct (d:=d) hr hnr)
    have g1 : ¬ ((n : Int) ≤ (r.length : Int)):=by omega
    clear HO
    go_enter Tryz.func108,Tryz.ntmps108
    go_wp2_with (first
     | (go_at_call 55;refine HN.out.mono ?_;rintro e W1 h1
        (
         obtain ⟨t1,hb1,v1,rfl,rfl,s1⟩:=h1.some
         obtain ⟨p1,c1,hbx,_⟩:=s1.box
         have hcq:=Kab (o:=0) hbx rfl
         have H1:=yh (And.intro t1 hb1)
         clear h1 s1 t1 hb1 hbx))
     | (go_at_call 105;refine (Ka8 _).mono ?_;rintro e W2 ⟨rfl,rfl⟩))
    exact ⟨rfl,RPost.of_none HRO.out ⟨HX.out _ _ _ (HJ.out.keep H0.out H1.out.1.size H1.out.2 (fun b hb hq _=>H1.out.1.keep b hb hq)),H1.out.2⟩⟩
theorem rrowsP_reads {α : Type} {E : World → (Nat → Prop) → α → Array Value → Prop} (hE : EL E 7) (d : Dec α) {w W : World} {q : Nat} {l : List UInt8} (hl : l.length ≤ 1000000)
 (h : RSt 141 w W q l)
 (one : ∀ W1 l',RSt 141 w W1 q l' → l'.length ≤ 1000000 → Calls Tryz.prog 109 #[.pointer (some ⟨q,0,none⟩)] W1 (Reads w W1 q (d l') fun x v W2=>∃ cs,v = .agg cs ∧ E W2 (fun b=>W1.heap.size ≤ b) x cs))
 (hsh : ∀ l' x s,d l' = some (x,s) → s.length ≤ l'.length) :
 Calls Tryz.prog 108 #[.pointer (some ⟨q,0,none⟩),.func (.func 109) #[.pointer (some ⟨q,0,none⟩)] #[]] W (Reads w W q (Ka2 d l) fun xs v W'=>GOwn E 136 7 W' (fun b=>W.heap.size ≤ b) v xs):=by
 have hq:=h.lt
 refine (rrowsP_any hE d (kv0:=.slice none 0 0) hl h (fun _ W' kv=>RTo q W W' ∧ kv = .slice none 0 0) (fun W'=>RTo q W W') ⟨?_,?_⟩ (fun m W' kv hj=>hj.1) ⟨RTo.refl _ _,rfl⟩ ?_).mono ?_
 ·rintro m W1 W2 kv ⟨h1,rfl⟩ h2 h3 h4
  exact ⟨⟨by have:=h1.size;omega,fun b hb hqb=>(h4 b (by have:=h1.size;omega) hqb (.inl hb)).trans (h1.keep b hb hqb)⟩,rfl⟩
 ·rintro m W1 kv ⟨h1,rfl⟩ b hb
  simp [Value.ownBlock] at hb
 ·rintro m W1 kv l' ⟨h1,rfl⟩ hsz h2 h3 _
  refine (one W1 l' h2 h3).mono ?_
  intro e W2 hr
  cases hd : d l' with
  | none =>
    rw [hd] at hr
    obtain ⟨t,hb,he⟩:=hr.none
    exact ⟨he,h1.trans t,hb⟩
  | some p =>
    obtain ⟨x,s⟩:=p
    rw [hd] at hr
    obtain ⟨t,hb,v,he,⟨cs,rfl,hit⟩,hst⟩:=hr.some
    exact ⟨cs,.slice none 0 0,he,⟨t.size,fun b hb hqb _ _=>t.keep b hb hqb,hE.imp (fun b _ hp=>⟨hp,by simp [Value.ownBlock]⟩) hit,hst,⟨h1.trans t,rfl⟩,.inl rfl⟩,hsh _ _ _ hd⟩
 ·intro e W' hr
  rcases hr.cases with ⟨h1,rfl,h2,h3⟩ | ⟨xs,s,v,kv,h1,rfl,hi,_⟩
  ·rw [h1]
   exact ⟨h2,h3,rfl⟩
  ·rw [h1]
   exact ⟨hi.j.1,hi.st.b,v,rfl,(hi.row.own hE).imp hE fun b _ hp=>hp.1,hi.st⟩
theorem rrowsN_any {α : Type} {E : World → (Nat → Prop) → α → Array Value → Prop} (hE : EL E 3) (d : Dec α) {w W : World} {q : Nat} {l : List UInt8} {kv0 : Value} (hl : l.length ≤ 1000000)
 (h : RSt 141 w W q l) (J : List α → World → Value → Prop) (Jx : World → Prop) (hJ : KeepJ w W q J) (hx : ∀ m W' kv,J m W' kv → Jx W') (h0 : J [] W kv0)
 (one : ∀ m W1 kv l',J m W1 kv → W.heap.size ≤ W1.heap.size → RSt 141 w W1 q l' → l'.length ≤ 1000000 → m.length ≤ 1000000 → Calls Tryz.prog 52 #[.pointer (some ⟨q,0,none⟩)] W1 fun e W2=>match d l' with
   | some (x,s)=>∃ cs kv',e = .returned (.agg cs) ∧ ROne 141 E w W q J m W1 kv x s cs kv' W2 ∧ s.length ≤ l'.length
   | none=>e = given ∧ Jx W2 ∧ Below w.heap.size w W2) :
 Calls Tryz.prog 51 #[.pointer (some ⟨q,0,none⟩),.func (.func 52) #[.pointer (some ⟨q,0,none⟩)] #[]] W (RPost 141 E 70 3 w W q J Jx l.length (Ka2 d l)):=by
 have hqW:=h.lt
 have HN:=yh (Ka0 h)
 have HO:=yh one
 have HJ:=yh hJ
 have HX:=yh hx
 have H0:=yh h0
 clear one hJ hx h0 h
 cases hr : rdN 0 0 l with
 | none =>
   rw [hr] at HN
   clear HO
   go_enter Tryz.func51,Tryz.ntmps51
   go_wp2_with (go_at_call 55;refine HN.out.mono ?_;rintro e W1 h1;obtain ⟨t1,hb1,rfl⟩:=h1.none;have H1:=yh (And.intro t1 hb1);clear h1 t1 hb1)
   exact ⟨rfl,RPost.of_none (Kc6 hr) ⟨HX.out _ _ _ (HJ.out.keep H0.out H1.out.1.size H1.out.2 (fun b hb hq _=>H1.out.1.keep b hb hq)),H1.out.2⟩⟩
 | some p =>
   obtain ⟨n,r⟩:=p
   rw [hr] at HN
   have hn:=Keh hr
   have hrl : r.length ≤ l.length:=by
    obtain ⟨h1,_⟩:=Kcu.sound _ _ _ hr
    rw [h1,List.length_append];omega
   have z1 : (n : Int) < 18446744073709551616:=by omega
   have z2 : (r.length : Int) ≤ 1000000:=by omega
   by_cases hnr : n ≤ r.length
   ·have HRO:=yh (Ked (d:=d) hr hnr)
    have g1 : (n : Int) ≤ (r.length : Int):=by omega
    go_enter Tryz.func51,Tryz.ntmps51
    go_wp2_with (first
     | (go_at_call 55;refine HN.out.mono ?_;rintro e W1 h1
        (
         obtain ⟨t1,hb1,v1,rfl,rfl,s1⟩:=h1.some
         obtain ⟨p1,c1,hbx,_⟩:=s1.box
         have hcq:=Kab (o:=0) hbx rfl
         have H1:=yh (And.intro t1 (And.intro hb1 s1))
         clear h1 s1 t1 hb1 hbx))
     | (go_at_call 105;refine (Kax _).mono ?_;rintro e W2 ⟨rfl,rfl⟩))
    go_loopw [6,21] (fun ov i wr=>∃ (m : List α) (a : Option Addr) (n1 c1 : Nat),m.length ≤ n ∧ i = .int .u64 (m.length : Int) ∧ ov = .slice a n1 c1 ∧ Hid (∃ kv l',RInv 141 E 70 3 w W q J m wr kv (.slice a n1 c1) l' ∧ RepAt d n r m l' ∧ l'.length ≤ r.length)) (fun _ i _=>n - (intOf i).toNat)
    case atStart=>exact ⟨[],none,0,0,Nat.zero_le _,rfl,rfl,yh ⟨kv0,r,⟨H1.out.2.2,HJ.out.keep H0.out H1.out.1.size H1.out.2.1 (fun b hb hq _=>H1.out.1.keep b hb hq),GIn.start,H1.out.1.size,hqW⟩,RepAt.start _ _ _,Nat.le_refl _⟩⟩
    case round =>
     obtain ⟨m,a,n1,c1,hm,rfl,rfl,HI⟩:=hrel
     obtain ⟨kv,l',hinv,hrep,hll⟩:=HI.out
     clear HI H1 HN H0 hcq
     by_cases hlt : m.length < n
     ·have g2 : (m.length : Int) < (n : Int):=by omega
      have hone:=HO.out m wr kv l' hinv.j hinv.size hinv.st (by omega) (by omega)
      cases hd : d l' with
      | none =>
        rw [hd] at hone
        have hfail:=hrep.fail hlt hd
        have HC:=yh hone
        have HFL:=yh (HRO.out.trans hfail)
        clear hone hinv hrep hfail
        go_wp2_with (go_at_call 52;refine HC.out.mono ?_;rintro e W2 ⟨rfl,hg,hbw⟩;have HG:=yh (And.intro hg hbw);clear hg hbw HC)
        exact ⟨rfl,RPost.of_none HFL.out HG.out⟩
      | some p =>
        obtain ⟨x,s⟩:=p
        rw [hd] at hone
        have hstep:=hrep.step hlt hd
        have HC:=yh hone
        have HV:=yh (And.intro hinv hstep)
        have hlt1 : m.length + 1 ≤ n:=hlt
        have hm1 : m.length ≤ 1000000:=by omega
        clear hone hinv hrep hstep
        go_wp2_with (first
         | (go_at_call 52;refine HC.out.mono ?_;rintro e W2 ⟨cs,kv2,rfl,hone,hsl⟩
            (
             have hs:=hE.size hone.it
             have hones:=hE.ones hone.it
             have hbs:=Kap (P:=Tryz.prog) (w:=W2.alloc (.cells cs 70)) (v:=.agg cs) Tryz.underlying22 Tryz.sizeOf70 Tryz.zeroValue70 hs (by omega) (by omega)
             obtain ⟨v4,W4,ha,hinv4⟩:=HV.out.1.step hE gt_node HJ.out hone hm1 22 (Kac (w:=W2) (.cells cs 70))
             obtain ⟨a4,n4,c4,rfl⟩ : ∃ a4 n4 c4,v4 = .slice a4 n4 c4:=by obtain ⟨p,c,e⟩:=hinv4.row.slice;exact ⟨_,_,_,e⟩
             have HS:=yh (StT.fresh Kbo hs hones (W:=W2))
             have HL:=yh (StT.get Kbo hs (heap_alloc_new W2 (.cells cs 70)))
             have HB:=yh hbs
             have HA:=yh ha
             have HR:=yh (And.intro hinv4 (show s.length ≤ r.length by omega))
             clear hs hones hbs ha hinv4
             clear hone HC))
         | ((with_reducible apply Kae);exact HS.out _ rfl;exact rfl;exact rfl;clear HS)
         | ((with_reducible apply Kal);exact HL.out;exact rfl;clear HL)
         | ((with_reducible apply op_bs1);exact HB.out;exact rfl;clear HB)
         | ((with_reducible apply Kcv);exact HA.out;exact rfl;exact rfl))
        go_roundw
        case rel=>exact ⟨m ++ [x],a4,n4,c4,by rw [List.length_append];exact hlt1,by rw [List.length_append];go_num,rfl,yh ⟨kv2,s,HR.out.1,HV.out.2,HR.out.2⟩⟩
        case measure=>simp [intOf];omega
     ·have hme : m.length = n:=by omega
      have g2 : ¬ ((m.length : Int) < (n : Int)):=by omega
      have hdone:=hrep.done hme
      have HD:=yh (HRO.out.trans hdone)
      have HF:=yh (And.intro hinv (show l'.length ≤ l.length by omega))
      clear hinv hrep hdone
      go_wp2
      go_ret
      exact RPost.of_some HD.out HF.out.1 HF.out.2
   ·have HRO:=yh (Kct (d:=d) hr hnr)
    have g1 : ¬ ((n : Int) ≤ (r.length : Int)):=by omega
    clear HO
    go_enter Tryz.func51,Tryz.ntmps51
    go_wp2_with (first
     | (go_at_call 55;refine HN.out.mono ?_;rintro e W1 h1
        (
         obtain ⟨t1,hb1,v1,rfl,rfl,s1⟩:=h1.some
         obtain ⟨p1,c1,hbx,_⟩:=s1.box
         have hcq:=Kab (o:=0) hbx rfl
         have H1:=yh (And.intro t1 hb1)
         clear h1 s1 t1 hb1 hbx))
     | (go_at_call 105;refine (Ka8 _).mono ?_;rintro e W2 ⟨rfl,rfl⟩))
    exact ⟨rfl,RPost.of_none HRO.out ⟨HX.out _ _ _ (HJ.out.keep H0.out H1.out.1.size H1.out.2 (fun b hb hq _=>H1.out.1.keep b hb hq)),H1.out.2⟩⟩
theorem rrowsN_reads {α : Type} {E : World → (Nat → Prop) → α → Array Value → Prop} (hE : EL E 3) (d : Dec α) {w W : World} {q : Nat} {l : List UInt8} (hl : l.length ≤ 1000000)
 (h : RSt 141 w W q l)
 (one : ∀ W1 l',RSt 141 w W1 q l' → l'.length ≤ 1000000 → Calls Tryz.prog 52 #[.pointer (some ⟨q,0,none⟩)] W1 (Reads w W1 q (d l') fun x v W2=>∃ cs,v = .agg cs ∧ E W2 (fun b=>W1.heap.size ≤ b) x cs))
 (hsh : ∀ l' x s,d l' = some (x,s) → s.length ≤ l'.length) :
 Calls Tryz.prog 51 #[.pointer (some ⟨q,0,none⟩),.func (.func 52) #[.pointer (some ⟨q,0,none⟩)] #[]] W (Reads w W q (Ka2 d l) fun xs v W'=>GOwn E 70 3 W' (fun b=>W.heap.size ≤ b) v xs):=by
 have hq:=h.lt
 refine (rrowsN_any hE d (kv0:=.slice none 0 0) hl h (fun _ W' kv=>RTo q W W' ∧ kv = .slice none 0 0) (fun W'=>RTo q W W') ⟨?_,?_⟩ (fun m W' kv hj=>hj.1) ⟨RTo.refl _ _,rfl⟩ ?_).mono ?_
 ·rintro m W1 W2 kv ⟨h1,rfl⟩ h2 h3 h4
  exact ⟨⟨by have:=h1.size;omega,fun b hb hqb=>(h4 b (by have:=h1.size;omega) hqb (.inl hb)).trans (h1.keep b hb hqb)⟩,rfl⟩
 ·rintro m W1 kv ⟨h1,rfl⟩ b hb
  simp [Value.ownBlock] at hb
 ·rintro m W1 kv l' ⟨h1,rfl⟩ hsz h2 h3 _
  refine (one W1 l' h2 h3).mono ?_
  intro e W2 hr
  cases hd : d l' with
  | none =>
    rw [hd] at hr
    obtain ⟨t,hb,he⟩:=hr.none
    exact ⟨he,h1.trans t,hb⟩
  | some p =>
    obtain ⟨x,s⟩:=p
    rw [hd] at hr
    obtain ⟨t,hb,v,he,⟨cs,rfl,hit⟩,hst⟩:=hr.some
    exact ⟨cs,.slice none 0 0,he,⟨t.size,fun b hb hqb _ _=>t.keep b hb hqb,hE.imp (fun b _ hp=>⟨hp,by simp [Value.ownBlock]⟩) hit,hst,⟨h1.trans t,rfl⟩,.inl rfl⟩,hsh _ _ _ hd⟩
 ·intro e W' hr
  rcases hr.cases with ⟨h1,rfl,h2,h3⟩ | ⟨xs,s,v,kv,h1,rfl,hi,_⟩
  ·rw [h1]
   exact ⟨h2,h3,rfl⟩
  ·rw [h1]
   exact ⟨hi.j.1,hi.st.b,v,rfl,(hi.row.own hE).imp hE fun b _ hp=>hp.1,hi.st⟩
theorem rdProp_eq (l : List UInt8) : Keo l = match Kba l with
 | none=>none
 | some (s,r)=>match rdVal 64 r with
   | none=>none
   | some (v,t)=>some (⟨s,v⟩,t):=by
 unfold Keo Dec.map Dec.seq
 cases Kba l with
 | none=>rfl
 | some p =>
   obtain ⟨s,r⟩:=p
   simp only
   cases rdVal 64 r with
   | none=>rfl
   | some x=>rfl
theorem rdText_le {l r s : List UInt8} (h : Kba l = some (s,r)) : r.length ≤ l.length:=by
 obtain ⟨e1,_⟩:=Ke8.sound _ _ _ h
 rw [e1,List.length_append];omega
def okProp (W : World) (p : PropD) (x : Value) (W' : World) : Prop:=∃ cs,x = .agg cs ∧ POwn W' (fun b=>W.heap.size ≤ b) p cs
def okNode (W : World) (p : NodeD) (x : Value) (W' : World) : Prop:=∃ cs,x = .agg cs ∧ NOwn W' (fun b=>W.heap.size ≤ b) p cs
def okRel (W : World) (p : RelD) (x : Value) (W' : World) : Prop:=∃ cs,x = .agg cs ∧ ROwn W' (fun b=>W.heap.size ≤ b) p cs
def Kem (W : World) (p : ChangeD) (x : Value) (W' : World) : Prop:=∃ cs,x = .agg cs ∧ COwn W' (fun b=>W.heap.size ≤ b) p cs
theorem rprop_any {w W : World} {q : Nat} {l : List UInt8} (h : RSt 141 w W q l) (hl : l.length ≤ 1000000) :
 Calls Tryz.prog 109 #[.pointer (some ⟨q,0,none⟩)] W (Reads w W q (Keo l) (okProp W)):=by
 have hq:=h.lt
 have hbase:=h.base
 have hb:=Kac (w:=W) (.cells #[.string ⟨#[]⟩,.int .i64 0,.bool false,.int .i64 0,.string ⟨#[]⟩,.slice none 0 0,.slice none 0 0] 136)
 have hbx : (W.alloc (.cells #[.string ⟨#[]⟩,.int .i64 0,.bool false,.int .i64 0,.string ⟨#[]⟩,.slice none 0 0,.slice none 0 0] 136)).heap[W.heap.size]? = some (.cells #[.string ⟨#[]⟩,.int .i64 0,.bool false,.int .i64 0,.string ⟨#[]⟩,.slice none 0 0,.slice none 0 0] 136 (0,0)):=heap_alloc_new W _
 have hlt : W.heap.size < (W.alloc (.cells #[.string ⟨#[]⟩,.int .i64 0,.bool false,.int .i64 0,.string ⟨#[]⟩,.slice none 0 0,.slice none 0 0] 136)).heap.size:=by simp
 have HT:=yh (Kez (h.below hb) hl)
 have HB:=yh (And.intro hb (And.intro hbx hlt))
 have hv:=rvalue_any w 64 (Nat.le_refl _)
 have HV:=yh hv
 clear hb hbx hlt h hv
 have he:=rdProp_eq l
 cases hr : Kba l with
 | none =>
   rw [hr] at HT he
   have HE:=yh he
   clear he
   go_enter Tryz.func109,Tryz.ntmps109
   go_wp2_with (go_at_call 107;refine HT.out.mono ?_;rintro e W5 h5;obtain ⟨t5,hb5,rfl⟩:=h5.none;have H5:=yh (And.intro t5 hb5);clear h5 t5 hb5)
   exact ⟨rfl,Reads.of HE.out ⟨(RTo.of_below HB.out.1).trans H5.out.1,H5.out.2,rfl⟩⟩
 | some p =>
   obtain ⟨s,r⟩:=p
   have hrl:=rdText_le hr
   rw [hr] at HT he
   simp only at he
   cases hr2 : rdVal 64 r with
   | none =>
     rw [hr2] at he
     have HE:=yh he
     clear he
     go_enter Tryz.func109,Tryz.ntmps109
     go_wp2_with (first
      | (go_at_call 107;refine HT.out.mono ?_;rintro e W5 h5
         (
          obtain ⟨t5,hb5,x5,rfl,rfl,s5⟩:=h5.some
          have HC:=yh (HV.out W5 q r s5 (by omega))
          rw [hr2] at HC
          have H5:=yh t5
          clear h5 t5 hb5 s5 HT))
      | (go_at_call 71;refine HC.out.mono ?_;rintro e W6 h6;obtain ⟨t6,hb6,rfl⟩:=h6.none;have H6:=yh (And.intro t6 hb6);clear h6 t6 hb6))
     exact ⟨rfl,Reads.of HE.out ⟨((RTo.of_below HB.out.1).trans H5.out).trans H6.out.1,H6.out.2,rfl⟩⟩
   | some p2 =>
     obtain ⟨v,t⟩:=p2
     rw [hr2] at he
     have HE:=yh he
     clear he
     go_enter Tryz.func109,Tryz.ntmps109
     go_wp2_with (first
      | (go_at_call 107;refine HT.out.mono ?_;rintro e W5 h5
         (
          obtain ⟨t5,hb5,x5,rfl,rfl,s5⟩:=h5.some
          have HC:=yh (HV.out W5 q r s5 (by omega))
          rw [hr2] at HC
          have H5:=yh t5
          clear h5 t5 hb5 s5 HT))
      | (go_at_call 71;refine HC.out.mono ?_;rintro e W6 h6
         (
          obtain ⟨t6,hb6,x6,rfl,⟨cs,rfl,hown⟩,s6⟩:=h6.some
          obtain ⟨vk,vl,hcs,hk,hlw⟩:=hown.open
          obtain ⟨pk,ck,rfl⟩:=Kbx hk
          obtain ⟨pl,cl,rfl⟩ : ∃ pl cl,vl = .slice pl v.list.length cl:=by obtain ⟨xs,hx,_⟩:=hlw;exact Kbx hx
          subst hcs
          have t56:=H5.out.trans t6
          have hbx6:=(t56.keep _ HB.out.2.2 (by omega)).trans HB.out.2.1
          have HST:=yh (StT.put Kco (cs:=#[.string (strB s),.int .i64 v.kind,.bool v.b,.int .i64 v.n,.string (strB v.text),.slice pk v.keys.length ck,.slice pl v.list.length cl]) rfl (by simp [Value.oneCell']) hbx6 rfl)
          have HLD:=yh (StT.get Kco (cs:=#[.string (strB s),.int .i64 v.kind,.bool v.b,.int .i64 v.n,.string (strB v.text),.slice pk v.keys.length ck,.slice pl v.list.length cl]) rfl (setRow_heap W6 W.heap.size _ _ _ _ hbx6))
          have ho : ∀ b,b ≠ W.heap.size → (W6.setRow W.heap.size #[.string (strB s),.int .i64 v.kind,.bool v.b,.int .i64 v.n,.string (strB v.text),.slice pk v.keys.length ck,.slice pl v.list.length cl]).heap[b]? = W6.heap[b]?:=fun b hb=>setRow_other W6 _ b _ hb
          have hsz : (W6.setRow W.heap.size #[.string (strB s),.int .i64 v.kind,.bool v.b,.int .i64 v.n,.string (strB v.text),.slice pk v.keys.length ck,.slice pl v.list.length cl]).heap.size = W6.heap.size:=by simp
          have hB6:=Kbz (B:=W.heap.size) hb6 (by omega) #[.string (strB s),.int .i64 v.kind,.bool v.b,.int .i64 v.n,.string (strB v.text),.slice pk v.keys.length ck,.slice pl v.list.length cl]
          have h56:=H5.out.size
          have hto : RTo q W (W6.setRow W.heap.size #[.string (strB s),.int .i64 v.kind,.bool v.b,.int .i64 v.n,.string (strB v.text),.slice pk v.keys.length ck,.slice pl v.list.length cl]) :=
           ⟨by rw [hsz];have:=t6.size;have:=HB.out.2.2;omega,fun b hb1 hq1=>(ho b (by omega)).trans ((t56.keep b (by have:=HB.out.2.2;omega) hq1).trans (HB.out.1.block b hb1))⟩
          have hpo : POwn (W6.setRow W.heap.size #[.string (strB s),.int .i64 v.kind,.bool v.b,.int .i64 v.n,.string (strB v.text),.slice pk v.keys.length ck,.slice pl v.list.length cl]) (fun b=>W.heap.size ≤ b) ⟨s,v⟩ #[.string (strB s),.int .i64 v.kind,.bool v.b,.int .i64 v.n,.string (strB v.text),.slice pk v.keys.length ck,.slice pl v.list.length cl] :=
           ⟨_,rfl,(hown.keep (w':=W6.setRow W.heap.size #[.string (strB s),.int .i64 v.kind,.bool v.b,.int .i64 v.n,.string (strB v.text),.slice pk v.keys.length ck,.slice pl v.list.length cl]) fun b hb1 _=>ho b (by have:=HB.out.2.2;omega)).imp fun b _ hb1=>by have:=HB.out.2.2;omega⟩
          have HF:=yh (And.intro hto (And.intro hB6 (And.intro hpo (s6.other hB6 (ho q (by omega))))))
          clear h6 t6 hb6 hown hk hlw s6 t56 hbx6 ho hsz hB6 hto hpo HC))
      | ((with_reducible apply Kae);exact HST.out;exact rfl;exact rfl))
     refine bodyPost_ret (Kan rfl _ _ ⟨W.heap.size,0,none⟩ _ rfl HLD.out) rfl ?_
     exact Reads.of HE.out ⟨HF.out.1,HF.out.2.1,_,rfl,⟨_,rfl,HF.out.2.2.1⟩,HF.out.2.2.2⟩
section
variable {α β : Type} {d : Dec α} {f : Dec β} {u : α → β} {b r s : List UInt8} {x : α} {y : β}
theorem map_n (h : d b = none) : Dec.map u d b = none:=by unfold Dec.map;rw [h];rfl
theorem map_s (h : d b = some (x,r)) : Dec.map u d b = some (u x,r):=by unfold Dec.map;rw [h];rfl
theorem seq_n1 (h : d b = none) : Dec.seq d f b = none:=by unfold Dec.seq;rw [h]
theorem Kda (h : d b = some (x,r)) (g : f r = none) : Dec.seq d f b = none:=by unfold Dec.seq;rw [h];simp only;rw [g]
theorem seq_s (h : d b = some (x,r)) (g : f r = some (y,s)) : Dec.seq d f b = some ((x,y),s):=by unfold Dec.seq;rw [h];simp only;rw [g]
end
theorem rdNode_eq (l : List UInt8) : Ke4 l = match rdN 0 0 l with
 | none=>none
 | some (n,r)=>match Ka2 Kba r with
   | none=>none
   | some (ls,t)=>match Ka2 Keo t with
     | none=>none
     | some (ps,s)=>some (⟨toI n,ls,ps⟩,s):=by
 unfold Ke4 rdProps
 cases hr : rdN 0 0 l with
 | none=>exact map_n (seq_n1 (map_n hr))
 | some p =>
   obtain ⟨n,r⟩:=p
   simp only
   cases h2 : Ka2 Kba r with
   | none=>exact map_n (Kda (map_s hr) (seq_n1 h2))
   | some p =>
     obtain ⟨ls,t⟩:=p
     simp only
     cases h3 : Ka2 Keo t with
     | none=>exact map_n (Kda (map_s hr) (Kda h2 h3))
     | some x =>
       obtain ⟨ps,s⟩:=x
       exact map_s (seq_s (map_s hr) (seq_s h2 h3))
theorem rdN_le {l s : List UInt8} {n : Nat} (h : rdN 0 0 l = some (n,s)) : s.length ≤ l.length:=by
 obtain ⟨e1,_⟩:=Kcu.sound _ _ _ h
 rw [e1,List.length_append];omega
theorem RT.le {α : Type} {d : Dec α} {e : α → List UInt8} {P : α → Prop} (h : RT d e P) {l s : List UInt8} {x : α} (hd : d l = some (x,s)) : s.length ≤ l.length:=by
 obtain ⟨e1,_⟩:=h.sound _ _ _ hd
 rw [e1,List.length_append];omega
theorem rtexts_any {w W : World} {q : Nat} {l : List UInt8} (h : RSt 141 w W q l) (hl : l.length ≤ 1000000) :
 Calls Tryz.prog 106 #[.pointer (some ⟨q,0,none⟩),.func (.func 107) #[.pointer (some ⟨q,0,none⟩)] #[]] W (Reads w W q (Ka2 Kba l) fun xs v W'=>OwnsP W' (fun b=>W.heap.size ≤ b) 9 1 v xs.length (xs.map strV)):=by
 refine (rrowsS_reads el_str (fun w P x a h=>⟨x,h⟩) Kba hl h (fun W1 l' h1 h2=>(Kez h1 h2).mono fun e W' hr=>?_) (fun l' x s hd=>Ke8.le hd)).mono ?_
 ·cases hd : Kba l' with
  | none=>rw [hd] at hr;exact hr
  | some p =>
    obtain ⟨x,s⟩:=p
    rw [hd] at hr
    obtain ⟨t,hb,v,rfl,rfl,hs⟩:=hr.some
    exact ⟨t,hb,_,rfl,⟨#[.string (strB x)],rfl,rfl⟩,hs⟩
 ·intro e W' hr
  cases hd : Ka2 Kba l with
  | none=>rw [hd] at hr;exact hr
  | some p =>
    obtain ⟨xs,s⟩:=p
    rw [hd] at hr
    obtain ⟨t,hb,v,rfl,⟨ys,ho,hg⟩,hs⟩:=hr.some
    refine ⟨t,hb,v,rfl,?_,hs⟩
    have e : ys.flatMap Array.toList = xs.map strV:=by
     clear ho hd hr
     obtain ⟨h1,h2⟩:=hg
     induction xs generalizing ys with
     | nil=>have : ys = []:=List.eq_nil_of_length_eq_zero h1;subst this;rfl
     | cons a r ih =>
       cases ys with
       | nil=>simp at h1
       | cons y q' =>
         obtain ⟨z,g1,g2⟩:=h2 0 a rfl
         cases g1
         rw [List.flatMap_cons,List.map_cons,show y = #[.string (strB a)] from g2]
         have:=ih q' (by simpa using h1) fun j v hv=>by
          have:=h2 (j + 1) v (by simpa using hv)
          simpa using this
         rw [this];rfl
    rw [e] at ho
    exact ho
theorem rprops_any {w W : World} {q : Nat} {l : List UInt8} (h : RSt 141 w W q l) (hl : l.length ≤ 1000000) :
 Calls Tryz.prog 108 #[.pointer (some ⟨q,0,none⟩),.func (.func 109) #[.pointer (some ⟨q,0,none⟩)] #[]] W (Reads w W q (Ka2 Keo l) fun xs v W'=>GOwn POwn 136 7 W' (fun b=>W.heap.size ≤ b) v xs) :=
 rrowsP_reads Kb2 Keo hl h (fun W1 l' h1 h2=>rprop_any h1 h2) (fun l' x s hd=>rt_prop.le hd)
theorem rnode_any {w W : World} {q : Nat} {l : List UInt8} (h : RSt 141 w W q l) (hl : l.length ≤ 1000000) :
 Calls Tryz.prog 52 #[.pointer (some ⟨q,0,none⟩)] W (Reads w W q (Ke4 l) (okNode W)):=by
 have hq:=h.lt
 have hb:=Kac (w:=W) (.cells #[.int .i64 0,.slice none 0 0,.slice none 0 0] 70)
 have HN:=yh (Ka0 (h.below hb))
 have HB:=yh hb
 clear hb h
 have he:=rdNode_eq l
 cases hr : rdN 0 0 l with
 | none =>
   rw [hr] at HN he
   have HE:=yh he
   clear he
   go_enter Tryz.func52,Tryz.ntmps52
   go_wp2_with (go_at_call 55;refine HN.out.mono ?_;rintro e W5 h5;obtain ⟨t5,hb5,rfl⟩:=h5.none;have H5:=yh (And.intro t5 hb5);clear h5 t5 hb5)
   exact ⟨rfl,Reads.of HE.out ⟨(RTo.of_below HB.out).trans H5.out.1,H5.out.2,rfl⟩⟩
 | some p =>
   obtain ⟨n,r⟩:=p
   have hrl:=rdN_le hr
   rw [hr] at HN he
   simp only at he
   have HCV:=yh (fun W' : World=>conv_i64 (Keh hr) W')
   cases hr1 : Ka2 Kba r with
   | none =>
     rw [hr1] at he
     have HE:=yh he
     clear he
     go_enter Tryz.func52,Tryz.ntmps52
     go_wp2_with (first
      | (go_at_call 55;refine HN.out.mono ?_;rintro e W5 h5
         (
          obtain ⟨t5,hb5,x5,rfl,rfl,s5⟩:=h5.some
          have hx5 : BX 70 W q #[.int .i64 0,.slice none 0 0,.slice none 0 0] W5.heap.size #[.int .i64 (toI n),.slice none 0 0,.slice none 0 0] (W5.alloc (.cells #[.int .i64 (toI n),.slice none 0 0,.slice none 0 0] 70)):=BX.start hq t5
          have st5:=s5.below (Kac (w:=W5) (.cells #[.int .i64 (toI n),.slice none 0 0,.slice none 0 0] 70))
          have HR1:=yh (rtexts_any st5 (by omega))
          have HX5:=yh hx5
          rw [hr1] at HR1
          clear h5 t5 hb5 s5 hx5 st5 HN))
      | ((with_reducible apply Kcg);exact HCV.out _;exact rfl)
      | (go_at_call 106;refine HR1.out.mono ?_;rintro e W6 h6;obtain ⟨t6,hb6,rfl⟩:=h6.none;have H6:=yh (And.intro t6 hb6);clear h6 t6 hb6))
     exact ⟨rfl,Reads.of HE.out ⟨HX5.out.tr.trans H6.out.1,H6.out.2,rfl⟩⟩
   | some p1 =>
     obtain ⟨ls,t⟩:=p1
     have hrl1:=rt_labels.le hr1
     rw [hr1] at he
     simp only at he
     cases hr2 : Ka2 Keo t with
     | none =>
       rw [hr2] at he
       have HE:=yh he
       clear he
       go_enter Tryz.func52,Tryz.ntmps52
       go_wp2_with (first
        | (go_at_call 55;refine HN.out.mono ?_;rintro e W5 h5
           (
            obtain ⟨t5,hb5,x5,rfl,rfl,s5⟩:=h5.some
            have hx5 : BX 70 W q #[.int .i64 0,.slice none 0 0,.slice none 0 0] W5.heap.size #[.int .i64 (toI n),.slice none 0 0,.slice none 0 0] (W5.alloc (.cells #[.int .i64 (toI n),.slice none 0 0,.slice none 0 0] 70)):=BX.start hq t5
            have st5:=s5.below (Kac (w:=W5) (.cells #[.int .i64 (toI n),.slice none 0 0,.slice none 0 0] 70))
            have HR1:=yh (rtexts_any st5 (by omega))
            have HX5:=yh hx5
            rw [hr1] at HR1
            clear h5 t5 hb5 s5 hx5 st5 HN))
        | ((with_reducible apply Kcg);exact HCV.out _;exact rfl)
        | (go_at_call 106;refine HR1.out.mono ?_;rintro e W6 h6
           (
            obtain ⟨t6,hb6,x6,rfl,hown6,s6⟩:=h6.some
            obtain ⟨p6,c6,rfl⟩ : ∃ p c,x6 = .slice p ls.length c:=Kbx hown6
            have hx6:=HX5.out.step t6
            have hx7 : BX 70 W q #[.int .i64 0,.slice none 0 0,.slice none 0 0] W5.heap.size #[.int .i64 (toI n),.slice p6 ls.length c6,.slice none 0 0] (W6.setCell ⟨W5.heap.size,1,none⟩ (.slice p6 ls.length c6)):=by simpa using hx6.set 1 (.slice p6 ls.length c6)
            have st7:=hx6.setR s6 1 (.slice p6 ls.length c6)
            have HS1:=yh (put_strs (p:=p6) (n:=ls.length) (c:=c6) (Kab (o:=1) hx6.p3 rfl) (Kav (o:=1) hx6.p3))
            have how7 : OwnsP (W6.setCell ⟨W5.heap.size,1,none⟩ (.slice p6 ls.length c6)) (fun b=>W5.heap.size + 1 ≤ b) 9 1 (.slice p6 ls.length c6) ls.length (ls.map strV):=by
             have hs5 : (W5.alloc (.cells #[.int .i64 (toI n),.slice none 0 0,.slice none 0 0] 70)).heap.size = W5.heap.size + 1:=by simp
             rw [hs5] at hown6
             exact hown6.keep fun b hb1 _=>Below.heap_setCell _ _ _ _ (by show b ≠ W5.heap.size;omega)
            have HX7:=yh (And.intro hx7 how7)
            have HR2:=yh (rprops_any st7 (by omega))
            rw [hr2] at HR2
            clear h6 t6 hb6 hown6 s6 hx6 hx7 st7 HR1))
        | ((with_reducible apply Kae);exact HS1.out;exact rfl;exact rfl;clear HS1)
        | (go_at_call 108;refine HR2.out.mono ?_;rintro e W8 h8;obtain ⟨t8,hb8,rfl⟩:=h8.none;have H8:=yh (And.intro t8 hb8);clear h8 t8 hb8))
       exact ⟨rfl,Reads.of HE.out ⟨HX7.out.1.tr.trans H8.out.1,H8.out.2,rfl⟩⟩
     | some p2 =>
       obtain ⟨ps,s⟩:=p2
       rw [hr2] at he
       have HE:=yh he
       clear he
       go_enter Tryz.func52,Tryz.ntmps52
       go_wp2_with (first
        | (go_at_call 55;refine HN.out.mono ?_;rintro e W5 h5
           (
            obtain ⟨t5,hb5,x5,rfl,rfl,s5⟩:=h5.some
            have hx5 : BX 70 W q #[.int .i64 0,.slice none 0 0,.slice none 0 0] W5.heap.size #[.int .i64 (toI n),.slice none 0 0,.slice none 0 0] (W5.alloc (.cells #[.int .i64 (toI n),.slice none 0 0,.slice none 0 0] 70)):=BX.start hq t5
            have st5:=s5.below (Kac (w:=W5) (.cells #[.int .i64 (toI n),.slice none 0 0,.slice none 0 0] 70))
            have HR1:=yh (rtexts_any st5 (by omega))
            have HX5:=yh hx5
            rw [hr1] at HR1
            clear h5 t5 hb5 s5 hx5 st5 HN))
        | ((with_reducible apply Kcg);exact HCV.out _;exact rfl)
        | (go_at_call 106;refine HR1.out.mono ?_;rintro e W6 h6
           (
            obtain ⟨t6,hb6,x6,rfl,hown6,s6⟩:=h6.some
            obtain ⟨p6,c6,rfl⟩ : ∃ p c,x6 = .slice p ls.length c:=Kbx hown6
            have hx6:=HX5.out.step t6
            have hx7 : BX 70 W q #[.int .i64 0,.slice none 0 0,.slice none 0 0] W5.heap.size #[.int .i64 (toI n),.slice p6 ls.length c6,.slice none 0 0] (W6.setCell ⟨W5.heap.size,1,none⟩ (.slice p6 ls.length c6)):=by simpa using hx6.set 1 (.slice p6 ls.length c6)
            have st7:=hx6.setR s6 1 (.slice p6 ls.length c6)
            have HS1:=yh (put_strs (p:=p6) (n:=ls.length) (c:=c6) (Kab (o:=1) hx6.p3 rfl) (Kav (o:=1) hx6.p3))
            have how7 : OwnsP (W6.setCell ⟨W5.heap.size,1,none⟩ (.slice p6 ls.length c6)) (fun b=>W5.heap.size + 1 ≤ b) 9 1 (.slice p6 ls.length c6) ls.length (ls.map strV):=by
             have hs5 : (W5.alloc (.cells #[.int .i64 (toI n),.slice none 0 0,.slice none 0 0] 70)).heap.size = W5.heap.size + 1:=by simp
             rw [hs5] at hown6
             exact hown6.keep fun b hb1 _=>Below.heap_setCell _ _ _ _ (by show b ≠ W5.heap.size;omega)
            have HX7:=yh (And.intro hx7 how7)
            have HR2:=yh (rprops_any st7 (by omega))
            rw [hr2] at HR2
            clear h6 t6 hb6 hown6 s6 hx6 hx7 st7 HR1))
        | ((with_reducible apply Kae);exact HS1.out;exact rfl;exact rfl;clear HS1)
        | (go_at_call 108;refine HR2.out.mono ?_;rintro e W8 h8
           (
            obtain ⟨t8,hb8,x8,rfl,hown8,s8⟩:=h8.some
            obtain ⟨p8,c8,rfl⟩:=hown8.slice
            have hx8:=HX7.out.1.step t8
            have hx9 : BX 70 W q #[.int .i64 0,.slice none 0 0,.slice none 0 0] W5.heap.size #[.int .i64 (toI n),.slice p6 ls.length c6,.slice p8 ps.length c8] (W8.setCell ⟨W5.heap.size,2,none⟩ (.slice p8 ps.length c8)):=by simpa using hx8.set 2 (.slice p8 ps.length c8)
            have st9:=hx8.setR s8 2 (.slice p8 ps.length c8)
            have HS2:=yh (put_props (p:=p8) (n:=ps.length) (c:=c8) (Kab (o:=2) hx8.p3 rfl) (Kav (o:=2) hx8.p3))
            obtain ⟨f1,f2,f3,f4,f5,f6,f7⟩:=hx9.fin Kbo rfl rfl (by simp [Value.oneCell']) st9
            have HL5:=yh f1
            have HS4:=yh f2
            have HLD:=yh f3
            have hlo:=hx9.lo
            have hno : NOwn (((W8.setCell ⟨W5.heap.size,2,none⟩ (.slice p8 ps.length c8))).setRow W.heap.size #[.int .i64 (toI n),.slice p6 ls.length c6,.slice p8 ps.length c8]) (fun b=>W.heap.size ≤ b) ⟨toI n,ls,ps⟩ #[.int .i64 (toI n),.slice p6 ls.length c6,.slice p8 ps.length c8]:=by
             have hk : ∀ b,b ≠ W5.heap.size → b ≠ W.heap.size → (((W8.setCell ⟨W5.heap.size,2,none⟩ (.slice p8 ps.length c8))).setRow W.heap.size #[.int .i64 (toI n),.slice p6 ls.length c6,.slice p8 ps.length c8]).heap[b]? = W8.heap[b]?:=fun b h1 h2=>(f7 b h2).trans (Below.heap_setCell _ _ _ _ h1)
             refine ⟨_,_,rfl,?_,?_⟩
             ·have h7:=HX7.out.2
              refine (h7.keep fun b hb1 hl=>?_).imp fun b _ hb1=>by omega
              exact (hk b (by omega) (by omega)).trans (t8.keep b hl (by have:=hx9.ql;omega))
             ·exact (hown8.keep Kb2 fun b hb1 hl=>hk b (by have:=HX7.out.1.lt;omega) (by have:=HX7.out.1.lt;omega)).imp Kb2 fun b _ hb1=>by have:=HX7.out.1.lt;omega
            have HF:=yh (And.intro f4 (And.intro f5 (And.intro f6 hno)))
            clear h8 t8 hb8 hown8 s8 hx8 hx9 st9 f1 f2 f3 f4 f5 f6 f7 hlo hno HR2))
        | ((with_reducible apply Kae);exact HS2.out;exact rfl;exact rfl;clear HS2)
        | ((with_reducible apply Kal);exact HL5.out;exact rfl)
        | ((with_reducible apply Kae);exact HS4.out;exact rfl;exact rfl))
       refine bodyPost_ret (Kan rfl _ _ ⟨W.heap.size,0,none⟩ _ rfl HLD.out) rfl ?_
       exact Reads.of HE.out ⟨HF.out.2.1,HF.out.2.2.1,_,rfl,⟨_,rfl,HF.out.2.2.2⟩,HF.out.1⟩
section
variable {P : Program} {ops : Array Oper}
def leftN (ops : Array Oper) (listed : Array Bool) : Nat:=((List.range ops.size).filter fun i=>!listed.getD i true).length
theorem filter_lt {α : Type} (p q : α → Bool) : ∀ (l : List α),(∀ x ∈ l,q x = true → p x = true) → (∃ x ∈ l,p x = true ∧ q x = false) → (l.filter q).length < (l.filter p).length
 | [],_,h=>by obtain ⟨x,hx,_⟩:=h;cases hx
 | a :: l,hm,h=>by
   have hle : ∀ (m : List α),(∀ x ∈ m,q x = true → p x = true) → (m.filter q).length ≤ (m.filter p).length:=by
    intro m
    induction m with
    | nil=>intro _;simp
    | cons b m ih =>
      intro hb
      have i1:=ih fun x hx=>hb x (by simp [hx])
      have b1:=hb b (by simp)
      cases hq : q b <;> cases hp : p b <;> simp [List.filter_cons,hq,hp] <;> first | omega | simp_all
   have ha:=hm a (by simp)
   have hm':=fun x hx=>hm x (List.mem_cons_of_mem _ hx)
   obtain ⟨x,hx,h1,h2⟩:=h
   rcases List.mem_cons.1 hx with rfl | hx
   ·have:=hle l hm'
    simp [List.filter_cons,h1,h2];omega
   ·have:=filter_lt p q l hm' ⟨x,hx,h1,h2⟩
    cases hq : q a <;> cases hp : p a <;> simp [List.filter_cons,hq,hp] <;> first | omega | simp_all
theorem leftN_set {listed : Array Bool} {i : Nat} (hi : i ∈ Region.ready .any ops listed) : leftN ops (listed.setIfInBounds i true) < leftN ops listed:=by
 obtain ⟨h0,o,ho,_⟩:=mem_ready.1 hi
 have hlt : i < ops.size:=(Array.getElem?_eq_some_iff.1 ho).1
 have hsz : i < listed.size:=by
  rcases Nat.lt_or_ge i listed.size with h | h
  ·exact h
  ·simp [Array.getElem?_eq_none h] at h0
 refine filter_lt _ _ _ (fun j _ hj=>?_) ⟨i,List.mem_range.2 hlt,by simp [h0],by simp [hsz]⟩
 rcases Nat.decEq j i with h | h
 ·rw [getD_set_ne true (Ne.symm h)] at hj;exact hj
 ·subst h;simp [hsz] at hj
def deps (ops : Array Oper) (i : Nat) : List Nat:=marks ops ops.size (afters ops i)
def dstOf (ops : Array Oper) (i : Nat) : Tmp:=((ops[i]?).bind (·.dst)).getD 0
def dstsOk (ops : Array Oper) (M : List Nat) (n : Nat) : Bool:=decide ((M.map (dstOf ops)).Nodup) && M.all fun i=>decide (((ops[i]?).bind (·.dst)).getD n < n)
theorem dstsOk_lt {M : List Nat} {n i : Nat} (h : dstsOk ops M n = true) (hi : i ∈ M) : ∃ o,ops[i]? = some o ∧ o.dst = some (dstOf ops i) ∧ dstOf ops i < n:=by
 have h2:=List.all_eq_true.1 (Bool.and_eq_true_iff.1 h).2 i hi
 simp only [decide_eq_true_eq] at h2
 unfold dstOf
 cases ho : ops[i]? with
 | none=>rw [ho] at h2;simp at h2
 | some o =>
   rw [ho] at h2
   simp only [Option.bind_some] at h2 ⊢
   cases hd : o.dst with
   | none=>rw [hd] at h2;simp at h2
   | some d=>rw [hd] at h2;exact ⟨o,rfl,by rw [hd];rfl,by simpa using h2⟩
theorem nodup_inj {α β : Type} {f : α → β} : ∀ {l : List α},(l.map f).Nodup → ∀ {a b : α},a ∈ l → b ∈ l → f a = f b → a = b
 | [],_,_,_,h,_,_=>by cases h
 | c :: l,hn,a,b,ha,hb,e=>by
   rw [List.map_cons,List.nodup_cons] at hn
   rcases List.mem_cons.1 ha with h1 | h1 <;> rcases List.mem_cons.1 hb with h2 | h2
   ·rw [h1,h2]
   ·exact absurd (List.mem_map.2 ⟨b,h2,by rw [← e,h1]⟩) hn.1
   ·exact absurd (List.mem_map.2 ⟨a,h1,by rw [e,h2]⟩) hn.1
   ·exact nodup_inj hn.2 h1 h2 e
theorem dstsOk_inj {M : List Nat} {n i j : Nat} (h : dstsOk ops M n = true) (hi : i ∈ M) (hj : j ∈ M) (e : dstOf ops i = dstOf ops j) : i = j :=
 nodup_inj (of_decide_eq_true (Bool.and_eq_true_iff.1 h).1) hi hj e
def forward (ops : Array Oper) : Bool:=(List.range ops.size).all fun i=>(afters ops i).all fun j=>decide (j < i)
theorem all_done (hf : forward ops = true) {listed : Array Bool} (hsz : listed.size = ops.size) (hr : Region.ready .any ops listed = []) : ∀ i,i < ops.size → listed.getD i false = true:=by
 intro i
 induction i using Nat.strongRecOn with
 | ind i ih =>
   intro hi
   cases hl : listed.getD i false with
   | true=>rfl
   | false =>
     exfalso
     have ho : ops[i]? = some ops[i]:=Array.getElem?_eq_getElem hi
     have hmem : i ∈ Region.ready .any ops listed:=by
      refine mem_ready.2 ⟨?_,_,ho,fun e he hb=>?_⟩
      ·have : i < listed.size:=by omega
       simp [this] at hl ⊢;exact hl
      ·have h1 : e.on ∈ afters ops i:=by
        unfold afters;rw [ho]
        exact List.mem_map.2 ⟨e,List.mem_filter.2 ⟨Array.mem_toList_iff.2 he,hb⟩,rfl⟩
       have h2:=List.all_eq_true.1 (List.all_eq_true.1 hf i (List.mem_range.2 hi)) e.on h1
       have h3:=of_decide_eq_true h2
       exact ih _ h3 (by omega)
     rw [hr] at hmem;cases hmem
abbrev OpF:=Nat → World → Value → Nat → Nat → Prop
structure AnyS (ops : Array Oper) (M : List Nat) (F : OpF) (a0 : Act) (w0 : World) (i : Nat) (a : Act) (w : World) (v : Nat → Value) (lo hi : Nat → Nat) : Prop where
 below : Below w0.heap.size w0 w
 cell : ∀ d u,(M.all fun j=>dstOf ops j != d) = true → a0.tmps[d]? = some u → a.tmps[d]? = some u
 new : ∀ j,j ∈ M → (deps ops i).contains j = true → a.eval (.tmp (dstOf ops j)) = v j ∧ F j w (v j) (lo j) (hi j) ∧ w0.heap.size ≤ lo j ∧ lo j ≤ hi j ∧ hi j ≤ w.heap.size
 slot : ∀ j,j ∈ M → (deps ops i).contains j = true → a.tmps[dstOf ops j]? = some (v j)
theorem eval_slot {a : Act} {d : Tmp} {u : Value} (h : a.tmps[d]? = some u) : a.eval (.tmp d) = u:=by
 show a.tmps.getD d undef = u
 simp [h]
theorem AnyS.old {M : List Nat} {F : OpF} {a0 : Act} {w0 : World} {i : Nat} {a : Act} {w : World} {v : Nat → Value} {lo hi : Nat → Nat} (h : AnyS ops M F a0 w0 i a w v lo hi) (d : Tmp) (u : Value) (h1 : (M.all fun j=>dstOf ops j != d) = true) (h2 : a0.tmps[d]? = some u) : a.eval (.tmp d) = u:=eval_slot (h.cell d u h1 h2)
theorem two_evals {a : Act} {x y : Operand} {u v : Value} (h1 : a.eval x = u) (h2 : a.eval y = v) : [x,y].map a.eval = [u,v]:=by simp [h1,h2]
theorem exec_buildSlice2 {a : Act} {w w' : World} {o : Oper} {v : Value} {t : TypeId} {n i0 i1 : Nat} {x0 x1 : Operand} {u0 u1 : Value} (ho : o.op = .buildSlice t n #[(i0,x0),(i1,x1)]) (h0 : a.eval x0 = u0) (h1 : a.eval x1 = u1)
 (hr : (Instr.buildSlice t n #[(i0,u0),(i1,u1)]).run P w = .ok v w') : (execOp a.eval o).run P w = .ok (.value v) w':=Kd9 ho (by simp [h0,h1]) hr
end
section
variable {P : Program} {ops : Array Oper}
structure GivS (ops : Array Oper) (M : List Nat) (V : Nat → Value) (a0 : Act) (i : Nat) (a : Act) : Prop where
 new : ∀ j,(afters ops i).contains j = true → M.contains j = true → a.eval (.tmp (dstOf ops j)) = V j
 old : ∀ d u,(M.all fun j=>dstOf ops j != d) = true → a0.tmps[d]? = some u → a.eval (.tmp d) = u
theorem region_gives {id : Nat} {Q : Exit → Act → World → Prop} {a0 : Act} {w : World} (hm : P.follows .mixedOrders = true) (k : Nat) (M : List Nat) (V : Nat → Value)
 (hk : k < ops.size) (hkM : k ∉ M) (hfw : forward ops = true) (hd : dstsOk ops M a0.tmps.size = true)
 (hM : ((List.range ops.size).all fun i=>M.contains i || i == k || (afters ops i).any fun j=>!M.contains j) = true)
 (hstep : ∀ i ∈ M,∀ a,GivS ops M V a0 i a → ∃ o,ops[i]? = some o ∧ Region.wanted o (yielded ops a.tmps) = true ∧ (execOp a.eval o).run P w.drew = .ok (.value (V i)) w.drew)
 (hend : ∀ a,a.defers = a0.defers → GivS ops M V a0 k a → ∃ o f vs,ops[k]? = some o ∧ Region.wanted o (yielded ops a.tmps) = true ∧ (execOp a.eval o).run P w.drew = .ok (.enter f vs) w.drew ∧ Calls P f vs w.drew fun e w'=>∃ c,e = .panicked c ∧ ∀ a,a.defers = a0.defers → Q (.panic c) a w') :
 (Code.region id ops true).wp P Q a0 w:=by
 have key : ∀ (fuel : Nat) (listed : Array Bool) (a : Act),leftN ops listed ≤ fuel → listed.size = ops.size → a.defers = a0.defers → a.tmps.size = a0.tmps.size → (∀ i,listed.getD i false = true → i ∈ M) →
  (∀ j ∈ M,listed.getD j false = true → a.tmps[dstOf ops j]? = some (V j)) → (∀ d,(∀ j ∈ M,dstOf ops j ≠ d) → a.tmps[d]? = a0.tmps[d]?) → wpAny P .any ops Q fuel listed a w.drew:=by
  intro fuel
  induction fuel with
  | zero =>
    intro listed a hl hsz _ _ hsub _ _
    exfalso
    have hkl : listed.getD k false ≠ true:=fun h=>hkM (hsub k h)
    have : k ∈ (List.range ops.size).filter fun i=>!listed.getD i true:=by
     refine List.mem_filter.2 ⟨List.mem_range.2 hk,?_⟩
     have hlt : k < listed.size:=by omega
     simp [hlt] at hkl ⊢;exact hkl
    have h0 : ((List.range ops.size).filter fun i=>!listed.getD i true) = []:=List.length_eq_zero_iff.1 (Nat.le_zero.1 hl)
    rw [h0] at this;cases this
  | succ fuel ih =>
    intro listed a hl hsz hde hts hsub hnew hold
    refine ⟨fun hr=>absurd (hsub k (all_done hfw hsz hr k hk)) hkM,fun i hr=>?_⟩
    obtain ⟨hl0,o,ho,_⟩:=mem_ready.1 hr
    have hi1 : i < ops.size:=(Array.getElem?_eq_some_iff.1 ho).1
    have hS : GivS ops M V a0 i a:=by
     refine ⟨fun j hj hjM=>?_,fun d u hdd hu=>?_⟩
     ·have hjM' : j ∈ M:=by simpa using hjM
      exact eval_slot (hnew j hjM' (Kd6 hr j (by simpa using hj)))
     ·refine eval_slot ((hold d fun j hj e=>?_).trans hu)
      have:=List.all_eq_true.1 hdd j hj
      simp only [bne_iff_ne,ne_eq] at this
      exact this e
    by_cases hik : i = k
    ·subst hik
     obtain ⟨o',f,vs,h1,h2,h3,h4⟩:=hend a hde hS
     unfold wpOp
     simp only [h1,h2,if_true]
     left
     unfold Oper.wp
     rw [h3,Oper.upon_enter]
     refine h4.mono ?_
     rintro e w' ⟨c,rfl,hc⟩
     exact hc a hde
    ·have him : i ∈ M:=by
      have h1:=List.all_eq_true.1 hM i (List.mem_range.2 hi1)
      simp only [Bool.or_eq_true,List.contains_eq_mem,decide_eq_true_eq,beq_iff_eq] at h1
      rcases h1 with (h1 | h1) | h1
      ·exact h1
      ·exact absurd h1 hik
      ·obtain ⟨j,hj,hjM⟩:=List.any_eq_true.1 h1
       have:=hsub j (Kd6 hr j hj)
       simp [this] at hjM
     obtain ⟨o',h1,h2,h3⟩:=hstep i him a hS
     obtain ⟨o2,g1,g2,g3⟩:=dstsOk_lt hd him
     have e12 : o2 = o':=by rw [g1] at h1;exact Option.some.inj h1
     subst e12
     unfold wpOp
     simp only [h1,h2,if_true]
     left
     unfold Oper.wp
     rw [h3,Oper.upon_value,g2]
     have hlt : i < listed.size:=by omega
     refine ih _ _ (by have:=leftN_set hr;omega) (by simpa using hsz) hde (by simpa [Act.put] using hts) (fun j hj=>?_) (fun j hj hj1=>?_) (fun d hdd=>?_)
     ·rcases Nat.decEq j i with h | h
      ·rw [getD_set_ne false (Ne.symm h)] at hj;exact hsub j hj
      ·subst h;exact him
     ·show (a.tmps.setIfInBounds (dstOf ops i) (V i))[dstOf ops j]? = _
      rcases Nat.decEq j i with h | h
      ·rw [getD_set_ne false (Ne.symm h)] at hj1
       rw [Array.getElem?_setIfInBounds,if_neg fun e=>h (dstsOk_inj hd hj him e.symm)]
       exact hnew j hj hj1
      ·subst h
       rw [Array.getElem?_setIfInBounds,if_pos rfl,if_pos (by rw [hts];exact g3)]
     ·show (a.tmps.setIfInBounds (dstOf ops i) (V i))[d]? = _
      rw [Array.getElem?_setIfInBounds,if_neg (hdd i him)]
      exact hold d hdd
 refine wp_region_any hm (key ops.size _ _ ?_ (by simp) rfl rfl (fun i hi=>?_) (fun j _ hj=>?_) (fun d _=>rfl))
 ·unfold leftN
  exact Nat.le_trans (List.length_filter_le _ _) (by simp)
 ·rcases Nat.lt_or_ge i ops.size with h | h
  ·simp [h] at hi
  ·simp [h] at hi
 ·rcases Nat.lt_or_ge j ops.size with h | h
  ·simp [h] at hj
  ·simp [h] at hj
end
def rdInt : Dec Int:=Dec.map toI (rdN 0 0)
theorem rdInt_none {l : List UInt8} (h : rdN 0 0 l = none) : rdInt l = none:=map_n h
theorem rdInt_some {l s : List UInt8} {n : Nat} (h : rdN 0 0 l = some (n,s)) : rdInt l = some (toI n,s):=map_s h
theorem rdRel_eq (l : List UInt8) : rdRel l = match rdInt.rep 3 l with
 | none=>none
 | some (xs,r)=>match Kba r with
   | none=>none
   | some (s,t)=>match Ka2 Keo t with
     | none=>none
     | some (ps,u)=>some (⟨xs.getD 0 0,xs.getD 1 0,xs.getD 2 0,s,ps⟩,u):=by
 unfold rdRel rdProps
 show Dec.map _ (Dec.seq rdInt (Dec.seq rdInt (Dec.seq rdInt (Dec.seq Kba (Ka2 Keo))))) l = _
 cases h0 : rdInt l with
 | none =>
   have e : rdInt.rep 3 l = none:=by simp [Dec.rep,h0]
   rw [e];exact map_n (seq_n1 h0)
 | some p0 =>
   obtain ⟨a,r0⟩:=p0
   cases h1 : rdInt r0 with
   | none =>
     have e : rdInt.rep 3 l = none:=by simp [Dec.rep,h0,h1]
     rw [e];exact map_n (Kda h0 (seq_n1 h1))
   | some p1 =>
     obtain ⟨b,r1⟩:=p1
     cases h2 : rdInt r1 with
     | none =>
       have e : rdInt.rep 3 l = none:=by simp [Dec.rep,h0,h1,h2]
       rw [e];exact map_n (Kda h0 (Kda h1 (seq_n1 h2)))
     | some p2 =>
       obtain ⟨c,r2⟩:=p2
       have e : rdInt.rep 3 l = some ([a,b,c],r2):=by simp [Dec.rep,h0,h1,h2]
       rw [e]
       simp only
       cases h3 : Kba r2 with
       | none=>exact map_n (Kda h0 (Kda h1 (Kda h2 (seq_n1 h3))))
       | some p3 =>
         obtain ⟨s,t⟩:=p3
         simp only
         cases h4 : Ka2 Keo t with
         | none=>exact map_n (Kda h0 (Kda h1 (Kda h2 (Kda h3 h4))))
         | some p4 =>
           obtain ⟨ps,u⟩:=p4
           exact map_s (seq_s h0 (seq_s h1 (seq_s h2 (seq_s h3 h4))))
theorem ia_three0 (b : Nat) (W : World) : (Instr.indexAt 148 (.pointer (some ⟨b,0,none⟩)) (.int .i64 0)).run Tryz.prog W = .ok (.pointer (some ⟨b,0,none⟩)) W:=by simp [go_sem]
theorem ia_three1 (b : Nat) (W : World) : (Instr.indexAt 148 (.pointer (some ⟨b,0,none⟩)) (.int .i64 1)).run Tryz.prog W = .ok (.pointer (some ⟨b,1,none⟩)) W:=by simp [go_sem]
theorem ia_three2 (b : Nat) (W : World) : (Instr.indexAt 148 (.pointer (some ⟨b,0,none⟩)) (.int .i64 2)).run Tryz.prog W = .ok (.pointer (some ⟨b,2,none⟩)) W:=by simp [go_sem]
theorem exec_buildRel {a : Act} {w : World} {o : Oper} {x0 x1 x2 x3 x4 : Operand} {n0 n1 n2 : Int} {s : ByteArray} {p : Option Addr} {n c : Nat} (ho : o.op = .build 72 #[(0,x0),(1,x1),(2,x2),(3,x3),(4,x4)])
 (h0 : a.eval x0 = .int .i64 n0) (h1 : a.eval x1 = .int .i64 n1) (h2 : a.eval x2 = .int .i64 n2) (h3 : a.eval x3 = .string s) (h4 : a.eval x4 = .slice p n c) :
 (execOp a.eval o).run Tryz.prog w = .ok (.value (.agg #[.int .i64 n0,.int .i64 n1,.int .i64 n2,.string s,.slice p n c])) w:=by
 unfold execOp;simp [ho,go_sem,h0,h1,h2,h3,h4,Act.eval] at h0 h1 h2 h3 h4 ⊢;simp [h0,h1,h2,h3,h4]
theorem exec_bound {P : Program} {a : Act} {w : World} {o : Oper} {fn : Fn} {x : Operand} {u : Value} (ho : o.op = .makeFunc fn #[x] #[]) (hx : a.eval x = u) : (execOp a.eval o).run P w = .ok (.value (.func fn #[u] #[])) w:=by
 unfold execOp;rw [ho];simp [hx];rfl
abbrev arr3 (m : List Int) : Array Value:=#[.int .i64 (m.getD 0 0),.int .i64 (m.getD 1 0),.int .i64 (m.getD 2 0)]
abbrev zeroR : Array Value:=#[.int .i64 0,.int .i64 0,.int .i64 0,.string ⟨#[]⟩,.slice none 0 0]
structure RL (w W : World) (q : Nat) (l : List UInt8) (m : List Int) (W' : World) (l' : List UInt8) : Prop where
 st : RSt 141 w W' q l'
 tr : RTo q W W'
 p2 : W'.heap[W.heap.size]? = some (.cells zeroR 72 (0,0))
 p3 : W'.heap[W.heap.size + 1]? = some (.cells (arr3 m) 148 (0,0))
 rep : RepAt rdInt 3 l m l'
 len : l'.length ≤ l.length
theorem RL.next {w W W' W1 : World} {q : Nat} {l l' s : List UInt8} {m : List Int} {n : Nat} (hq : q < W.heap.size) (h : RL w W q l m W' l') (t : RTo q W' W1) (g : RSt 141 w W1 q s) (hr : rdN 0 0 l' = some (n,s)) (hm : m.length < 3) :
 (storeVar 2 ⟨W.heap.size + 1,m.length,none⟩ (.int .i64 (toI n))).run Tryz.prog W1 = .ok () (W1.setCell ⟨W.heap.size + 1,m.length,none⟩ (.int .i64 (toI n))) ∧ RL w W q l (m ++ [toI n]) (W1.setCell ⟨W.heap.size + 1,m.length,none⟩ (.int .i64 (toI n))) s:=by
 have hl3:=(Array.getElem?_eq_some_iff.1 h.p3).1
 have h2:=(t.keep _ (by omega) (by omega)).trans h.p2
 have h3:=(t.keep _ hl3 (by omega)).trans h.p3
 have ho : ∀ b,b ≠ W.heap.size + 1 → (W1.setCell ⟨W.heap.size + 1,m.length,none⟩ (.int .i64 (toI n))).heap[b]? = W1.heap[b]?:=fun b hb=>Below.heap_setCell _ _ _ _ hb
 have hbase:=g.base
 have hc : ∃ u,(arr3 m)[m.length]? = some u:=⟨_,Array.getElem?_eq_getElem (by show m.length < 3;exact hm)⟩
 obtain ⟨u,hu⟩:=hc
 refine ⟨Kd0 (Kab h3 hu) (Kav h3),⟨g.other (Kbh g.b (by omega) _) (ho q (by omega)),⟨by have:=(h.tr.trans t).size;simp [World.setCell];omega,fun b hb hqb=>(ho b (by omega)).trans ((h.tr.trans t).keep b hb hqb)⟩,(ho _ (by omega)).trans h2,?_,h.rep.step hm (rdInt_some hr),?_⟩⟩
 ·have:=Kcd (k:=m.length) (.int .i64 (toI n)) h3
  rw [this]
  match m,hm with
  | [],_=>rfl
  | [a],_=>rfl
  | [a,b],_=>rfl
 ·have:=rdN_le hr
  have:=h.len
  omega
theorem rrel_any {w W : World} {q : Nat} {l : List UInt8} (h : RSt 141 w W q l) (hl : l.length ≤ 1000000) :
 Calls Tryz.prog 54 #[.pointer (some ⟨q,0,none⟩)] W (Reads w W q (rdRel l) (okRel W)):=by
 have hq:=h.lt
 have hb : Below W.heap.size W ((W.alloc (.cells #[.int .i64 0,.int .i64 0,.int .i64 0,.string ⟨#[]⟩,.slice none 0 0] 72)).alloc (.cells #[.int .i64 0,.int .i64 0,.int .i64 0] 148)):=(Kac _).alloc (by simp) _
 have hR0 : RL w W q l [] ((W.alloc (.cells #[.int .i64 0,.int .i64 0,.int .i64 0,.string ⟨#[]⟩,.slice none 0 0] 72)).alloc (.cells #[.int .i64 0,.int .i64 0,.int .i64 0] 148)) l:=by
  refine ⟨h.below hb,RTo.of_below hb,?_,?_,RepAt.start _ _ _,Nat.le_refl _⟩
  ·simp only [Kam,World.size_alloc];rw [if_neg (by omega),if_pos trivial]
  ·simp only [Kam,World.size_alloc];rw [if_pos trivial];rfl
 have HR0:=yh hR0
 have he:=rdRel_eq l
 have HE0:=yh he
 clear hb hR0 h he
 go_enter Tryz.func54,Tryz.ntmps54
 go_wp2
 go_loopw [6] (fun i wr=>∃ m : List Int,m.length ≤ 3 ∧ i = .int .i64 (m.length : Int) ∧ Hid (∃ l',RL w W q l m wr l')) (fun i _=>3 - (intOf i).toNat)
 case atStart=>exact ⟨[],by simp,rfl,yh ⟨l,HR0.out⟩⟩
 case round =>
  clear HR0
  obtain ⟨m,hm,rfl,HI⟩:=hrel
  obtain ⟨l',hi⟩:=HI.out
  clear HI
  by_cases hm3 : m.length < 3
  ·have HN:=yh (Ka0 hi.st)
   have HI:=yh hi
   cases hr : rdN 0 0 l' with
   | none =>
     rw [hr] at HN
     have hfail:=hi.rep.fail hm3 (rdInt_none hr)
     have hE:=HE0.out
     rw [hfail] at hE
     have HE:=yh hE
     clear hfail hE hi
     have hk : m.length = 0 ∨ m.length = 1 ∨ m.length = 2:=by omega
     rcases hk with hk | hk | hk
     ·have g1 : ((m.length : Int)) = 0:=by omega
      rw [g1]
      go_wp2_with (go_at_call 55;refine HN.out.mono ?_;rintro e W5 h5;obtain ⟨t5,hb5,rfl⟩:=h5.none;have H5:=yh (And.intro t5 hb5);clear h5 t5 hb5)
      exact ⟨rfl,Reads.of HE.out ⟨HI.out.tr.trans H5.out.1,H5.out.2,rfl⟩⟩
     ·have g1 : ((m.length : Int)) = 1:=by omega
      rw [g1]
      go_wp2_with (go_at_call 55;refine HN.out.mono ?_;rintro e W5 h5;obtain ⟨t5,hb5,rfl⟩:=h5.none;have H5:=yh (And.intro t5 hb5);clear h5 t5 hb5)
      exact ⟨rfl,Reads.of HE.out ⟨HI.out.tr.trans H5.out.1,H5.out.2,rfl⟩⟩
     ·have g1 : ((m.length : Int)) = 2:=by omega
      rw [g1]
      go_wp2_with (go_at_call 55;refine HN.out.mono ?_;rintro e W5 h5;obtain ⟨t5,hb5,rfl⟩:=h5.none;have H5:=yh (And.intro t5 hb5);clear h5 t5 hb5)
      exact ⟨rfl,Reads.of HE.out ⟨HI.out.tr.trans H5.out.1,H5.out.2,rfl⟩⟩
   | some p =>
     obtain ⟨n,s⟩:=p
     rw [hr] at HN
     have HCV:=yh (fun W' : World=>conv_i64 (Keh hr) W')
     clear hi
     have hk : m.length = 0 ∨ m.length = 1 ∨ m.length = 2:=by omega
     rcases hk with hk | hk | hk
     ·have g1 : ((m.length : Int)) = 0:=by omega
      rw [g1]
      go_wp2_with (first
       | (go_at_call 55;refine HN.out.mono ?_;rintro e W5 h5
          (
           obtain ⟨t5,hb5,x5,rfl,rfl,s5⟩:=h5.some
           obtain ⟨hst,hnx⟩:=RL.next hq HI.out t5 s5 hr hm3
           rw [hk] at hst hnx
           have HST:=yh hst
           have HNX:=yh hnx
           clear h5 t5 hb5 s5 hst hnx HN))
       | ((with_reducible apply Kcg);exact HCV.out _;exact rfl)
       | ((with_reducible apply Kae);exact HST.out;exact rfl;exact rfl;clear HST))
      go_roundw
      case rel=>exact ⟨m ++ [toI n],by rw [List.length_append];simp;omega,by rw [List.length_append,hk];rfl,yh ⟨s,HNX.out⟩⟩
      case measure=>simp [intOf]
     ·have g1 : ((m.length : Int)) = 1:=by omega
      rw [g1]
      go_wp2_with (first
       | (go_at_call 55;refine HN.out.mono ?_;rintro e W5 h5
          (
           obtain ⟨t5,hb5,x5,rfl,rfl,s5⟩:=h5.some
           obtain ⟨hst,hnx⟩:=RL.next hq HI.out t5 s5 hr hm3
           rw [hk] at hst hnx
           have HST:=yh hst
           have HNX:=yh hnx
           clear h5 t5 hb5 s5 hst hnx HN))
       | ((with_reducible apply Kcg);exact HCV.out _;exact rfl)
       | ((with_reducible apply Kae);exact HST.out;exact rfl;exact rfl;clear HST))
      go_roundw
      case rel=>exact ⟨m ++ [toI n],by rw [List.length_append];simp;omega,by rw [List.length_append,hk];rfl,yh ⟨s,HNX.out⟩⟩
      case measure=>simp [intOf]
     ·have g1 : ((m.length : Int)) = 2:=by omega
      rw [g1]
      go_wp2_with (first
       | (go_at_call 55;refine HN.out.mono ?_;rintro e W5 h5
          (
           obtain ⟨t5,hb5,x5,rfl,rfl,s5⟩:=h5.some
           obtain ⟨hst,hnx⟩:=RL.next hq HI.out t5 s5 hr hm3
           rw [hk] at hst hnx
           have HST:=yh hst
           have HNX:=yh hnx
           clear h5 t5 hb5 s5 hst hnx HN))
       | ((with_reducible apply Kcg);exact HCV.out _;exact rfl)
       | ((with_reducible apply Kae);exact HST.out;exact rfl;exact rfl;clear HST))
      go_roundw
      case rel=>exact ⟨m ++ [toI n],by rw [List.length_append];simp;omega,by rw [List.length_append,hk];rfl,yh ⟨s,HNX.out⟩⟩
      case measure=>simp [intOf]
  ·have hm4 : m.length = 3:=by omega
   obtain ⟨n0,n1,n2,rfl⟩ : ∃ a b c,m = [a,b,c]:=by
    match m,hm4 with
    | [a,b,c],_=>exact ⟨a,b,c,rfl⟩
   have hdone:=hi.rep.done rfl
   have hE:=HE0.out
   rw [hdone] at hE
   simp only at hE
   have hll:=hi.len
   have HT:=yh (Kez hi.st (by omega))
   have HI:=yh hi
   clear hi hdone hm hm3 hm4
   cases hr1 : Kba l' with
   | none =>
     rw [hr1] at HT hE
     have HE:=yh hE
     clear hE
     go_wp2_with (go_at_call 107;refine HT.out.mono ?_;rintro e W6 h6;obtain ⟨t6,hb6,rfl⟩:=h6.none;have H6:=yh (And.intro t6 hb6);clear h6 t6 hb6)
     exact ⟨rfl,Reads.of HE.out ⟨HI.out.tr.trans H6.out.1,H6.out.2,rfl⟩⟩
   | some p =>
     obtain ⟨s,t⟩:=p
     have hrl:=rdText_le hr1
     rw [hr1] at HT hE
     simp only at hE
     cases hr2 : Ka2 Keo t with
     | none =>
       rw [hr2] at hE
       have HE:=yh hE
       clear hE
       go_wp2_with (go_at_call 107;refine HT.out.mono ?_;rintro e W6 h6;obtain ⟨t6,hb6,x6,rfl,rfl,s6⟩:=h6.some;have H6:=yh (And.intro t6 s6);clear h6 t6 hb6 s6)
       have h3lt : W.heap.size + 1 < W6.drew.heap.size:=by have:=(Array.getElem?_eq_some_iff.1 HI.out.p3).1;have:=H6.out.1.size;show _ < W6.heap.size;omega
       have h3d : W6.drew.heap[W.heap.size + 1]? = some (.cells #[.int .i64 n0,.int .i64 n1,.int .i64 n2] 148 (0,0)):=(H6.out.1.keep _ (Array.getElem?_eq_some_iff.1 HI.out.p3).1 (by omega)).trans HI.out.p3
       have hd:=(Below.refl W6.heap.size W6).drew
       have HR2:=yh (rprops_any (H6.out.2.below hd) (by omega))
       rw [hr2] at HR2
       refine region_gives (by kernel_rfl) 10 [0,1,2,3,4,5,6,7,8,9] (fun i=>match i with
        | 0=>.pointer (some ⟨W.heap.size + 1,0,none⟩) | 1=>.int .i64 n0 | 2=>.pointer (some ⟨W.heap.size + 1,1,none⟩) | 3=>.int .i64 n1 | 4=>.pointer (some ⟨W.heap.size + 1,2,none⟩) | 5=>.int .i64 n2
        | 6=>.string (strB s) | 9=>.func (.func 109) #[.pointer (some ⟨q,0,none⟩)] #[] | _=>.pointer (some ⟨q,0,none⟩)) (by decide) (by decide) (by kernel_rfl) (by kernel_rfl) (by kernel_rfl) (fun i hi a hS=>?_) (fun a ha hS=>?_)
       ·simp only [List.mem_cons,List.not_mem_nil,or_false] at hi
        rcases hi with rfl | rfl | rfl | rfl | rfl | rfl | rfl | rfl | rfl | rfl
        ·refine ⟨_,rfl,rfl,Kao rfl (hS.old 3 (.pointer (some ⟨W.heap.size + 1,0,none⟩)) (by kernel_rfl) rfl) rfl (ia_three0 (W.heap.size + 1) _)⟩
        ·refine ⟨_,rfl,rfl,Kaf rfl (hS.new 0 (by kernel_rfl) (by kernel_rfl)) (Kag (w:=W6.drew) Tryz.underlying2 rfl (Kab (o:=0) h3d rfl))⟩
        ·refine ⟨_,rfl,rfl,Kao rfl (hS.old 3 (.pointer (some ⟨W.heap.size + 1,0,none⟩)) (by kernel_rfl) rfl) rfl (ia_three1 (W.heap.size + 1) _)⟩
        ·refine ⟨_,rfl,rfl,Kaf rfl (hS.new 2 (by kernel_rfl) (by kernel_rfl)) (Kag (w:=W6.drew) Tryz.underlying2 rfl (Kab (o:=1) h3d rfl))⟩
        ·refine ⟨_,rfl,rfl,Kao rfl (hS.old 3 (.pointer (some ⟨W.heap.size + 1,0,none⟩)) (by kernel_rfl) rfl) rfl (ia_three2 (W.heap.size + 1) _)⟩
        ·refine ⟨_,rfl,rfl,Kaf rfl (hS.new 4 (by kernel_rfl) (by kernel_rfl)) (Kag (w:=W6.drew) Tryz.underlying2 rfl (Kab (o:=2) h3d rfl))⟩
        ·exact ⟨_,rfl,rfl,Kah rfl (hS.old 5 (.string (strB s)) (by kernel_rfl) rfl)⟩
        ·exact ⟨_,rfl,rfl,Kah rfl (hS.old 0 (.pointer (some ⟨q,0,none⟩)) (by kernel_rfl) rfl)⟩
        ·exact ⟨_,rfl,rfl,Kah rfl (hS.old 0 (.pointer (some ⟨q,0,none⟩)) (by kernel_rfl) rfl)⟩
        ·exact ⟨_,rfl,rfl,exec_bound rfl (hS.new 8 (by kernel_rfl) (by kernel_rfl))⟩
       ·refine ⟨_,_,_,rfl,rfl,Kaq [.pointer (some ⟨q,0,none⟩),.func (.func 109) #[.pointer (some ⟨q,0,none⟩)] #[]] rfl (two_evals (hS.new 7 (by kernel_rfl) (by kernel_rfl)) (hS.new 9 (by kernel_rfl) (by kernel_rfl))) Tryz.func108 (by kernel_rfl) (by kernel_rfl),HR2.out.mono ?_⟩
        rintro e W8 h8
        obtain ⟨t8,hb8,rfl⟩:=h8.none
        exact ⟨_,rfl,fun a' ha'=>⟨ha',Reads.of HE.out ⟨((HI.out.tr.trans H6.out.1).trans (RTo.of_below hd)).trans t8,hb8,rfl⟩⟩⟩
     | some p2 =>
       obtain ⟨ps,u⟩:=p2
       rw [hr2] at hE
       have HE:=yh hE
       clear hE
       go_wp2_with (go_at_call 107;refine HT.out.mono ?_;rintro e W6 h6;obtain ⟨t6,hb6,x6,rfl,rfl,s6⟩:=h6.some;have H6:=yh (And.intro t6 s6);clear h6 t6 hb6 s6)
       have h3lt : W.heap.size + 1 < W6.drew.heap.size:=by have:=(Array.getElem?_eq_some_iff.1 HI.out.p3).1;have:=H6.out.1.size;show _ < W6.heap.size;omega
       have h2lt : W.heap.size < W6.drew.heap.size:=by omega
       have h3d : W6.drew.heap[W.heap.size + 1]? = some (.cells #[.int .i64 n0,.int .i64 n1,.int .i64 n2] 148 (0,0)):=(H6.out.1.keep _ (Array.getElem?_eq_some_iff.1 HI.out.p3).1 (by omega)).trans HI.out.p3
       have h2d : W6.drew.heap[W.heap.size]? = some (.cells #[.int .i64 0,.int .i64 0,.int .i64 0,.string ⟨#[]⟩,.slice none 0 0] 72 (0,0)):=(H6.out.1.keep _ (Array.getElem?_eq_some_iff.1 HI.out.p2).1 (by omega)).trans HI.out.p2
       have hd:=(Below.refl W6.heap.size W6).drew
       have HD:=yh (And.intro (show RTo q W W6.drew from (HI.out.tr.trans H6.out.1).trans (RTo.of_below hd)) hd)
       have HR2:=yh (rprops_any (H6.out.2.below hd) (by omega))
       rw [hr2] at HR2
       refine Kaj (fun W'=>W'.heap[W.heap.size + 1]? = some (.cells #[.int .i64 n0,.int .i64 n1,.int .i64 n2] 148 (0,0))) (by kernel_rfl) h3d (fun hS=>?_)
       refine take 0 17 (v:=.pointer (some ⟨W.heap.size + 1,0,none⟩)) rfl rfl (by kernel_rfl) (by kernel_rfl) (by kernel_rfl) rfl (fun W' hW=>Kao rfl rfl rfl (ia_three0 (W.heap.size + 1) W')) (by assumption) ?_
       simp only [Act.put,sA,sZ,sS]
       refine take 1 18 (v:=.int .i64 n0) rfl rfl (by kernel_rfl) (by kernel_rfl) (by kernel_rfl) rfl (fun W' hW=>Kaf rfl rfl (Kag (w:=W') Tryz.underlying2 rfl (Kab (o:=0) hW rfl))) (by assumption) ?_
       simp only [Act.put,sA,sZ,sS]
       refine take 2 19 (v:=.pointer (some ⟨W.heap.size + 1,1,none⟩)) rfl rfl (by kernel_rfl) (by kernel_rfl) (by kernel_rfl) rfl (fun W' hW=>Kao rfl rfl rfl (ia_three1 (W.heap.size + 1) W')) (by assumption) ?_
       simp only [Act.put,sA,sZ,sS]
       refine take 3 20 (v:=.int .i64 n1) rfl rfl (by kernel_rfl) (by kernel_rfl) (by kernel_rfl) rfl (fun W' hW=>Kaf rfl rfl (Kag (w:=W') Tryz.underlying2 rfl (Kab (o:=1) hW rfl))) (by assumption) ?_
       simp only [Act.put,sA,sZ,sS]
       refine take 4 21 (v:=.pointer (some ⟨W.heap.size + 1,2,none⟩)) rfl rfl (by kernel_rfl) (by kernel_rfl) (by kernel_rfl) rfl (fun W' hW=>Kao rfl rfl rfl (ia_three2 (W.heap.size + 1) W')) (by assumption) ?_
       simp only [Act.put,sA,sZ,sS]
       refine take 5 22 (v:=.int .i64 n2) rfl rfl (by kernel_rfl) (by kernel_rfl) (by kernel_rfl) rfl (fun W' hW=>Kaf rfl rfl (Kag (w:=W') Tryz.underlying2 rfl (Kab (o:=2) hW rfl))) (by assumption) ?_
       simp only [Act.put,sA,sZ,sS]
       refine take 6 23 (v:=.string (strB s)) rfl rfl (by kernel_rfl) (by kernel_rfl) (by kernel_rfl) rfl (fun W' hW=>Kah rfl rfl) (by assumption) ?_
       simp only [Act.put,sA,sZ,sS]
       refine take 7 24 (v:=.pointer (some ⟨q,0,none⟩)) rfl rfl (by kernel_rfl) (by kernel_rfl) (by kernel_rfl) rfl (fun W' hW=>Kah rfl rfl) (by assumption) ?_
       simp only [Act.put,sA,sZ,sS]
       refine take 8 25 (v:=.pointer (some ⟨q,0,none⟩)) rfl rfl (by kernel_rfl) (by kernel_rfl) (by kernel_rfl) rfl (fun W' hW=>Kah rfl rfl) (by assumption) ?_
       simp only [Act.put,sA,sZ,sS]
       refine take 9 26 (v:=.func (.func 109) #[.pointer (some ⟨q,0,none⟩)] #[]) rfl rfl (by kernel_rfl) (by kernel_rfl) (by kernel_rfl) rfl (fun W' hW=>exec_bound rfl rfl) (by assumption) ?_
       simp only [Act.put,sA,sZ,sS]
       refine Kau 10 27 rfl rfl (by kernel_rfl) rfl (Kaq [.pointer (some ⟨q,0,none⟩),.func (.func 109) #[.pointer (some ⟨q,0,none⟩)] #[]] rfl rfl Tryz.func108 (by kernel_rfl) (by kernel_rfl)) ?_
       refine HR2.out.mono ?_
       rintro e W8 h8
       obtain ⟨t8,hb8,x8,rfl,hown8,s8⟩:=h8.some
       obtain ⟨p8,c8,rfl⟩:=hown8.slice
       have hq8 : q < W.heap.size:=hq
       have hbase:=HI.out.st.base
       have h38:=(t8.keep _ h3lt (by omega)).trans h3d
       have h28:=(t8.keep _ h2lt (by omega)).trans h2d
       have hst:=StT.put Kcf (cs:=#[.int .i64 n0,.int .i64 n1,.int .i64 n2,.string (strB s),.slice p8 ps.length c8]) rfl (by simp [Value.oneCell']) h28 rfl
       have HLD:=yh (StT.get Kcf (cs:=#[.int .i64 n0,.int .i64 n1,.int .i64 n2,.string (strB s),.slice p8 ps.length c8]) rfl (setRow_heap W8 W.heap.size _ _ _ _ h28))
       have ho : ∀ b,b ≠ W.heap.size → (W8.setRow W.heap.size #[.int .i64 n0,.int .i64 n1,.int .i64 n2,.string (strB s),.slice p8 ps.length c8]).heap[b]? = W8.heap[b]?:=fun b hb=>setRow_other W8 _ b _ hb
       have hsz : (W8.setRow W.heap.size #[.int .i64 n0,.int .i64 n1,.int .i64 n2,.string (strB s),.slice p8 ps.length c8]).heap.size = W8.heap.size:=by simp
       have hB8:=Kbz (B:=W.heap.size) hb8 (by omega) #[.int .i64 n0,.int .i64 n1,.int .i64 n2,.string (strB s),.slice p8 ps.length c8]
       have hto8 : RTo q W (W8.setRow W.heap.size #[.int .i64 n0,.int .i64 n1,.int .i64 n2,.string (strB s),.slice p8 ps.length c8]):=⟨by rw [hsz];have:=(HD.out.1.trans t8).size;omega,fun b hb1 hq1=>(ho b (by omega)).trans ((HD.out.1.trans t8).keep b hb1 hq1)⟩
       have hro : ROwn (W8.setRow W.heap.size #[.int .i64 n0,.int .i64 n1,.int .i64 n2,.string (strB s),.slice p8 ps.length c8]) (fun b=>W.heap.size ≤ b) ⟨n0,n1,n2,s,ps⟩ #[.int .i64 n0,.int .i64 n1,.int .i64 n2,.string (strB s),.slice p8 ps.length c8] :=
        ⟨_,rfl,(hown8.keep Kb2 fun b hb1 hl=>ho b (by omega)).imp Kb2 fun b _ hb1=>by omega⟩
       have HF:=yh (And.intro hto8 (And.intro hB8 (And.intro hro (s8.other hB8 (ho q (by omega))))))
       refine ⟨_,rfl,.inr h38,?_⟩
       simp only [Act.put,sA,sZ,sS]
       refine Kc7 11 28 (v:=.agg #[.int .i64 n0,.int .i64 n1,.int .i64 n2,.string (strB s),.slice p8 ps.length c8]) rfl rfl (by kernel_rfl) rfl (exec_buildRel rfl rfl rfl rfl rfl rfl) (.inr h38) ?_
       simp only [Act.put,sA,sZ,sS]
       refine Kca 12 rfl rfl (by kernel_rfl) rfl (Kb4 rfl rfl rfl hst) (.inl (by kernel_rfl)) ?_
       refine done (by kernel_rfl) ?_ _
       clear hS h38 h28 hst ho hbase hsz hB8 hto8 hro h8 t8 hb8 hown8 s8 h3lt h2lt h3d h2d hd HR2 HT
       go_wp2
       refine bodyPost_ret (Kan rfl _ _ ⟨W.heap.size,0,none⟩ _ rfl HLD.out) rfl ?_
       exact Reads.of HE.out ⟨HF.out.1,HF.out.2.1,_,rfl,⟨_,rfl,HF.out.2.2.1⟩,HF.out.2.2.2⟩
theorem StT.putAt {P : Program} {t : TypeId} {K : Nat} {W : World} {cs : Array Value} (h : StT P t K) {g off : Nat} {cur : Array Value} {ty : TypeId} (hs : cs.size = K) (h1 : ∀ u ∈ cs.toList,u.oneCell' = true) (hg : W.heap[g]? = some (.cells cur ty (0,0))) (hfit : off + K ≤ cur.size) :
 (storeVar t ⟨g,off,none⟩ (.agg cs)).run P W = .ok () (W.setRow g (cur.toList.take off ++ cs.toList ++ cur.toList.drop (off + K)).toArray):=by
 obtain ⟨d,i,hu,hd,hi,hk⟩:=h
 have hst:=run_storeCells_at P g off ty cs.toList 0 cur W hg (by simp;omega) h1
 simp only [Nat.add_zero,Array.length_toList,hs] at hst
 simp [storeVar,sizeOf,typeInfo,hi,hk,hs,hst,Value.cells]
theorem Kc1 {l : List UInt8} (h : 0 < l.length) : Kbc l =
 if (l[0]).toNat = 0 then (Ke4 (l.drop 1)).map fun p=>(⟨0,0,0,p.1,rel0⟩,p.2)
 else if (l[0]).toNat = 1 then (rdRel (l.drop 1)).map fun p=>(⟨1,0,0,node0,p.1⟩,p.2)
 else if (l[0]).toNat = 2 ∨ (l[0]).toNat = 3 then (Kbt (l.drop 1)).map fun p=>(⟨((l[0]).toNat : Int),p.1,0,node0,rel0⟩,p.2)
 else if (l[0]).toNat = 4 then (Dec.seq Kbt Kbt (l.drop 1)).map fun p=>(⟨4,p.1.1,p.1.2,node0,rel0⟩,p.2)
 else none:=by
 cases l with
 | nil=>simp at h
 | cons c r=>rw [Kbc];rfl
theorem nown0 (W : World) (P : Nat → Prop) : NOwn W P node0 #[.int .i64 0,.slice none 0 0,.slice none 0 0]:=⟨_,_,rfl,⟨⟨by simp [node0],.inl ⟨rfl,rfl⟩⟩,fun g hg=>by simp [Value.ownBlock] at hg⟩,GOwn.nil⟩
theorem rown0 (W : World) (P : Nat → Prop) : ROwn W P rel0 #[.int .i64 0,.int .i64 0,.int .i64 0,.string ⟨#[]⟩,.slice none 0 0]:=⟨_,rfl,GOwn.nil⟩
theorem cown_flat (W : World) (P : Nat → Prop) (k i o : Int) : COwn W P ⟨k,i,o,node0,rel0⟩ #[.int .i64 k,.int .i64 i,.int .i64 o,.int .i64 0,.slice none 0 0,.slice none 0 0,.int .i64 0,.int .i64 0,.int .i64 0,.string ⟨#[]⟩,.slice none 0 0] :=
 ⟨_,_,rfl,nown0 W P,rown0 W P⟩
theorem Kc4 {w W W1 : World} {q : Nat} {r : List UInt8} (K : Int) (hq : q < W.heap.size) (t1 : RTo q (W.alloc (.cells #[.int .i64 0,.int .i64 0,.int .i64 0,.int .i64 0,.slice none 0 0,.slice none 0 0,.int .i64 0,.int .i64 0,.int .i64 0,.string ⟨#[]⟩,.slice none 0 0] 74)) W1) (s1 : RSt 141 w W1 q r) : BX 74 W q #[.int .i64 0,.int .i64 0,.int .i64 0,.int .i64 0,.slice none 0 0,.slice none 0 0,.int .i64 0,.int .i64 0,.int .i64 0,.string ⟨#[]⟩,.slice none 0 0] W1.heap.size #[.int .i64 K,.int .i64 0,.int .i64 0,.int .i64 0,.slice none 0 0,.slice none 0 0,.int .i64 0,.int .i64 0,.int .i64 0,.string ⟨#[]⟩,.slice none 0 0] (W1.alloc (.cells #[.int .i64 K,.int .i64 0,.int .i64 0,.int .i64 0,.slice none 0 0,.slice none 0 0,.int .i64 0,.int .i64 0,.int .i64 0,.string ⟨#[]⟩,.slice none 0 0] 74)) ∧ RSt 141 w (W1.alloc (.cells #[.int .i64 K,.int .i64 0,.int .i64 0,.int .i64 0,.slice none 0 0,.slice none 0 0,.int .i64 0,.int .i64 0,.int .i64 0,.string ⟨#[]⟩,.slice none 0 0] 74)) q r :=
 ⟨BX.start hq t1,s1.below (Kac (w:=W1) (.cells #[.int .i64 K,.int .i64 0,.int .i64 0,.int .i64 0,.slice none 0 0,.slice none 0 0,.int .i64 0,.int .i64 0,.int .i64 0,.string ⟨#[]⟩,.slice none 0 0] 74))⟩
theorem rchange_node {w W : World} {q : Nat} {l : List UInt8} (h : RSt 141 w W q l) (hl : l.length ≤ 1000000) (hlp : 0 < l.length) {c : Nat} (hc0 : (l[0]).toNat = c) (hc : c = 0) :
 Calls Tryz.prog 82 #[.pointer (some ⟨q,0,none⟩)] W (Reads w W q (Kbc l) (Kem W)):=by
 have hb:=Kac (w:=W) (.cells #[.int .i64 0,.int .i64 0,.int .i64 0,.int .i64 0,.slice none 0 0,.slice none 0 0,.int .i64 0,.int .i64 0,.int .i64 0,.string ⟨#[]⟩,.slice none 0 0] 74)
 have hq:=h.lt
 have hcons:=Kc1 hlp
 have hc256:=(l[0]).toNat_lt
 have HC:=yh (Kcw (h.below hb) hlp)
 rw [hc0] at hcons hc256 HC
 have hrl : (l.drop 1).length ≤ 1000000:=by rw [List.length_drop];omega
 generalize l.drop 1 = r at *
 subst hc;rw [if_pos rfl] at hcons
 clear hb h hc0
 cases hr : Ke4 r with
 | none =>
   have HE:=yh (hcons.trans (show _ = none by rw [hr];rfl))
   clear hcons
   go_enter Tryz.func82,Tryz.ntmps82
   go_wp2_with (first
    | (go_at_call 110;refine HC.out.mono ?_;rintro e W1 ⟨rfl,s1,t1⟩
       (
        obtain ⟨hx1,st1⟩:=Kc4 0 hq t1 s1
        have c0:=Kab (o:=0) hx1.p3 rfl
        have HX:=yh (And.intro hx1 st1)
        have HN:=yh (rnode_any st1 hrl)
        rw [hr] at HN
        clear hx1 st1 s1 t1 HC))
    | (go_at_call 52;refine HN.out.mono ?_;rintro e W5 h5;obtain ⟨t5,hb5,rfl⟩:=h5.none;have H5:=yh (And.intro t5 hb5);clear h5 t5 hb5))
   exact ⟨rfl,Reads.of HE.out ⟨HX.out.1.tr.trans H5.out.1,H5.out.2,rfl⟩⟩
 | some p =>
   obtain ⟨x,s⟩:=p
   have HE:=yh (hcons.trans (show _ = some (⟨0,0,0,x,rel0⟩,s) by rw [hr];rfl))
   clear hcons
   go_enter Tryz.func82,Tryz.ntmps82
   go_wp2_with (first
    | (go_at_call 110;refine HC.out.mono ?_;rintro e W1 ⟨rfl,s1,t1⟩
       (
        obtain ⟨hx1,st1⟩:=Kc4 0 hq t1 s1
        have c0:=Kab (o:=0) hx1.p3 rfl
        have HX:=yh (And.intro hx1 st1)
        have HN:=yh (rnode_any st1 hrl)
        rw [hr] at HN
        clear hx1 st1 s1 t1 HC))
    | (go_at_call 52;refine HN.out.mono ?_;rintro e W5 h5
       (
        obtain ⟨t5,hb5,x5,rfl,⟨cs,rfl,hown⟩,hstm⟩:=h5.some
        obtain ⟨vl,vp,rfl,ho1,ho2⟩:=hown
        obtain ⟨pa,ca,rfl⟩ : ∃ p c,vl = .slice p x.labels.length c:=Kbx ho1
        obtain ⟨pb,cb,rfl⟩:=ho2.slice
        have hV5:=HX.out.1.step t5
        have HST:=yh (StT.putAt Kbo (off:=3) (cs:=#[.int .i64 x.id,.slice pa x.labels.length ca,.slice pb x.props.length cb]) rfl (by simp [Value.oneCell']) hV5.p3 (by decide))
        have hsz : (W5.setRow W1.heap.size #[.int .i64 0,.int .i64 0,.int .i64 0,.int .i64 x.id,.slice pa x.labels.length ca,.slice pb x.props.length cb,.int .i64 0,.int .i64 0,.int .i64 0,.string ⟨#[]⟩,.slice none 0 0]).heap.size = W5.heap.size:=by simp
        have hVn : BX 74 W q #[.int .i64 0,.int .i64 0,.int .i64 0,.int .i64 0,.slice none 0 0,.slice none 0 0,.int .i64 0,.int .i64 0,.int .i64 0,.string ⟨#[]⟩,.slice none 0 0] W1.heap.size #[.int .i64 0,.int .i64 0,.int .i64 0,.int .i64 x.id,.slice pa x.labels.length ca,.slice pb x.props.length cb,.int .i64 0,.int .i64 0,.int .i64 0,.string ⟨#[]⟩,.slice none 0 0] (W5.setRow W1.heap.size #[.int .i64 0,.int .i64 0,.int .i64 0,.int .i64 x.id,.slice pa x.labels.length ca,.slice pb x.props.length cb,.int .i64 0,.int .i64 0,.int .i64 0,.string ⟨#[]⟩,.slice none 0 0]):=hV5.turn (setRow_heap W5 _ _ _ _ _ hV5.p3) (fun b hb1=>setRow_other W5 _ b _ hb1) hsz
        have hstn:=hV5.other hstm (fun b hb1=>setRow_other W5 W1.heap.size b #[.int .i64 0,.int .i64 0,.int .i64 0,.int .i64 x.id,.slice pa x.labels.length ca,.slice pb x.props.length cb,.int .i64 0,.int .i64 0,.int .i64 0,.string ⟨#[]⟩,.slice none 0 0] hb1) (Kbz hb5 (by have:=hV5.lo;have:=hV5.ql;have:=hstm.base;omega) _)
        have hlo:=hVn.lo
        have hk : ∀ b,b ≠ W1.heap.size → b ≠ W.heap.size → ((W5.setRow W1.heap.size #[.int .i64 0,.int .i64 0,.int .i64 0,.int .i64 x.id,.slice pa x.labels.length ca,.slice pb x.props.length cb,.int .i64 0,.int .i64 0,.int .i64 0,.string ⟨#[]⟩,.slice none 0 0]).setRow W.heap.size #[.int .i64 0,.int .i64 0,.int .i64 0,.int .i64 x.id,.slice pa x.labels.length ca,.slice pb x.props.length cb,.int .i64 0,.int .i64 0,.int .i64 0,.string ⟨#[]⟩,.slice none 0 0]).heap[b]? = W5.heap[b]?:=fun b h1 h2=>(setRow_other _ _ b _ h2).trans (setRow_other W5 _ b _ h1)
        have hs1 : (W1.alloc (.cells #[.int .i64 0,.int .i64 0,.int .i64 0,.int .i64 0,.slice none 0 0,.slice none 0 0,.int .i64 0,.int .i64 0,.int .i64 0,.string ⟨#[]⟩,.slice none 0 0] 74)).heap.size = W1.heap.size + 1:=by simp
        rw [hs1] at ho1 ho2
        have hco : COwn ((W5.setRow W1.heap.size #[.int .i64 0,.int .i64 0,.int .i64 0,.int .i64 x.id,.slice pa x.labels.length ca,.slice pb x.props.length cb,.int .i64 0,.int .i64 0,.int .i64 0,.string ⟨#[]⟩,.slice none 0 0]).setRow W.heap.size #[.int .i64 0,.int .i64 0,.int .i64 0,.int .i64 x.id,.slice pa x.labels.length ca,.slice pb x.props.length cb,.int .i64 0,.int .i64 0,.int .i64 0,.string ⟨#[]⟩,.slice none 0 0]) (fun b=>W.heap.size ≤ b) ⟨0,0,0,x,rel0⟩ #[.int .i64 0,.int .i64 0,.int .i64 0,.int .i64 x.id,.slice pa x.labels.length ca,.slice pb x.props.length cb,.int .i64 0,.int .i64 0,.int .i64 0,.string ⟨#[]⟩,.slice none 0 0] :=
         ⟨_,_,rfl,⟨_,_,rfl,(ho1.keep fun b hb1 _=>hk b (by omega) (by omega)).imp fun b _ hb1=>by omega,(ho2.keep Kb2 fun b hb1 _=>hk b (by omega) (by omega)).imp Kb2 fun b _ hb1=>by omega⟩,rown0 _ _⟩
        obtain ⟨f1,f2,f3,f4,f5,f6,f7⟩:=hVn.fin Kb6 rfl rfl (by simp [Value.oneCell']) hstn
        have HL5:=yh f1
        have HS4:=yh f2
        have HLD:=yh f3
        have HF:=yh (And.intro f4 (And.intro f5 (And.intro f6 hco)))
        clear f1 f2 f3 f4 f5 f6 f7
        clear h5 t5 hb5 hstm hV5 hVn hstn ho1 ho2 hsz hlo hk hs1 hco HN))
    | ((with_reducible apply Kae);exact HST.out;exact rfl;exact rfl;clear HST)
    | ((with_reducible apply Kal);exact HL5.out;exact rfl)
    | ((with_reducible apply Kae);exact HS4.out;exact rfl;exact rfl))
   refine bodyPost_ret (Kan rfl _ _ ⟨W.heap.size,0,none⟩ _ rfl HLD.out) rfl ?_
   exact Reads.of HE.out ⟨HF.out.2.1,HF.out.2.2.1,_,rfl,⟨_,rfl,HF.out.2.2.2⟩,HF.out.1⟩
theorem rchange_rel {w W : World} {q : Nat} {l : List UInt8} (h : RSt 141 w W q l) (hl : l.length ≤ 1000000) (hlp : 0 < l.length) {c : Nat} (hc0 : (l[0]).toNat = c) (hc : c = 1) :
 Calls Tryz.prog 82 #[.pointer (some ⟨q,0,none⟩)] W (Reads w W q (Kbc l) (Kem W)):=by
 have hb:=Kac (w:=W) (.cells #[.int .i64 0,.int .i64 0,.int .i64 0,.int .i64 0,.slice none 0 0,.slice none 0 0,.int .i64 0,.int .i64 0,.int .i64 0,.string ⟨#[]⟩,.slice none 0 0] 74)
 have hq:=h.lt
 have hcons:=Kc1 hlp
 have hc256:=(l[0]).toNat_lt
 have HC:=yh (Kcw (h.below hb) hlp)
 rw [hc0] at hcons hc256 HC
 have hrl : (l.drop 1).length ≤ 1000000:=by rw [List.length_drop];omega
 generalize l.drop 1 = r at *
 subst hc;rw [if_neg (by decide),if_pos rfl] at hcons
 clear hb h hc0
 cases hr : rdRel r with
 | none =>
   have HE:=yh (hcons.trans (show _ = none by rw [hr];rfl))
   clear hcons
   go_enter Tryz.func82,Tryz.ntmps82
   go_wp2_with (first
    | (go_at_call 110;refine HC.out.mono ?_;rintro e W1 ⟨rfl,s1,t1⟩
       (
        obtain ⟨hx1,st1⟩:=Kc4 1 hq t1 s1
        have c0:=Kab (o:=0) hx1.p3 rfl
        have HX:=yh (And.intro hx1 st1)
        have HN:=yh (rrel_any st1 hrl)
        rw [hr] at HN
        clear hx1 st1 s1 t1 HC))
    | (go_at_call 54;refine HN.out.mono ?_;rintro e W5 h5;obtain ⟨t5,hb5,rfl⟩:=h5.none;have H5:=yh (And.intro t5 hb5);clear h5 t5 hb5))
   exact ⟨rfl,Reads.of HE.out ⟨HX.out.1.tr.trans H5.out.1,H5.out.2,rfl⟩⟩
 | some p =>
   obtain ⟨x,s⟩:=p
   have HE:=yh (hcons.trans (show _ = some (⟨1,0,0,node0,x⟩,s) by rw [hr];rfl))
   clear hcons
   go_enter Tryz.func82,Tryz.ntmps82
   go_wp2_with (first
    | (go_at_call 110;refine HC.out.mono ?_;rintro e W1 ⟨rfl,s1,t1⟩
       (
        obtain ⟨hx1,st1⟩:=Kc4 1 hq t1 s1
        have c0:=Kab (o:=0) hx1.p3 rfl
        have HX:=yh (And.intro hx1 st1)
        have HN:=yh (rrel_any st1 hrl)
        rw [hr] at HN
        clear hx1 st1 s1 t1 HC))
    | (go_at_call 54;refine HN.out.mono ?_;rintro e W5 h5
       (
        obtain ⟨t5,hb5,x5,rfl,⟨cs,rfl,hown⟩,hstm⟩:=h5.some
        obtain ⟨vp,rfl,ho2⟩:=hown
        obtain ⟨pb,cb,rfl⟩:=ho2.slice
        have hV5:=HX.out.1.step t5
        have HST:=yh (StT.putAt Kcf (off:=6) (cs:=#[.int .i64 x.id,.int .i64 x.src,.int .i64 x.dst,.string (strB x.type),.slice pb x.props.length cb]) rfl (by simp [Value.oneCell']) hV5.p3 (by decide))
        have hsz : (W5.setRow W1.heap.size #[.int .i64 1,.int .i64 0,.int .i64 0,.int .i64 0,.slice none 0 0,.slice none 0 0,.int .i64 x.id,.int .i64 x.src,.int .i64 x.dst,.string (strB x.type),.slice pb x.props.length cb]).heap.size = W5.heap.size:=by simp
        have hVn : BX 74 W q #[.int .i64 0,.int .i64 0,.int .i64 0,.int .i64 0,.slice none 0 0,.slice none 0 0,.int .i64 0,.int .i64 0,.int .i64 0,.string ⟨#[]⟩,.slice none 0 0] W1.heap.size #[.int .i64 1,.int .i64 0,.int .i64 0,.int .i64 0,.slice none 0 0,.slice none 0 0,.int .i64 x.id,.int .i64 x.src,.int .i64 x.dst,.string (strB x.type),.slice pb x.props.length cb] (W5.setRow W1.heap.size #[.int .i64 1,.int .i64 0,.int .i64 0,.int .i64 0,.slice none 0 0,.slice none 0 0,.int .i64 x.id,.int .i64 x.src,.int .i64 x.dst,.string (strB x.type),.slice pb x.props.length cb]):=hV5.turn (setRow_heap W5 _ _ _ _ _ hV5.p3) (fun b hb1=>setRow_other W5 _ b _ hb1) hsz
        have hstn:=hV5.other hstm (fun b hb1=>setRow_other W5 W1.heap.size b #[.int .i64 1,.int .i64 0,.int .i64 0,.int .i64 0,.slice none 0 0,.slice none 0 0,.int .i64 x.id,.int .i64 x.src,.int .i64 x.dst,.string (strB x.type),.slice pb x.props.length cb] hb1) (Kbz hb5 (by have:=hV5.lo;have:=hV5.ql;have:=hstm.base;omega) _)
        have hlo:=hVn.lo
        have hk : ∀ b,b ≠ W1.heap.size → b ≠ W.heap.size → ((W5.setRow W1.heap.size #[.int .i64 1,.int .i64 0,.int .i64 0,.int .i64 0,.slice none 0 0,.slice none 0 0,.int .i64 x.id,.int .i64 x.src,.int .i64 x.dst,.string (strB x.type),.slice pb x.props.length cb]).setRow W.heap.size #[.int .i64 1,.int .i64 0,.int .i64 0,.int .i64 0,.slice none 0 0,.slice none 0 0,.int .i64 x.id,.int .i64 x.src,.int .i64 x.dst,.string (strB x.type),.slice pb x.props.length cb]).heap[b]? = W5.heap[b]?:=fun b h1 h2=>(setRow_other _ _ b _ h2).trans (setRow_other W5 _ b _ h1)
        have hs1 : (W1.alloc (.cells #[.int .i64 1,.int .i64 0,.int .i64 0,.int .i64 0,.slice none 0 0,.slice none 0 0,.int .i64 0,.int .i64 0,.int .i64 0,.string ⟨#[]⟩,.slice none 0 0] 74)).heap.size = W1.heap.size + 1:=by simp
        rw [hs1] at ho2
        have hco : COwn ((W5.setRow W1.heap.size #[.int .i64 1,.int .i64 0,.int .i64 0,.int .i64 0,.slice none 0 0,.slice none 0 0,.int .i64 x.id,.int .i64 x.src,.int .i64 x.dst,.string (strB x.type),.slice pb x.props.length cb]).setRow W.heap.size #[.int .i64 1,.int .i64 0,.int .i64 0,.int .i64 0,.slice none 0 0,.slice none 0 0,.int .i64 x.id,.int .i64 x.src,.int .i64 x.dst,.string (strB x.type),.slice pb x.props.length cb]) (fun b=>W.heap.size ≤ b) ⟨1,0,0,node0,x⟩ #[.int .i64 1,.int .i64 0,.int .i64 0,.int .i64 0,.slice none 0 0,.slice none 0 0,.int .i64 x.id,.int .i64 x.src,.int .i64 x.dst,.string (strB x.type),.slice pb x.props.length cb] :=
         ⟨_,_,rfl,nown0 _ _,⟨_,rfl,(ho2.keep Kb2 fun b hb1 _=>hk b (by omega) (by omega)).imp Kb2 fun b _ hb1=>by omega⟩⟩
        obtain ⟨f1,f2,f3,f4,f5,f6,f7⟩:=hVn.fin Kb6 rfl rfl (by simp [Value.oneCell']) hstn
        have HL5:=yh f1
        have HS4:=yh f2
        have HLD:=yh f3
        have HF:=yh (And.intro f4 (And.intro f5 (And.intro f6 hco)))
        clear f1 f2 f3 f4 f5 f6 f7
        clear h5 t5 hb5 hstm hV5 hVn hstn ho2 hsz hlo hk hs1 hco HN))
    | ((with_reducible apply Kae);exact HST.out;exact rfl;exact rfl;clear HST)
    | ((with_reducible apply Kal);exact HL5.out;exact rfl)
    | ((with_reducible apply Kae);exact HS4.out;exact rfl;exact rfl))
   refine bodyPost_ret (Kan rfl _ _ ⟨W.heap.size,0,none⟩ _ rfl HLD.out) rfl ?_
   exact Reads.of HE.out ⟨HF.out.2.1,HF.out.2.2.1,_,rfl,⟨_,rfl,HF.out.2.2.2⟩,HF.out.1⟩
theorem rchange_dn {w W : World} {q : Nat} {l : List UInt8} (h : RSt 141 w W q l) (hl : l.length ≤ 1000000) (hlp : 0 < l.length) {c : Nat} (hc0 : (l[0]).toNat = c) (hc : c = 2) :
 Calls Tryz.prog 82 #[.pointer (some ⟨q,0,none⟩)] W (Reads w W q (Kbc l) (Kem W)):=by
 have hb:=Kac (w:=W) (.cells #[.int .i64 0,.int .i64 0,.int .i64 0,.int .i64 0,.slice none 0 0,.slice none 0 0,.int .i64 0,.int .i64 0,.int .i64 0,.string ⟨#[]⟩,.slice none 0 0] 74)
 have hq:=h.lt
 have hcons:=Kc1 hlp
 have hc256:=(l[0]).toNat_lt
 have HC:=yh (Kcw (h.below hb) hlp)
 rw [hc0] at hcons hc256 HC
 have hrl : (l.drop 1).length ≤ 1000000:=by rw [List.length_drop];omega
 generalize l.drop 1 = r at *
 subst hc;rw [if_neg (by decide),if_neg (by decide),if_pos (by decide)] at hcons
 clear hb h hc0
 cases hr : Kbt r with
 | none =>
   have HE:=yh (hcons.trans (show _ = none by rw [hr];rfl))
   clear hcons
   go_enter Tryz.func82,Tryz.ntmps82
   go_wp2_with (first
    | (go_at_call 110;refine HC.out.mono ?_;rintro e W1 ⟨rfl,s1,t1⟩
       (
        obtain ⟨hx1,st1⟩:=Kc4 2 hq t1 s1
        have c0:=Kab (o:=0) hx1.p3 rfl
        have HX:=yh (And.intro hx1 st1)
        have HN:=yh (Kby st1)
        rw [hr] at HN
        clear hx1 st1 s1 t1 HC))
    | (go_at_call 123;refine HN.out.mono ?_;rintro e W5 h5;obtain ⟨t5,hb5,rfl⟩:=h5.none;have H5:=yh (And.intro t5 hb5);clear h5 t5 hb5))
   exact ⟨rfl,Reads.of HE.out ⟨HX.out.1.tr.trans H5.out.1,H5.out.2,rfl⟩⟩
 | some p =>
   obtain ⟨x,s⟩:=p
   have HE:=yh (hcons.trans (show _ = some (⟨2,x,0,node0,rel0⟩,s) by rw [hr];rfl))
   clear hcons
   go_enter Tryz.func82,Tryz.ntmps82
   go_wp2_with (first
    | (go_at_call 110;refine HC.out.mono ?_;rintro e W1 ⟨rfl,s1,t1⟩
       (
        obtain ⟨hx1,st1⟩:=Kc4 2 hq t1 s1
        have c0:=Kab (o:=0) hx1.p3 rfl
        have HX:=yh (And.intro hx1 st1)
        have HN:=yh (Kby st1)
        rw [hr] at HN
        clear hx1 st1 s1 t1 HC))
    | (go_at_call 123;refine HN.out.mono ?_;rintro e W5 h5
       (
        obtain ⟨t5,hb5,x5,rfl,rfl,hstm⟩:=h5.some
        have hV5:=HX.out.1.step t5
        have HST:=yh (Kd0 (n:=x) (Kab (o:=1) hV5.p3 rfl) (Kav (o:=1) hV5.p3))
        have hVn : BX 74 W q #[.int .i64 0,.int .i64 0,.int .i64 0,.int .i64 0,.slice none 0 0,.slice none 0 0,.int .i64 0,.int .i64 0,.int .i64 0,.string ⟨#[]⟩,.slice none 0 0] W1.heap.size #[.int .i64 2,.int .i64 x,.int .i64 0,.int .i64 0,.slice none 0 0,.slice none 0 0,.int .i64 0,.int .i64 0,.int .i64 0,.string ⟨#[]⟩,.slice none 0 0] (W5.setCell ⟨W1.heap.size,1,none⟩ (.int .i64 x)):=by simpa using hV5.set 1 (.int .i64 x)
        have hstn:=hV5.setR hstm 1 (.int .i64 x)
        obtain ⟨f1,f2,f3,f4,f5,f6,f7⟩:=hVn.fin Kb6 rfl rfl (by simp [Value.oneCell']) hstn
        have HL5:=yh f1
        have HS4:=yh f2
        have HLD:=yh f3
        have HF:=yh (And.intro f4 (And.intro f5 (And.intro f6 (cown_flat ((W5.setCell ⟨W1.heap.size,1,none⟩ (.int .i64 x)).setRow W.heap.size #[.int .i64 2,.int .i64 x,.int .i64 0,.int .i64 0,.slice none 0 0,.slice none 0 0,.int .i64 0,.int .i64 0,.int .i64 0,.string ⟨#[]⟩,.slice none 0 0]) (fun b=>W.heap.size ≤ b) 2 x 0))))
        clear f1 f2 f3 f4 f5 f6 f7
        clear h5 t5 hb5 hstm hV5 hVn hstn HN))
    | ((with_reducible apply Kae);exact HST.out;exact rfl;exact rfl;clear HST)
    | ((with_reducible apply Kal);exact HL5.out;exact rfl)
    | ((with_reducible apply Kae);exact HS4.out;exact rfl;exact rfl))
   refine bodyPost_ret (Kan rfl _ _ ⟨W.heap.size,0,none⟩ _ rfl HLD.out) rfl ?_
   exact Reads.of HE.out ⟨HF.out.2.1,HF.out.2.2.1,_,rfl,⟨_,rfl,HF.out.2.2.2⟩,HF.out.1⟩
theorem rchange_dr {w W : World} {q : Nat} {l : List UInt8} (h : RSt 141 w W q l) (hl : l.length ≤ 1000000) (hlp : 0 < l.length) {c : Nat} (hc0 : (l[0]).toNat = c) (hc : c = 3) :
 Calls Tryz.prog 82 #[.pointer (some ⟨q,0,none⟩)] W (Reads w W q (Kbc l) (Kem W)):=by
 have hb:=Kac (w:=W) (.cells #[.int .i64 0,.int .i64 0,.int .i64 0,.int .i64 0,.slice none 0 0,.slice none 0 0,.int .i64 0,.int .i64 0,.int .i64 0,.string ⟨#[]⟩,.slice none 0 0] 74)
 have hq:=h.lt
 have hcons:=Kc1 hlp
 have hc256:=(l[0]).toNat_lt
 have HC:=yh (Kcw (h.below hb) hlp)
 rw [hc0] at hcons hc256 HC
 have hrl : (l.drop 1).length ≤ 1000000:=by rw [List.length_drop];omega
 generalize l.drop 1 = r at *
 subst hc;rw [if_neg (by decide),if_neg (by decide),if_pos (by decide)] at hcons
 clear hb h hc0
 cases hr : Kbt r with
 | none =>
   have HE:=yh (hcons.trans (show _ = none by rw [hr];rfl))
   clear hcons
   go_enter Tryz.func82,Tryz.ntmps82
   go_wp2_with (first
    | (go_at_call 110;refine HC.out.mono ?_;rintro e W1 ⟨rfl,s1,t1⟩
       (
        obtain ⟨hx1,st1⟩:=Kc4 3 hq t1 s1
        have c0:=Kab (o:=0) hx1.p3 rfl
        have HX:=yh (And.intro hx1 st1)
        have HN:=yh (Kby st1)
        rw [hr] at HN
        clear hx1 st1 s1 t1 HC))
    | (go_at_call 123;refine HN.out.mono ?_;rintro e W5 h5;obtain ⟨t5,hb5,rfl⟩:=h5.none;have H5:=yh (And.intro t5 hb5);clear h5 t5 hb5))
   exact ⟨rfl,Reads.of HE.out ⟨HX.out.1.tr.trans H5.out.1,H5.out.2,rfl⟩⟩
 | some p =>
   obtain ⟨x,s⟩:=p
   have HE:=yh (hcons.trans (show _ = some (⟨3,x,0,node0,rel0⟩,s) by rw [hr];rfl))
   clear hcons
   go_enter Tryz.func82,Tryz.ntmps82
   go_wp2_with (first
    | (go_at_call 110;refine HC.out.mono ?_;rintro e W1 ⟨rfl,s1,t1⟩
       (
        obtain ⟨hx1,st1⟩:=Kc4 3 hq t1 s1
        have c0:=Kab (o:=0) hx1.p3 rfl
        have HX:=yh (And.intro hx1 st1)
        have HN:=yh (Kby st1)
        rw [hr] at HN
        clear hx1 st1 s1 t1 HC))
    | (go_at_call 123;refine HN.out.mono ?_;rintro e W5 h5
       (
        obtain ⟨t5,hb5,x5,rfl,rfl,hstm⟩:=h5.some
        have hV5:=HX.out.1.step t5
        have HST:=yh (Kd0 (n:=x) (Kab (o:=1) hV5.p3 rfl) (Kav (o:=1) hV5.p3))
        have hVn : BX 74 W q #[.int .i64 0,.int .i64 0,.int .i64 0,.int .i64 0,.slice none 0 0,.slice none 0 0,.int .i64 0,.int .i64 0,.int .i64 0,.string ⟨#[]⟩,.slice none 0 0] W1.heap.size #[.int .i64 3,.int .i64 x,.int .i64 0,.int .i64 0,.slice none 0 0,.slice none 0 0,.int .i64 0,.int .i64 0,.int .i64 0,.string ⟨#[]⟩,.slice none 0 0] (W5.setCell ⟨W1.heap.size,1,none⟩ (.int .i64 x)):=by simpa using hV5.set 1 (.int .i64 x)
        have hstn:=hV5.setR hstm 1 (.int .i64 x)
        obtain ⟨f1,f2,f3,f4,f5,f6,f7⟩:=hVn.fin Kb6 rfl rfl (by simp [Value.oneCell']) hstn
        have HL5:=yh f1
        have HS4:=yh f2
        have HLD:=yh f3
        have HF:=yh (And.intro f4 (And.intro f5 (And.intro f6 (cown_flat ((W5.setCell ⟨W1.heap.size,1,none⟩ (.int .i64 x)).setRow W.heap.size #[.int .i64 3,.int .i64 x,.int .i64 0,.int .i64 0,.slice none 0 0,.slice none 0 0,.int .i64 0,.int .i64 0,.int .i64 0,.string ⟨#[]⟩,.slice none 0 0]) (fun b=>W.heap.size ≤ b) 3 x 0))))
        clear f1 f2 f3 f4 f5 f6 f7
        clear h5 t5 hb5 hstm hV5 hVn hstn HN))
    | ((with_reducible apply Kae);exact HST.out;exact rfl;exact rfl;clear HST)
    | ((with_reducible apply Kal);exact HL5.out;exact rfl)
    | ((with_reducible apply Kae);exact HS4.out;exact rfl;exact rfl))
   refine bodyPost_ret (Kan rfl _ _ ⟨W.heap.size,0,none⟩ _ rfl HLD.out) rfl ?_
   exact Reads.of HE.out ⟨HF.out.2.1,HF.out.2.2.1,_,rfl,⟨_,rfl,HF.out.2.2.2⟩,HF.out.1⟩
theorem rchange_next {w W : World} {q : Nat} {l : List UInt8} (h : RSt 141 w W q l) (hl : l.length ≤ 1000000) (hlp : 0 < l.length) {c : Nat} (hc0 : (l[0]).toNat = c) (hc : c = 4) :
 Calls Tryz.prog 82 #[.pointer (some ⟨q,0,none⟩)] W (Reads w W q (Kbc l) (Kem W)):=by
 have hb:=Kac (w:=W) (.cells #[.int .i64 0,.int .i64 0,.int .i64 0,.int .i64 0,.slice none 0 0,.slice none 0 0,.int .i64 0,.int .i64 0,.int .i64 0,.string ⟨#[]⟩,.slice none 0 0] 74)
 have hq:=h.lt
 have hcons:=Kc1 hlp
 have hc256:=(l[0]).toNat_lt
 have HC:=yh (Kcw (h.below hb) hlp)
 rw [hc0] at hcons hc256 HC
 have hrl : (l.drop 1).length ≤ 1000000:=by rw [List.length_drop];omega
 generalize l.drop 1 = r at *
 subst hc;rw [if_neg (by decide),if_neg (by decide),if_neg (by decide),if_pos rfl] at hcons
 clear hb h hc0
 cases hr : Kbt r with
 | none =>
   have HE:=yh (hcons.trans (show _ = none by rw [seq_n1 hr];rfl))
   clear hcons
   go_enter Tryz.func82,Tryz.ntmps82
   go_wp2_with (first
    | (go_at_call 110;refine HC.out.mono ?_;rintro e W1 ⟨rfl,s1,t1⟩
       (
        obtain ⟨hx1,st1⟩:=Kc4 4 hq t1 s1
        have c0:=Kab (o:=0) hx1.p3 rfl
        have HX:=yh (And.intro hx1 st1)
        have HN:=yh (Kby st1)
        rw [hr] at HN
        clear hx1 st1 s1 t1 HC))
    | (go_at_call 123;refine HN.out.mono ?_;rintro e W5 h5;obtain ⟨t5,hb5,rfl⟩:=h5.none;have H5:=yh (And.intro t5 hb5);clear h5 t5 hb5))
   exact ⟨rfl,Reads.of HE.out ⟨HX.out.1.tr.trans H5.out.1,H5.out.2,rfl⟩⟩
 | some p =>
   obtain ⟨x,s0⟩:=p
   cases hr2 : Kbt s0 with
   | none =>
     have HE:=yh (hcons.trans (show _ = none by rw [Kda hr hr2];rfl))
     clear hcons
     go_enter Tryz.func82,Tryz.ntmps82
     go_wp2_with (first
      | (go_at_call 110;refine HC.out.mono ?_;rintro e W1 ⟨rfl,s1,t1⟩
         (
          obtain ⟨hx1,st1⟩:=Kc4 4 hq t1 s1
          have c0:=Kab (o:=0) hx1.p3 rfl
          have HX:=yh (And.intro hx1 st1)
          have HN:=yh (Kby st1)
          rw [hr] at HN
          clear hx1 st1 s1 t1 HC))
      | (go_at_call 123;first
         | (refine HN2.out.mono ?_;rintro e W7 h7;obtain ⟨t7,hb7,rfl⟩:=h7.none;have H7:=yh (And.intro t7 hb7);clear h7 t7 hb7)
         | (refine HN.out.mono ?_;rintro e W5 h5
            (
             obtain ⟨t5,hb5,x5,rfl,rfl,hstm⟩:=h5.some
             have hV5:=HX.out.1.step t5
             have HST:=yh (Kd0 (n:=x) (Kab (o:=1) hV5.p3 rfl) (Kav (o:=1) hV5.p3))
             have hV6 : BX 74 W q #[.int .i64 0,.int .i64 0,.int .i64 0,.int .i64 0,.slice none 0 0,.slice none 0 0,.int .i64 0,.int .i64 0,.int .i64 0,.string ⟨#[]⟩,.slice none 0 0] W1.heap.size #[.int .i64 4,.int .i64 x,.int .i64 0,.int .i64 0,.slice none 0 0,.slice none 0 0,.int .i64 0,.int .i64 0,.int .i64 0,.string ⟨#[]⟩,.slice none 0 0] (W5.setCell ⟨W1.heap.size,1,none⟩ (.int .i64 x)):=by simpa using hV5.set 1 (.int .i64 x)
             have hst6:=hV5.setR hstm 1 (.int .i64 x)
             have HN2:=yh (Kby hst6)
             rw [hr2] at HN2
             have HX6:=yh hV6
             clear h5 t5 hb5 hstm hV5 hV6 hst6 HN
             ))
         )
      | ((with_reducible apply Kae);exact HST.out;exact rfl;exact rfl;clear HST))
     exact ⟨rfl,Reads.of HE.out ⟨HX6.out.tr.trans H7.out.1,H7.out.2,rfl⟩⟩
   | some p2 =>
     obtain ⟨y,s⟩:=p2
     have HE:=yh (hcons.trans (show _ = some (⟨4,x,y,node0,rel0⟩,s) by rw [seq_s hr hr2];rfl))
     clear hcons
     go_enter Tryz.func82,Tryz.ntmps82
     go_wp2_with (first
      | (go_at_call 110;refine HC.out.mono ?_;rintro e W1 ⟨rfl,s1,t1⟩
         (
          obtain ⟨hx1,st1⟩:=Kc4 4 hq t1 s1
          have c0:=Kab (o:=0) hx1.p3 rfl
          have HX:=yh (And.intro hx1 st1)
          have HN:=yh (Kby st1)
          rw [hr] at HN
          clear hx1 st1 s1 t1 HC))
      | (go_at_call 123;first
         | (refine HN2.out.mono ?_;rintro e W7 h7
            (
             obtain ⟨t7,hb7,x7,rfl,rfl,hstm⟩:=h7.some
             have hV7:=HX6.out.step t7
             have HST2:=yh (Kd0 (n:=y) (Kab (o:=2) hV7.p3 rfl) (Kav (o:=2) hV7.p3))
             have hVn : BX 74 W q #[.int .i64 0,.int .i64 0,.int .i64 0,.int .i64 0,.slice none 0 0,.slice none 0 0,.int .i64 0,.int .i64 0,.int .i64 0,.string ⟨#[]⟩,.slice none 0 0] W1.heap.size #[.int .i64 4,.int .i64 x,.int .i64 y,.int .i64 0,.slice none 0 0,.slice none 0 0,.int .i64 0,.int .i64 0,.int .i64 0,.string ⟨#[]⟩,.slice none 0 0] (W7.setCell ⟨W1.heap.size,2,none⟩ (.int .i64 y)):=by simpa using hV7.set 2 (.int .i64 y)
             have hstn:=hV7.setR hstm 2 (.int .i64 y)
             obtain ⟨f1,f2,f3,f4,f5,f6,f7⟩:=hVn.fin Kb6 rfl rfl (by simp [Value.oneCell']) hstn
             have HL5:=yh f1
             have HS4:=yh f2
             have HLD:=yh f3
             have HF:=yh (And.intro f4 (And.intro f5 (And.intro f6 (cown_flat ((W7.setCell ⟨W1.heap.size,2,none⟩ (.int .i64 y)).setRow W.heap.size #[.int .i64 4,.int .i64 x,.int .i64 y,.int .i64 0,.slice none 0 0,.slice none 0 0,.int .i64 0,.int .i64 0,.int .i64 0,.string ⟨#[]⟩,.slice none 0 0]) (fun b=>W.heap.size ≤ b) 4 x y))))
             clear f1 f2 f3 f4 f5 f6 f7
             clear h7 t7 hb7 hstm hV7 hVn hstn HN2
             ))
         | (refine HN.out.mono ?_;rintro e W5 h5
            (
             obtain ⟨t5,hb5,x5,rfl,rfl,hstm⟩:=h5.some
             have hV5:=HX.out.1.step t5
             have HST:=yh (Kd0 (n:=x) (Kab (o:=1) hV5.p3 rfl) (Kav (o:=1) hV5.p3))
             have hV6 : BX 74 W q #[.int .i64 0,.int .i64 0,.int .i64 0,.int .i64 0,.slice none 0 0,.slice none 0 0,.int .i64 0,.int .i64 0,.int .i64 0,.string ⟨#[]⟩,.slice none 0 0] W1.heap.size #[.int .i64 4,.int .i64 x,.int .i64 0,.int .i64 0,.slice none 0 0,.slice none 0 0,.int .i64 0,.int .i64 0,.int .i64 0,.string ⟨#[]⟩,.slice none 0 0] (W5.setCell ⟨W1.heap.size,1,none⟩ (.int .i64 x)):=by simpa using hV5.set 1 (.int .i64 x)
             have hst6:=hV5.setR hstm 1 (.int .i64 x)
             have HN2:=yh (Kby hst6)
             rw [hr2] at HN2
             have HX6:=yh hV6
             clear h5 t5 hb5 hstm hV5 hV6 hst6 HN
             ))
         )
      | ((with_reducible apply Kae);exact HST.out;exact rfl;exact rfl;clear HST)
      | ((with_reducible apply Kae);exact HST2.out;exact rfl;exact rfl;clear HST2)
      | ((with_reducible apply Kal);exact HL5.out;exact rfl)
      | ((with_reducible apply Kae);exact HS4.out;exact rfl;exact rfl))
     refine bodyPost_ret (Kan rfl _ _ ⟨W.heap.size,0,none⟩ _ rfl HLD.out) rfl ?_
     exact Reads.of HE.out ⟨HF.out.2.1,HF.out.2.2.1,_,rfl,⟨_,rfl,HF.out.2.2.2⟩,HF.out.1⟩
theorem rchange_bad {w W : World} {q : Nat} {l : List UInt8} (h : RSt 141 w W q l) (hl : l.length ≤ 1000000) (hlp : 0 < l.length) {c : Nat} (hc0 : (l[0]).toNat = c) (hc : 5 ≤ c) :
 Calls Tryz.prog 82 #[.pointer (some ⟨q,0,none⟩)] W (Reads w W q (Kbc l) (Kem W)):=by
 have hb:=Kac (w:=W) (.cells #[.int .i64 0,.int .i64 0,.int .i64 0,.int .i64 0,.slice none 0 0,.slice none 0 0,.int .i64 0,.int .i64 0,.int .i64 0,.string ⟨#[]⟩,.slice none 0 0] 74)
 have hq:=h.lt
 have hcons:=Kc1 hlp
 have hc256:=(l[0]).toNat_lt
 have HC:=yh (Kcw (h.below hb) hlp)
 rw [hc0] at hcons hc256 HC
 have hrl : (l.drop 1).length ≤ 1000000:=by rw [List.length_drop];omega
 generalize l.drop 1 = r at *
 rw [if_neg (by omega),if_neg (by omega),if_neg (by omega),if_neg (by omega)] at hcons
 have k0 : ((c : Int) == 0) = false:=by rw [beq_eq_false_iff_ne];omega
 have k1 : ((c : Int) == 1) = false:=by rw [beq_eq_false_iff_ne];omega
 have k2 : ((c : Int) == 2) = false:=by rw [beq_eq_false_iff_ne];omega
 have k3 : ((c : Int) == 3) = false:=by rw [beq_eq_false_iff_ne];omega
 have k4 : ((c : Int) == 4) = false:=by rw [beq_eq_false_iff_ne];omega
 clear hb h hc0
 have HE:=yh hcons
 clear hcons
 go_enter Tryz.func82,Tryz.ntmps82
 ·go_wp2_with (first
   | (go_at_call 105;refine (Ka8 _).mono ?_;rintro e W2 ⟨rfl,rfl⟩)
   | (go_at_call 110;refine HC.out.mono ?_;rintro e W1 ⟨rfl,s1,t1⟩
      (
       obtain ⟨hx1,st1⟩:=Kc4 (c : Int) hq t1 s1
       have c0:=Kab (o:=0) hx1.p3 rfl
       have HX:=yh (And.intro hx1 st1)
       clear hx1 st1 s1 t1 HC)))
  exact ⟨rfl,Reads.of HE.out ⟨HX.out.1.tr,HX.out.2.b,rfl⟩⟩
theorem rchange_end {w W : World} {q : Nat} (h : RSt 141 w W q []) :
 Calls Tryz.prog 82 #[.pointer (some ⟨q,0,none⟩)] W (Reads w W q (Kbc []) (Kem W)):=by
 have hb:=Kac (w:=W) (.cells #[.int .i64 0,.int .i64 0,.int .i64 0,.int .i64 0,.slice none 0 0,.slice none 0 0,.int .i64 0,.int .i64 0,.int .i64 0,.string ⟨#[]⟩,.slice none 0 0] 74)
 have HC:=yh (byte_bad (h.below hb))
 have HB:=yh (And.intro hb (Kaa h.b hb))
 have HE:=yh (show Kbc [] = none by rw [Kbc])
 clear hb h
 go_enter Tryz.func82,Tryz.ntmps82
 go_wp2_with (go_at_call 110;refine HC.out.mono ?_;rintro e W1 ⟨rfl,rfl⟩)
 exact ⟨rfl,Reads.of HE.out ⟨RTo.of_below HB.out.1,HB.out.2,rfl⟩⟩
theorem rchange_any {w W : World} {q : Nat} {l : List UInt8} (h : RSt 141 w W q l) (hl : l.length ≤ 1000000) :
 Calls Tryz.prog 82 #[.pointer (some ⟨q,0,none⟩)] W (Reads w W q (Kbc l) (Kem W)):=by
 by_cases hlp : 0 < l.length
 ·have hc : (l[0]).toNat = 0 ∨ (l[0]).toNat = 1 ∨ (l[0]).toNat = 2 ∨ (l[0]).toNat = 3 ∨ (l[0]).toNat = 4 ∨ 5 ≤ (l[0]).toNat:=by omega
  rcases hc with hc | hc | hc | hc | hc | hc
  ·exact rchange_node h hl hlp hc rfl
  ·exact rchange_rel h hl hlp hc rfl
  ·exact rchange_dn h hl hlp hc rfl
  ·exact rchange_dr h hl hlp hc rfl
  ·exact rchange_next h hl hlp hc rfl
  ·exact rchange_bad h hl hlp rfl hc
 ·obtain rfl : l = []:=List.eq_nil_of_length_eq_zero (by omega)
  exact rchange_end h
theorem rrowsR_any {α : Type} {E : World → (Nat → Prop) → α → Array Value → Prop} (hE : EL E 5) (d : Dec α) {w W : World} {q : Nat} {l : List UInt8} {kv0 : Value} (hl : l.length ≤ 1000000)
 (h : RSt 141 w W q l) (J : List α → World → Value → Prop) (Jx : World → Prop) (hJ : KeepJ w W q J) (hx : ∀ m W' kv,J m W' kv → Jx W') (h0 : J [] W kv0)
 (one : ∀ m W1 kv l',J m W1 kv → W.heap.size ≤ W1.heap.size → RSt 141 w W1 q l' → l'.length ≤ 1000000 → m.length ≤ 1000000 → Calls Tryz.prog 54 #[.pointer (some ⟨q,0,none⟩)] W1 fun e W2=>match d l' with
   | some (x,s)=>∃ cs kv',e = .returned (.agg cs) ∧ ROne 141 E w W q J m W1 kv x s cs kv' W2 ∧ s.length ≤ l'.length
   | none=>e = given ∧ Jx W2 ∧ Below w.heap.size w W2) :
 Calls Tryz.prog 53 #[.pointer (some ⟨q,0,none⟩),.func (.func 54) #[.pointer (some ⟨q,0,none⟩)] #[]] W (RPost 141 E 72 5 w W q J Jx l.length (Ka2 d l)):=by
 have hqW:=h.lt
 have HN:=yh (Ka0 h)
 have HO:=yh one
 have HJ:=yh hJ
 have HX:=yh hx
 have H0:=yh h0
 clear one hJ hx h0 h
 cases hr : rdN 0 0 l with
 | none =>
   rw [hr] at HN
   clear HO
   go_enter Tryz.func53,Tryz.ntmps53
   go_wp2_with (go_at_call 55;refine HN.out.mono ?_;rintro e W1 h1;obtain ⟨t1,hb1,rfl⟩:=h1.none;have H1:=yh (And.intro t1 hb1);clear h1 t1 hb1)
   exact ⟨rfl,RPost.of_none (Kc6 hr) ⟨HX.out _ _ _ (HJ.out.keep H0.out H1.out.1.size H1.out.2 (fun b hb hq _=>H1.out.1.keep b hb hq)),H1.out.2⟩⟩
 | some p =>
   obtain ⟨n,r⟩:=p
   rw [hr] at HN
   have hn:=Keh hr
   have hrl : r.length ≤ l.length:=by
    obtain ⟨h1,_⟩:=Kcu.sound _ _ _ hr
    rw [h1,List.length_append];omega
   have z1 : (n : Int) < 18446744073709551616:=by omega
   have z2 : (r.length : Int) ≤ 1000000:=by omega
   by_cases hnr : n ≤ r.length
   ·have HRO:=yh (Ked (d:=d) hr hnr)
    have g1 : (n : Int) ≤ (r.length : Int):=by omega
    go_enter Tryz.func53,Tryz.ntmps53
    go_wp2_with (first
     | (go_at_call 55;refine HN.out.mono ?_;rintro e W1 h1
        (
         obtain ⟨t1,hb1,v1,rfl,rfl,s1⟩:=h1.some
         obtain ⟨p1,c1,hbx,_⟩:=s1.box
         have hcq:=Kab (o:=0) hbx rfl
         have H1:=yh (And.intro t1 (And.intro hb1 s1))
         clear h1 s1 t1 hb1 hbx))
     | (go_at_call 105;refine (Kax _).mono ?_;rintro e W2 ⟨rfl,rfl⟩))
    go_loopw [6,21] (fun ov i wr=>∃ (m : List α) (a : Option Addr) (n1 c1 : Nat),m.length ≤ n ∧ i = .int .u64 (m.length : Int) ∧ ov = .slice a n1 c1 ∧ Hid (∃ kv l',RInv 141 E 72 5 w W q J m wr kv (.slice a n1 c1) l' ∧ RepAt d n r m l' ∧ l'.length ≤ r.length)) (fun _ i _=>n - (intOf i).toNat)
    case atStart=>exact ⟨[],none,0,0,Nat.zero_le _,rfl,rfl,yh ⟨kv0,r,⟨H1.out.2.2,HJ.out.keep H0.out H1.out.1.size H1.out.2.1 (fun b hb hq _=>H1.out.1.keep b hb hq),GIn.start,H1.out.1.size,hqW⟩,RepAt.start _ _ _,Nat.le_refl _⟩⟩
    case round =>
     obtain ⟨m,a,n1,c1,hm,rfl,rfl,HI⟩:=hrel
     obtain ⟨kv,l',hinv,hrep,hll⟩:=HI.out
     clear HI H1 HN H0 hcq
     by_cases hlt : m.length < n
     ·have g2 : (m.length : Int) < (n : Int):=by omega
      have hone:=HO.out m wr kv l' hinv.j hinv.size hinv.st (by omega) (by omega)
      cases hd : d l' with
      | none =>
        rw [hd] at hone
        have hfail:=hrep.fail hlt hd
        have HC:=yh hone
        have HFL:=yh (HRO.out.trans hfail)
        clear hone hinv hrep hfail
        go_wp2_with (go_at_call 54;refine HC.out.mono ?_;rintro e W2 ⟨rfl,hg,hbw⟩;have HG:=yh (And.intro hg hbw);clear hg hbw HC)
        exact ⟨rfl,RPost.of_none HFL.out HG.out⟩
      | some p =>
        obtain ⟨x,s⟩:=p
        rw [hd] at hone
        have hstep:=hrep.step hlt hd
        have HC:=yh hone
        have HV:=yh (And.intro hinv hstep)
        have hlt1 : m.length + 1 ≤ n:=hlt
        have hm1 : m.length ≤ 1000000:=by omega
        clear hone hinv hrep hstep
        go_wp2_with (first
         | (go_at_call 54;refine HC.out.mono ?_;rintro e W2 ⟨cs,kv2,rfl,hone,hsl⟩
            (
             have hs:=hE.size hone.it
             have hones:=hE.ones hone.it
             have hbs:=Kap (P:=Tryz.prog) (w:=W2.alloc (.cells cs 72)) (v:=.agg cs) Tryz.underlying23 Tryz.sizeOf72 Tryz.zeroValue72 hs (by omega) (by omega)
             obtain ⟨v4,W4,ha,hinv4⟩:=HV.out.1.step hE gt_rel HJ.out hone hm1 23 (Kac (w:=W2) (.cells cs 72))
             obtain ⟨a4,n4,c4,rfl⟩ : ∃ a4 n4 c4,v4 = .slice a4 n4 c4:=by obtain ⟨p,c,e⟩:=hinv4.row.slice;exact ⟨_,_,_,e⟩
             have HS:=yh (StT.fresh Kcf hs hones (W:=W2))
             have HL:=yh (StT.get Kcf hs (heap_alloc_new W2 (.cells cs 72)))
             have HB:=yh hbs
             have HA:=yh ha
             have HR:=yh (And.intro hinv4 (show s.length ≤ r.length by omega))
             clear hs hones hbs ha hinv4
             clear hone HC))
         | ((with_reducible apply Kae);exact HS.out _ rfl;exact rfl;exact rfl;clear HS)
         | ((with_reducible apply Kal);exact HL.out;exact rfl;clear HL)
         | ((with_reducible apply op_bs1);exact HB.out;exact rfl;clear HB)
         | ((with_reducible apply Kcv);exact HA.out;exact rfl;exact rfl))
        go_roundw
        case rel=>exact ⟨m ++ [x],a4,n4,c4,by rw [List.length_append];exact hlt1,by rw [List.length_append];go_num,rfl,yh ⟨kv2,s,HR.out.1,HV.out.2,HR.out.2⟩⟩
        case measure=>simp [intOf];omega
     ·have hme : m.length = n:=by omega
      have g2 : ¬ ((m.length : Int) < (n : Int)):=by omega
      have hdone:=hrep.done hme
      have HD:=yh (HRO.out.trans hdone)
      have HF:=yh (And.intro hinv (show l'.length ≤ l.length by omega))
      clear hinv hrep hdone
      go_wp2
      go_ret
      exact RPost.of_some HD.out HF.out.1 HF.out.2
   ·have HRO:=yh (Kct (d:=d) hr hnr)
    have g1 : ¬ ((n : Int) ≤ (r.length : Int)):=by omega
    clear HO
    go_enter Tryz.func53,Tryz.ntmps53
    go_wp2_with (first
     | (go_at_call 55;refine HN.out.mono ?_;rintro e W1 h1
        (
         obtain ⟨t1,hb1,v1,rfl,rfl,s1⟩:=h1.some
         obtain ⟨p1,c1,hbx,_⟩:=s1.box
         have hcq:=Kab (o:=0) hbx rfl
         have H1:=yh (And.intro t1 hb1)
         clear h1 s1 t1 hb1 hbx))
     | (go_at_call 105;refine (Ka8 _).mono ?_;rintro e W2 ⟨rfl,rfl⟩))
    exact ⟨rfl,RPost.of_none HRO.out ⟨HX.out _ _ _ (HJ.out.keep H0.out H1.out.1.size H1.out.2 (fun b hb hq _=>H1.out.1.keep b hb hq)),H1.out.2⟩⟩
theorem Ker {α : Type} {E : World → (Nat → Prop) → α → Array Value → Prop} (hE : EL E 5) (d : Dec α) {w W : World} {q : Nat} {l : List UInt8} (hl : l.length ≤ 1000000)
 (h : RSt 141 w W q l)
 (one : ∀ W1 l',RSt 141 w W1 q l' → l'.length ≤ 1000000 → Calls Tryz.prog 54 #[.pointer (some ⟨q,0,none⟩)] W1 (Reads w W1 q (d l') fun x v W2=>∃ cs,v = .agg cs ∧ E W2 (fun b=>W1.heap.size ≤ b) x cs))
 (hsh : ∀ l' x s,d l' = some (x,s) → s.length ≤ l'.length) :
 Calls Tryz.prog 53 #[.pointer (some ⟨q,0,none⟩),.func (.func 54) #[.pointer (some ⟨q,0,none⟩)] #[]] W (Reads w W q (Ka2 d l) fun xs v W'=>GOwn E 72 5 W' (fun b=>W.heap.size ≤ b) v xs):=by
 have hq:=h.lt
 refine (rrowsR_any hE d (kv0:=.slice none 0 0) hl h (fun _ W' kv=>RTo q W W' ∧ kv = .slice none 0 0) (fun W'=>RTo q W W') ⟨?_,?_⟩ (fun m W' kv hj=>hj.1) ⟨RTo.refl _ _,rfl⟩ ?_).mono ?_
 ·rintro m W1 W2 kv ⟨h1,rfl⟩ h2 h3 h4
  exact ⟨⟨by have:=h1.size;omega,fun b hb hqb=>(h4 b (by have:=h1.size;omega) hqb (.inl hb)).trans (h1.keep b hb hqb)⟩,rfl⟩
 ·rintro m W1 kv ⟨h1,rfl⟩ b hb
  simp [Value.ownBlock] at hb
 ·rintro m W1 kv l' ⟨h1,rfl⟩ hsz h2 h3 _
  refine (one W1 l' h2 h3).mono ?_
  intro e W2 hr
  cases hd : d l' with
  | none =>
    rw [hd] at hr
    obtain ⟨t,hb,he⟩:=hr.none
    exact ⟨he,h1.trans t,hb⟩
  | some p =>
    obtain ⟨x,s⟩:=p
    rw [hd] at hr
    obtain ⟨t,hb,v,he,⟨cs,rfl,hit⟩,hst⟩:=hr.some
    exact ⟨cs,.slice none 0 0,he,⟨t.size,fun b hb hqb _ _=>t.keep b hb hqb,hE.imp (fun b _ hp=>⟨hp,by simp [Value.ownBlock]⟩) hit,hst,⟨h1.trans t,rfl⟩,.inl rfl⟩,hsh _ _ _ hd⟩
 ·intro e W' hr
  rcases hr.cases with ⟨h1,rfl,h2,h3⟩ | ⟨xs,s,v,kv,h1,rfl,hi,_⟩
  ·rw [h1]
   exact ⟨h2,h3,rfl⟩
  ·rw [h1]
   exact ⟨hi.j.1,hi.st.b,v,rfl,(hi.row.own hE).imp hE fun b _ hp=>hp.1,hi.st⟩
theorem rrowsC_any {α : Type} {E : World → (Nat → Prop) → α → Array Value → Prop} (hE : EL E 11) (d : Dec α) {w W : World} {q : Nat} {l : List UInt8} {kv0 : Value} (hl : l.length ≤ 1000000)
 (h : RSt 141 w W q l) (J : List α → World → Value → Prop) (Jx : World → Prop) (hJ : KeepJ w W q J) (hx : ∀ m W' kv,J m W' kv → Jx W') (h0 : J [] W kv0)
 (one : ∀ m W1 kv l',J m W1 kv → W.heap.size ≤ W1.heap.size → RSt 141 w W1 q l' → l'.length ≤ 1000000 → m.length ≤ 1000000 → Calls Tryz.prog 82 #[.pointer (some ⟨q,0,none⟩)] W1 fun e W2=>match d l' with
   | some (x,s)=>∃ cs kv',e = .returned (.agg cs) ∧ ROne 141 E w W q J m W1 kv x s cs kv' W2 ∧ s.length ≤ l'.length
   | none=>e = given ∧ Jx W2 ∧ Below w.heap.size w W2) :
 Calls Tryz.prog 81 #[.pointer (some ⟨q,0,none⟩),.func (.func 82) #[.pointer (some ⟨q,0,none⟩)] #[]] W (RPost 141 E 74 11 w W q J Jx l.length (Ka2 d l)):=by
 have hqW:=h.lt
 have HN:=yh (Ka0 h)
 have HO:=yh one
 have HJ:=yh hJ
 have HX:=yh hx
 have H0:=yh h0
 clear one hJ hx h0 h
 cases hr : rdN 0 0 l with
 | none =>
   rw [hr] at HN
   clear HO
   go_enter Tryz.func81,Tryz.ntmps81
   go_wp2_with (go_at_call 55;refine HN.out.mono ?_;rintro e W1 h1;obtain ⟨t1,hb1,rfl⟩:=h1.none;have H1:=yh (And.intro t1 hb1);clear h1 t1 hb1)
   exact ⟨rfl,RPost.of_none (Kc6 hr) ⟨HX.out _ _ _ (HJ.out.keep H0.out H1.out.1.size H1.out.2 (fun b hb hq _=>H1.out.1.keep b hb hq)),H1.out.2⟩⟩
 | some p =>
   obtain ⟨n,r⟩:=p
   rw [hr] at HN
   have hn:=Keh hr
   have hrl : r.length ≤ l.length:=by
    obtain ⟨h1,_⟩:=Kcu.sound _ _ _ hr
    rw [h1,List.length_append];omega
   have z1 : (n : Int) < 18446744073709551616:=by omega
   have z2 : (r.length : Int) ≤ 1000000:=by omega
   by_cases hnr : n ≤ r.length
   ·have HRO:=yh (Ked (d:=d) hr hnr)
    have g1 : (n : Int) ≤ (r.length : Int):=by omega
    go_enter Tryz.func81,Tryz.ntmps81
    go_wp2_with (first
     | (go_at_call 55;refine HN.out.mono ?_;rintro e W1 h1
        (
         obtain ⟨t1,hb1,v1,rfl,rfl,s1⟩:=h1.some
         obtain ⟨p1,c1,hbx,_⟩:=s1.box
         have hcq:=Kab (o:=0) hbx rfl
         have H1:=yh (And.intro t1 (And.intro hb1 s1))
         clear h1 s1 t1 hb1 hbx))
     | (go_at_call 105;refine (Kax _).mono ?_;rintro e W2 ⟨rfl,rfl⟩))
    go_loopw [6,21] (fun ov i wr=>∃ (m : List α) (a : Option Addr) (n1 c1 : Nat),m.length ≤ n ∧ i = .int .u64 (m.length : Int) ∧ ov = .slice a n1 c1 ∧ Hid (∃ kv l',RInv 141 E 74 11 w W q J m wr kv (.slice a n1 c1) l' ∧ RepAt d n r m l' ∧ l'.length ≤ r.length)) (fun _ i _=>n - (intOf i).toNat)
    case atStart=>exact ⟨[],none,0,0,Nat.zero_le _,rfl,rfl,yh ⟨kv0,r,⟨H1.out.2.2,HJ.out.keep H0.out H1.out.1.size H1.out.2.1 (fun b hb hq _=>H1.out.1.keep b hb hq),GIn.start,H1.out.1.size,hqW⟩,RepAt.start _ _ _,Nat.le_refl _⟩⟩
    case round =>
     obtain ⟨m,a,n1,c1,hm,rfl,rfl,HI⟩:=hrel
     obtain ⟨kv,l',hinv,hrep,hll⟩:=HI.out
     clear HI H1 HN H0 hcq
     by_cases hlt : m.length < n
     ·have g2 : (m.length : Int) < (n : Int):=by omega
      have hone:=HO.out m wr kv l' hinv.j hinv.size hinv.st (by omega) (by omega)
      cases hd : d l' with
      | none =>
        rw [hd] at hone
        have hfail:=hrep.fail hlt hd
        have HC:=yh hone
        have HFL:=yh (HRO.out.trans hfail)
        clear hone hinv hrep hfail
        go_wp2_with (go_at_call 82;refine HC.out.mono ?_;rintro e W2 ⟨rfl,hg,hbw⟩;have HG:=yh (And.intro hg hbw);clear hg hbw HC)
        exact ⟨rfl,RPost.of_none HFL.out HG.out⟩
      | some p =>
        obtain ⟨x,s⟩:=p
        rw [hd] at hone
        have hstep:=hrep.step hlt hd
        have HC:=yh hone
        have HV:=yh (And.intro hinv hstep)
        have hlt1 : m.length + 1 ≤ n:=hlt
        have hm1 : m.length ≤ 1000000:=by omega
        clear hone hinv hrep hstep
        go_wp2_with (first
         | (go_at_call 82;refine HC.out.mono ?_;rintro e W2 ⟨cs,kv2,rfl,hone,hsl⟩
            (
             have hs:=hE.size hone.it
             have hones:=hE.ones hone.it
             have hbs:=Kap (P:=Tryz.prog) (w:=W2.alloc (.cells cs 74)) (v:=.agg cs) Tryz.underlying58 Tryz.sizeOf74 Tryz.zeroValue74 hs (by omega) (by omega)
             obtain ⟨v4,W4,ha,hinv4⟩:=HV.out.1.step hE gt_change HJ.out hone hm1 58 (Kac (w:=W2) (.cells cs 74))
             obtain ⟨a4,n4,c4,rfl⟩ : ∃ a4 n4 c4,v4 = .slice a4 n4 c4:=by obtain ⟨p,c,e⟩:=hinv4.row.slice;exact ⟨_,_,_,e⟩
             have HS:=yh (StT.fresh Kb6 hs hones (W:=W2))
             have HL:=yh (StT.get Kb6 hs (heap_alloc_new W2 (.cells cs 74)))
             have HB:=yh hbs
             have HA:=yh ha
             have HR:=yh (And.intro hinv4 (show s.length ≤ r.length by omega))
             clear hs hones hbs ha hinv4
             clear hone HC))
         | ((with_reducible apply Kae);exact HS.out _ rfl;exact rfl;exact rfl;clear HS)
         | ((with_reducible apply Kal);exact HL.out;exact rfl;clear HL)
         | ((with_reducible apply op_bs1);exact HB.out;exact rfl;clear HB)
         | ((with_reducible apply Kcv);exact HA.out;exact rfl;exact rfl))
        go_roundw
        case rel=>exact ⟨m ++ [x],a4,n4,c4,by rw [List.length_append];exact hlt1,by rw [List.length_append];go_num,rfl,yh ⟨kv2,s,HR.out.1,HV.out.2,HR.out.2⟩⟩
        case measure=>simp [intOf];omega
     ·have hme : m.length = n:=by omega
      have g2 : ¬ ((m.length : Int) < (n : Int)):=by omega
      have hdone:=hrep.done hme
      have HD:=yh (HRO.out.trans hdone)
      have HF:=yh (And.intro hinv (show l'.length ≤ l.length by omega))
      clear hinv hrep hdone
      go_wp2
      go_ret
      exact RPost.of_some HD.out HF.out.1 HF.out.2
   ·have HRO:=yh (Kct (d:=d) hr hnr)
    have g1 : ¬ ((n : Int) ≤ (r.length : Int)):=by omega
    clear HO
    go_enter Tryz.func81,Tryz.ntmps81
    go_wp2_with (first
     | (go_at_call 55;refine HN.out.mono ?_;rintro e W1 h1
        (
         obtain ⟨t1,hb1,v1,rfl,rfl,s1⟩:=h1.some
         obtain ⟨p1,c1,hbx,_⟩:=s1.box
         have hcq:=Kab (o:=0) hbx rfl
         have H1:=yh (And.intro t1 hb1)
         clear h1 s1 t1 hb1 hbx))
     | (go_at_call 105;refine (Ka8 _).mono ?_;rintro e W2 ⟨rfl,rfl⟩))
    exact ⟨rfl,RPost.of_none HRO.out ⟨HX.out _ _ _ (HJ.out.keep H0.out H1.out.1.size H1.out.2 (fun b hb hq _=>H1.out.1.keep b hb hq)),H1.out.2⟩⟩
theorem rrowsC_reads {α : Type} {E : World → (Nat → Prop) → α → Array Value → Prop} (hE : EL E 11) (d : Dec α) {w W : World} {q : Nat} {l : List UInt8} (hl : l.length ≤ 1000000)
 (h : RSt 141 w W q l)
 (one : ∀ W1 l',RSt 141 w W1 q l' → l'.length ≤ 1000000 → Calls Tryz.prog 82 #[.pointer (some ⟨q,0,none⟩)] W1 (Reads w W1 q (d l') fun x v W2=>∃ cs,v = .agg cs ∧ E W2 (fun b=>W1.heap.size ≤ b) x cs))
 (hsh : ∀ l' x s,d l' = some (x,s) → s.length ≤ l'.length) :
 Calls Tryz.prog 81 #[.pointer (some ⟨q,0,none⟩),.func (.func 82) #[.pointer (some ⟨q,0,none⟩)] #[]] W (Reads w W q (Ka2 d l) fun xs v W'=>GOwn E 74 11 W' (fun b=>W.heap.size ≤ b) v xs):=by
 have hq:=h.lt
 refine (rrowsC_any hE d (kv0:=.slice none 0 0) hl h (fun _ W' kv=>RTo q W W' ∧ kv = .slice none 0 0) (fun W'=>RTo q W W') ⟨?_,?_⟩ (fun m W' kv hj=>hj.1) ⟨RTo.refl _ _,rfl⟩ ?_).mono ?_
 ·rintro m W1 W2 kv ⟨h1,rfl⟩ h2 h3 h4
  exact ⟨⟨by have:=h1.size;omega,fun b hb hqb=>(h4 b (by have:=h1.size;omega) hqb (.inl hb)).trans (h1.keep b hb hqb)⟩,rfl⟩
 ·rintro m W1 kv ⟨h1,rfl⟩ b hb
  simp [Value.ownBlock] at hb
 ·rintro m W1 kv l' ⟨h1,rfl⟩ hsz h2 h3 _
  refine (one W1 l' h2 h3).mono ?_
  intro e W2 hr
  cases hd : d l' with
  | none =>
    rw [hd] at hr
    obtain ⟨t,hb,he⟩:=hr.none
    exact ⟨he,h1.trans t,hb⟩
  | some p =>
    obtain ⟨x,s⟩:=p
    rw [hd] at hr
    obtain ⟨t,hb,v,he,⟨cs,rfl,hit⟩,hst⟩:=hr.some
    exact ⟨cs,.slice none 0 0,he,⟨t.size,fun b hb hqb _ _=>t.keep b hb hqb,hE.imp (fun b _ hp=>⟨hp,by simp [Value.ownBlock]⟩) hit,hst,⟨h1.trans t,rfl⟩,.inl rfl⟩,hsh _ _ _ hd⟩
 ·intro e W' hr
  rcases hr.cases with ⟨h1,rfl,h2,h3⟩ | ⟨xs,s,v,kv,h1,rfl,hi,_⟩
  ·rw [h1]
   exact ⟨h2,h3,rfl⟩
  ·rw [h1]
   exact ⟨hi.j.1,hi.st.b,v,rfl,(hi.row.own hE).imp hE fun b _ hp=>hp.1,hi.st⟩
theorem exec_index {P : Program} {a : Act} {w w' : World} {o : Oper} {t : TypeId} {x y : Operand} {vx vy v : Value} (ho : o.op = .index t x y) (hx : a.eval x = vx) (hy : a.eval y = vy) (hr : (Instr.index t vx vy).run P w = .ok v w') :
 (execOp a.eval o).run P w = .ok (.value v) w':=by
 unfold execOp;rw [ho];simp only [hx,hy,Sem.run_bind,hr,Result.andThen_ok,Sem.run_pure]
def byteV (c : UInt8) : Value:=.int .u8 (c.toNat : Int)
theorem info_u8v : ∃ i,Tryz.prog.info? 5 = some i ∧ i.zero = some (.int .u8 0) ∧ i.size = 1 ∧ i.bytes = 1:=info_parts (by kernel_rfl)
structure Buf (w W : World) (o : Value) (l : List UInt8) : Prop where
 own : OwnsP W (fun b=>w.heap.size ≤ b) 5 1 o l.length (l.map byteV)
 b : Below w.heap.size w W
theorem Buf.below {w W W' : World} {o : Value} {l : List UInt8} (h : Buf w W o l) (g : Below W.heap.size W W') : Buf w W' o l:=⟨h.own.keep fun b _ hb=>g.block b hb,Kaa h.b g⟩
theorem Buf.start {w W : World} (hb : Below w.heap.size w W) {m : List UInt8} {cs : Array Value} (hc : cs.toList = m.map byteV) (hn : m.length ≤ 1000000) : Buf w (W.alloc (.cells cs 5)) (.slice (some ⟨W.heap.size,0,none⟩) m.length m.length) m:=by
 have hs : cs.size = m.length:=by have:=congrArg List.length hc;simpa using this
 refine ⟨⟨Kdi (heap_alloc_new W _) (Nat.le_refl _) (by unfold maxLen;omega) (by rw [hs];omega) ?_ (by simp),fun g hg=>by cases hg;exact hb.size⟩,Kaa hb (Kac _)⟩
 rw [Nat.mul_one,hc,List.take_of_length_le (by simp)]
theorem Buf.step {w W : World} {o : Value} {l : List UInt8} (h : Buf w W o l) {g : Nat} {m : List UInt8} {cs : Array Value} (hg : W.heap[g]? = some (.cells cs 5 (0,0))) (hc : cs.toList = m.map byteV) (hn : l.length + m.length ≤ 70368744177664) (ty : TypeId) :
 ∃ v W',(Builtin.append_ #[26,26] ty #[o,.slice (some ⟨g,0,none⟩) m.length m.length]).run Tryz.prog W = .ok v W' ∧ Buf w W' v (l ++ m):=by
 obtain ⟨i,i1,i2,i3,i4⟩:=info_u8v
 have hsz:=h.b.size
 obtain ⟨v',W',a1,a2,a3,a4,a5⟩:=Kdp (P:=Tryz.prog) (w:=W) 26 ty 5 i _ 1 1 Tryz.underlying26 i1 i2 i3 i4 rfl o l.length _ h.own.1 ⟨g,0,none⟩ m.length m.length (m.map byteV)
  (by simp) (fun j u hu=>by
    rw [Ka4,Nat.zero_add]
    refine Kab hg ?_
    rw [← hc] at hu;simpa using hu) (fun u hu=>by obtain ⟨s,_,rfl⟩:=List.mem_map.1 hu;rfl) (by unfold maxLen;omega) (by omega)
 refine ⟨v',W',a1,⟨?_,fun q hq=>?_⟩,?_⟩
 ·rw [List.length_append,List.map_append];exact a2
 ·rcases a4 with e | e
  ·exact h.own.2 q (e.symm.trans hq)
  ·rw [e] at hq;cases hq;exact hsz
 ·exact a3.below h.b (fun b hb e=>by have:=h.own.2 b e;omega) hsz
structure WS (T : TypeId) (w W : World) (q : Nat) (l : List UInt8) (o : Value) : Prop where
 b : Below w.heap.size w W
 base : w.heap.size ≤ q
 box : W.heap[q]? = some (.cells #[o] T (0,0))
 own : OwnsP W (fun b=>w.heap.size ≤ b ∧ b ≠ q) 5 1 o l.length (l.map byteV)
structure WTo (q : Nat) (o o' : Value) (W W' : World) : Prop where
 size : W.heap.size ≤ W'.heap.size
 keep : ∀ b,b < W.heap.size → b ≠ q → o.ownBlock ≠ some b → W'.heap[b]? = W.heap[b]?
 own : o'.ownBlock = o.ownBlock ∨ ∀ b,o'.ownBlock = some b → W.heap.size ≤ b
section
variable {T : TypeId} {w W W1 W' W'' : World} {q : Nat} {l m : List UInt8} {o o' o'' : Value}
theorem WTo.refl (q : Nat) (o : Value) (W : World) : WTo q o o W W:=⟨Nat.le_refl _,fun _ _ _ _=>rfl,.inl rfl⟩
theorem WTo.trans (h : WTo q o o' W W') (g : WTo q o' o'' W' W'') : WTo q o o'' W W'':=by
 refine ⟨Nat.le_trans h.size g.size,fun b hb hq ho=>?_,?_⟩
 ·refine (g.keep b (Nat.lt_of_lt_of_le hb h.size) hq fun e=>?_).trans (h.keep b hb hq ho)
  rcases h.own with h1 | h1
  ·rw [h1] at e;exact ho e
  ·have:=h1 b e;omega
 ·rcases g.own with g1 | g1
  ·rcases h.own with h1 | h1
   ·exact .inl (g1.trans h1)
   ·exact .inr fun b hb=>h1 b (g1 ▸ hb)
  ·exact .inr fun b hb=>Nat.le_trans h.size (g1 b hb)
theorem WTo.of_below (g : Below W.heap.size W W') : WTo q o o W W':=⟨g.size,fun b hb _ _=>g.block b hb,.inl rfl⟩
theorem WS.slice (h : WS T w W q l o) : ∃ p c,o = .slice p l.length c:=Kbx h.own
theorem WS.below (h : WS T w W q l o) (g : Below W.heap.size W W') : WS T w W' q l o:=⟨Kaa h.b g,h.base,Kai g (Array.getElem?_eq_some_iff.1 h.box).1 h.box,h.own.keep fun b _ hb=>g.block b hb⟩
theorem WS.lt (h : WS T w W q l o) : q < W.heap.size:=(Array.getElem?_eq_some_iff.1 h.box).1
theorem WS.le (h : WS T w W q l o) : w.heap.size ≤ W.heap.size:=h.b.size
theorem WS.start {W : World} (h : Below w.heap.size w W) (hq : W.heap[q]? = some (.cells #[.slice none 0 0] T (0,0))) (hb : w.heap.size ≤ q) : WS T w W q [] (.slice none 0 0) :=
 ⟨h,hb,hq,⟨⟨by simp,.inl ⟨rfl,rfl⟩⟩,fun g hg=>by simp [Value.ownBlock] at hg⟩⟩
theorem WS.other (h : WS T w W q l o) {k i : Nat} (hk : k ≠ q) (ho : o.ownBlock ≠ some k) (hb : w.heap.size ≤ k) (u : Value) : WS T w (W.setCell ⟨k,i,none⟩ u) q l o:=by
 have hs : ∀ b,b ≠ k → (W.setCell ⟨k,i,none⟩ u).heap[b]? = W.heap[b]?:=fun b hb=>Below.heap_setCell W ⟨k,i,none⟩ u b hb
 have hlt:=h.own.1.lt
 refine ⟨Kbh h.b hb u,h.base,(hs q (fun e=>hk e.symm)).trans h.box,⟨?_,h.own.2⟩⟩
 exact Kci h.own.1 fun g hg=>hs g fun e=>ho (e ▸ hg)
theorem WS.step (h : WS T w W q l o) (hb : Below W.heap.size W W1) {ad : Addr} {c : Nat} (src : ∀ (j : Nat) (u : Value),(m.map byteV)[j]? = some u → W1.cell? (ad.add j) = some u) (hn : l.length + m.length ≤ 70368744177664) (ty : TypeId) :
 ∃ p' c' W2,(Builtin.append_ #[26,26] ty #[o,.slice (some ad) m.length c]).run Tryz.prog W1 = .ok (.slice p' (l ++ m).length c') W2 ∧ W2.heap[q]? = some (.cells #[o] T (0,0)) ∧
  WS T w (W2.setCell ⟨q,0,none⟩ (.slice p' (l ++ m).length c')) q (l ++ m) (.slice p' (l ++ m).length c') ∧ WTo q o (.slice p' (l ++ m).length c') W (W2.setCell ⟨q,0,none⟩ (.slice p' (l ++ m).length c')) ∧ W1.heap.size ≤ W2.heap.size:=by
 have h1:=h.below hb
 obtain ⟨i,i1,i2,i3,i4⟩:=info_u8v
 have hsz:=h1.b.size
 obtain ⟨v',W2,a1,a2,a3,a4,a5⟩:=Kdp (P:=Tryz.prog) (w:=W1) 26 ty 5 i _ 1 1 Tryz.underlying26 i1 i2 i3 i4 rfl o l.length _ h1.own.1 ad m.length c (m.map byteV)
  (by simp) src (fun u hu=>by obtain ⟨s,_,rfl⟩:=List.mem_map.1 hu;rfl) (by unfold maxLen;omega) (by omega)
 have hOwn : OwnsP W2 (fun b=>w.heap.size ≤ b ∧ b ≠ q) 5 1 v' (l ++ m).length ((l ++ m).map byteV):=by
  refine ⟨by rw [List.length_append,List.map_append];exact a2,fun g hg=>?_⟩
  rcases a4 with e | e
  ·exact h1.own.2 g (e.symm.trans hg)
  ·rw [e] at hg;cases hg
   exact ⟨hsz,fun e=>by have:=h1.lt;omega⟩
 obtain ⟨p',c',rfl⟩:=Kbx hOwn
 have hq2 : W2.heap[q]? = some (.cells #[o] T (0,0)):=(a3.block q h1.lt fun e=>(h1.own.2 q e).2 rfl).trans h1.box
 have hB2 : Below w.heap.size w W2:=a3.below h1.b (fun b hb e=>by have:=(h1.own.2 b e).1;omega) hsz
 have hset : ∀ b,b ≠ q → (W2.setCell ⟨q,0,none⟩ (.slice p' (l ++ m).length c')).heap[b]? = W2.heap[b]?:=fun b hb=>Below.heap_setCell W2 ⟨q,0,none⟩ _ b hb
 refine ⟨p',c',W2,a1,hq2,⟨Kbh hB2 h.base _,h.base,?_,hOwn.keep fun b hb _=>hset b hb.2⟩,⟨?_,fun b hb1 hq ho=>?_,?_⟩,a5⟩
 ·have:=heap_setCell_same W2 q 0 #[o] T (.slice p' (l ++ m).length c') hq2
  exact this
 ·have : (W2.setCell ⟨q,0,none⟩ (.slice p' (l ++ m).length c')).heap.size = W2.heap.size:=by simp [World.setCell]
  have:=hb.size;omega
 ·rw [hset b hq,a3.block b (Nat.lt_of_lt_of_le hb1 hb.size) ho,hb.block b hb1]
 ·rcases a4 with e | e
  ·exact .inl e
  ·refine .inr fun b hb1=>?_
   rw [e] at hb1;cases hb1;exact hb.size
end
theorem or_byte (k : Nat) : (k ||| 128) % 256 = k % 128 + 128:=by
 have h : (k ||| 128) % 2 ^ 8 = k % 2 ^ 8 ||| 128 % 2 ^ 8:=Nat.or_mod_two_pow
 have e : (2 : Nat) ^ 8 = 256:=rfl
 rw [e] at h
 rw [h]
 have e2 : 128 % 256 = 128:=rfl
 rw [e2]
 have hy : k % 128 < 2 ^ 7:=Nat.mod_lt _ (by decide)
 have hj : 128 ||| k % 128 = 128 + k % 128:=nat_join 7 128 (k % 128) (by decide) hy
 have hx : k % 256 = k % 128 ∨ k % 256 = 128 + k % 128:=by omega
 rcases hx with hx | hx
 ·rw [hx,Nat.or_comm,hj];omega
 ·rw [hx,← hj,Nat.or_comm,← Nat.or_assoc,Nat.or_self,hj];omega
theorem bits_or128 {k : Nat} (h : k < 18446744073709551616) : bits .or .u64 (k : Int) 128 = ((k ||| 128 : Nat) : Int):=u64_or_nat k 128 h (by omega)
theorem byte_or128 {k : Nat} (h : k < 18446744073709551616) : ((UInt8.ofNat (k % 128 + 128)).toNat : Int) = IntKind.u8.wrap (bits .or .u64 (k : Int) 128):=by
 rw [bits_or128 h,Kcl (by omega),IntKind.wrap_u8']
 have:=or_byte k
 omega
theorem Buf.empty (w : World) : Buf w w (.slice none 0 0) []:=⟨⟨⟨by simp,.inl ⟨rfl,rfl⟩⟩,fun g hg=>by simp [Value.ownBlock] at hg⟩,Below.refl _ _⟩
theorem Buf.one {w W : World} {o : Value} {l : List UInt8} (h : Buf w W o l) (c : UInt8) (hn : l.length ≤ 1000000) (ty : TypeId) :
 ∃ v W',(Builtin.append_ #[26,26] ty #[o,.slice (some ⟨W.heap.size,0,none⟩) 1 1]).run Tryz.prog (W.alloc (.cells #[.int .u8 (c.toNat : Int)] 5)) = .ok v W' ∧ Buf w W' v (l ++ [c]):=by
 have h1:=h.below (Kac (.cells #[.int .u8 (c.toNat : Int)] 5))
 exact h1.step (m:=[c]) (heap_alloc_new W _) rfl (by simp;omega) ty
theorem cnumber_any {n : Nat} (hn : n < 18446744073709551616) (w : World) : Calls Tryz.prog 99 #[.int .u64 (n : Int)] w fun e w'=>∃ o,e = .returned o ∧ Buf w w' o (numB n):=by
 go_enter Tryz.func99,Tryz.ntmps99
 go_wp2
 go_loopw [0,3] (fun i o wr=>∃ (k : Nat) (pre : List UInt8),i = .int .u64 (k : Int) ∧ k < 18446744073709551616 ∧ pre ++ numB k = numB n ∧ Hid (Buf w wr o pre)) (fun i _ _=>(intOf i).toNat)
 case atStart=>exact ⟨n,[],rfl,hn,rfl,yh (Buf.empty w)⟩
 case round =>
  obtain ⟨k,pre,rfl,hk,hpre,HB⟩:=hrel
  have hlen : pre.length ≤ 1000000:=by
   have:=congrArg List.length hpre
   have:=numB_len 10 n (Nat.lt_of_lt_of_le hn (by decide)) (by omega)
   simp only [List.length_append] at *
   omega
  by_cases h : 128 ≤ k
  ·have h' : (128 : Int) ≤ (k : Int):=by omega
   obtain ⟨v,W',ha,hI⟩:=HB.out.one (UInt8.ofNat (k % 128 + 128)) hlen 26
   rw [byte_or128 hk] at ha
   have Ha:=yh ha
   have HI:=yh hI
   have HP:=yh hpre
   clear ha hI hpre hlen
   go_wp2_with (refine Kdf rfl rfl rfl rfl Ha.out ?_)
   go_roundw
   case rel=>exact ⟨k / 128,pre ++ [UInt8.ofNat (k % 128 + 128)],by simp,by omega,by rw [List.append_assoc,List.singleton_append,← Keu (by omega)];exact HP.out,HI⟩
   case measure=>simp [intOf];omega
  ·have h' : (k : Int) < 128:=by omega
   obtain ⟨v,W',ha,hI⟩:=HB.out.one (UInt8.ofNat k) hlen 26
   have e3 : ((UInt8.ofNat k).toNat : Int) = (k : Int):=by rw [Kcl (by omega)]
   rw [e3] at ha
   rw [← Kdj (by omega),hpre] at hI
   have Ha:=yh ha
   have HI:=yh hI
   clear ha hI hpre hlen
   go_wp2_with (refine Kdf rfl rfl rfl rfl Ha.out ?_)
   go_ret
   exact ⟨_,rfl,HI.out⟩
theorem textC_len {s : List UInt8} (h : s.length < 18446744073709551616) : (textC s).length ≤ 10 + s.length:=by
 unfold textC
 rw [List.length_append]
 have:=Kbu (n:=s.length) h
 omega
theorem flatC_len {α : Type} (e : α → List UInt8) (f : α → Nat) : ∀ l : List α,(∀ x ∈ l,(e x).length ≤ 64 * f x) → (l.flatMap e).length ≤ 64 * (l.map f).sum
 | [],_=>by simp
 | x :: l,h=>by
   have:=h x (by simp)
   have:=flatC_len e f l fun y hy=>h y (by simp [hy])
   simp only [List.map_cons,List.sum_cons,List.flatMap_cons,List.length_append]
   omega
theorem rowsC_len {α : Type} (e : α → List UInt8) (f : α → Nat) {l : List α} (hl : l.length < 18446744073709551616) (h : ∀ x ∈ l,(e x).length ≤ 64 * f x) : (rowsC e l).length ≤ 10 + 64 * (l.map f).sum:=by
 unfold rowsC
 rw [List.length_append]
 have:=Kbu (n:=l.length) hl
 have:=flatC_len e f l h
 omega
theorem kv_len : ∀ (ks : List (List UInt8)) (l : List V),(ks.map List.length).sum < 18446744073709551616 → (kvC ks l).length ≤ 10 * ks.length + (ks.map List.length).sum + (valsC l).length
 | _,[],_=>by simp [kvC,valsC]
 | [],a :: x,h=>by
   have:=kv_len [] x (by simp)
   rw [kvC,valsC,List.length_append,List.length_append]
   simp only [List.length_nil,List.map_nil,List.sum_nil] at this ⊢
   omega
 | s :: ks,a :: x,h=>by
   rw [List.map_cons,List.sum_cons] at h
   have:=kv_len ks x (by omega)
   have:=textC_len (s:=s) (by omega)
   rw [kvC,valsC,List.length_append,List.length_append,List.length_append,List.map_cons,List.sum_cons,List.length_cons]
   omega
theorem valC_len : ∀ v : V,rngV v → totV v < 1152921504606846976 → (valC v).length ≤ 64 * totV v:=by
 refine V.ind fun k b n t ks l ih=>?_
 intro hr ht
 have hl : ∀ m : List V,(∀ v ∈ m,v ∈ l) → (valsC m).length ≤ 64 * totVs m:=by
  intro m
  induction m with
  | nil=>intro _;simp [valsC]
  | cons a r ihr =>
    intro hm
    rw [valsC,Kdb,List.length_append]
    have h1:=ih a (hm a (by simp)) (rngVs_iff.1 (rngV_mk.1 hr).2 a (hm a (by simp))) (by
     rw [totV_mk] at ht
     have:=Ke3 (hm a (by simp));omega)
    have h2:=ihr fun v hv=>hm v (by simp [hv])
    omega
 have hl:=hl l fun v hv=>hv
 have hn:=(rngV_mk.1 hr).1
 rw [totV_mk] at ht ⊢
 have hc:=Kdy l
 have h1:=Kbu (n:=l.length) (by unfold u64T;omega)
 have h2:=Kbu (un_zz (n:=n) hn).1
 have h3:=Kbu (Kb8 (n:=n) hn).1
 have h4:=textC_len (s:=t) (by omega)
 have h5:=kv_len ks l (by omega)
 rw [valC,List.length_cons]
 repeat' split
 all_goals (try simp only [List.length_append,List.length_cons,List.length_nil])
 all_goals omega
theorem propC_len {p : PropD} (h : rngP p) (ht : totP p < 1152921504606846976) : (propC p).length ≤ 64 * totP p:=by
 unfold totP at *
 unfold propC
 have:=textC_len (s:=p.key) (by omega)
 have:=valC_len p.val h (by omega)
 rw [List.length_append]
 omega
theorem props_len {l : List PropD} (h : ∀ p ∈ l,rngP p) (ht : totPs l < 1152921504606846976) : (rowsC propC l).length ≤ 10 + 64 * totPs l:=by
 have h1 : l.length ≤ totPs l:=Kcb totP fun p _=>by unfold totP;omega
 exact rowsC_len propC totP (by omega) fun p hp=>propC_len (h p hp) (by have : totP p ≤ totPs l:=Kbb totP hp;omega)
theorem labels_len {l : List (List UInt8)} (ht : totLs l < 1152921504606846976) : (rowsC textC l).length ≤ 10 + 64 * totLs l:=by
 have h1 : l.length ≤ totLs l:=Kcb (fun s : List UInt8=>1 + s.length) fun p _=>by omega
 refine rowsC_len textC (fun s=>1 + s.length) (by omega) fun s hs=>?_
 have h2 : 1 + s.length ≤ totLs l:=Kbb (fun s : List UInt8=>1 + s.length) hs
 have:=textC_len (s:=s) (by omega)
 omega
theorem nodeC_len {n : NodeD} (h : rngN n) (ht : totN n < 1152921504606846976) : (nodeC n).length ≤ 64 * totN n:=by
 unfold totN at *
 unfold nodeC
 have:=Kbu (Kb8 (n:=n.id) h.1).1
 have:=labels_len (l:=n.labels) (by omega)
 have:=props_len (l:=n.props) h.2 (by omega)
 simp only [List.length_append]
 omega
theorem relC_len {n : RelD} (h : rngR n) (ht : totR n < 1152921504606846976) : (relC n).length ≤ 64 * totR n:=by
 unfold totR at *
 unfold relC
 have:=Kbu (Kb8 (n:=n.id) h.1).1
 have:=Kbu (Kb8 (n:=n.src) h.2.1).1
 have:=Kbu (Kb8 (n:=n.dst) h.2.2.1).1
 have:=textC_len (s:=n.type) (by omega)
 have:=props_len (l:=n.props) h.2.2.2 (by omega)
 simp only [List.length_append]
 omega
theorem changeC_len {c : ChangeD} (h : rngC c) (ht : totC c < 1152921504606846976) : (Ka9 c).length ≤ 64 * totC c:=by
 unfold totC at *
 unfold Ka9
 have:=nodeC_len h.2.2.2.1 (by omega)
 have:=relC_len h.2.2.2.2 (by omega)
 have:=Kbu (un_zz (n:=c.id) h.2.1).1
 have:=Kbu (un_zz (n:=c.other) h.2.2.1).1
 have h1 : 1 ≤ totN c.node:=by unfold totN;omega
 have h2 : 1 ≤ totR c.rel:=by unfold totR;omega
 rw [List.length_cons]
 repeat' split
 all_goals (try simp only [List.length_append])
 all_goals omega
theorem graphC_len {g : GraphD} (h : rngG g) (ht : totG g < 1152921504606846976) : (Kep g).length ≤ 40 + 64 * totG g:=by
 unfold totG at *
 unfold Kep
 have k1 : g.nodes.length ≤ (g.nodes.map totN).sum:=Kcb totN fun n _=>totN_pos n
 have k2 : g.rels.length ≤ (g.rels.map totR).sum:=Kcb totR fun n _=>totR_pos n
 have:=Kbu (Kb8 (n:=g.nextNode) h.2.2.1).1
 have:=Kbu (Kb8 (n:=g.nextRel) h.2.2.2).1
 have:=rowsC_len nodeC totN (l:=g.nodes) (by omega) fun n hn=>nodeC_len (h.1 n hn) (by have:=Kbb totN hn;omega)
 have:=rowsC_len relC totR (l:=g.rels) (by omega) fun n hn=>relC_len (h.2.1 n hn) (by have:=Kbb totR hn;omega)
 simp only [List.length_append]
 omega
theorem changesC_len {l : List ChangeD} (h : ∀ c ∈ l,rngC c) (ht : (l.map totC).sum < 1152921504606846976) : (Kbk l).length ≤ 10 + 64 * (l.map totC).sum:=by
 have k1 : l.length ≤ (l.map totC).sum:=Kcb totC fun n _=>by unfold totC totN;omega
 exact rowsC_len Ka9 totC (by omega) fun n hn=>changeC_len (h n hn) (by have:=Kbb totC hn;omega)
def Tells (w W : World) (q : Nat) (l : List UInt8) (o : Value) (m : List UInt8) (e : Ending) (W' : World) : Prop :=
 e = .returned (.tuple #[]) ∧ ∃ o',WS 83 w W' q (l ++ m) o' ∧ WTo q o o' W W'
theorem put_u8s {w : World} {ad : Addr} {p : Option Addr} {n c : Nat} {u : Value} (hc : w.cell? ad = some u) (hf : w.frozen? ad = false) : (storeVar 26 ad (.slice p n c)).run Tryz.prog w = .ok () (w.setCell ad (.slice p n c)):=by
 simp [storeVar,go_sem,hc,hf]
theorem Buf.ad {w W : World} {o : Value} {l : List UInt8} (h : Buf w W o l) (hl : 0 < l.length) : ∃ g c,o = .slice (some ⟨g,0,none⟩) l.length c ∧ ∀ (j : Nat) (u : Value),(l.map byteV)[j]? = some u → W.cell? ((⟨g,0,none⟩ : Addr).add j) = some u:=by
 have hcells:=fun (g : Nat) (e : o.ownBlock = some g)=>h.own.1.cells (g:=g) e
 rcases h.own.1.2 with ⟨rfl,e⟩ | ⟨g,cap,cur,rfl,_⟩
 ·omega
 ·exact ⟨g,cap,rfl,hcells g rfl⟩
theorem append_text {w : World} {v : Value} {n : Nat} {xs : List Value} (hown : w.ownsRow 0 5 1 v n xs) (s : ByteArray) (h : n + s.size ≤ 70368744177664) (ty : TypeId) :
 ∃ v' w',(Builtin.append_ #[26,9] ty #[v,.string s]).run Tryz.prog w = .ok v' w' ∧ w'.ownsRow 0 5 1 v' (n + s.size) (xs ++ Lib.strCells s) ∧ Touch (fun b=>v.ownBlock = some b) w w' ∧
  (v'.ownBlock = v.ownBlock ∨ v'.ownBlock = some w.heap.size) ∧ w.heap.size ≤ w'.heap.size:=by
 obtain ⟨i,i1,i2,i3,i4⟩:=info_u8v
 obtain ⟨v',w',h1,h2,h3,h4⟩:=Lib.run_append_own_string (P:=Tryz.prog) w 0 26 9 ty 5 i Tryz.underlying26 Tryz.underlying9 i1 i2 i3 i4 v n xs hown s (by unfold maxLen;omega) (by omega) (by omega)
 obtain ⟨g1,g2,g3,g4,g5⟩:=h3
 refine ⟨v',w',h1,h2,⟨g1,g2,g3,g4,fun b hb hn=>g5 b hb fun e=>hn e.symm⟩,?_,g4⟩
 rcases hown.2 with ⟨rfl,rfl⟩ | ⟨g,cap,cur,rfl,hbg,hg,hnc,hcm,hcs,htake⟩
 ·by_cases hs : s.size = 0
  ·exact .inl (by rw [h4.2 ⟨rfl,hs⟩])
  ·have hr:=run_append_nil_string (P:=Tryz.prog) w 26 9 ty 5 i (.int .u8 0) Tryz.underlying26 Tryz.underlying9 i1 i2 s (by omega) (by omega) (by rw [i4];omega)
   rw [hr] at h1
   cases h1
   exact .inr rfl
 ·have hcs' : cur.size = cap:=by simpa using hcs
  by_cases hroom : n + s.size ≤ cap
  ·have hr:=Lib.run_append_room_string (P:=Tryz.prog) w 26 9 ty 5 i Tryz.underlying26 Tryz.underlying9 i1 i3 g n cap cur hg s hroom (by omega)
   rw [hr] at h1
   cases h1
   exact .inl rfl
  ·have hr:=Lib.run_append_grow_string (P:=Tryz.prog) w 26 9 ty 5 i (.int .u8 0) Tryz.underlying26 Tryz.underlying9 i1 i2 ⟨g,0,none⟩ n cap xs (by rw [i3];simpa using hown.1) (hown.cells (g:=g) rfl) s (by omega) (by omega) (by rw [i4];exact growslice_fits (by omega) (by omega))
   rw [hr] at h1
   cases h1
   exact .inr rfl
theorem strCells_byte (s : List UInt8) : Lib.strCells (strB s) = s.map byteV:=by
 unfold Lib.strCells strB byteV
 simp
section
variable {T : TypeId} {w W W1 : World} {q : Nat} {l : List UInt8} {o : Value}
theorem WS.stepS (h : WS T w W q l o) (s : List UInt8) (hn : l.length + s.length ≤ 70368744177664) (ty : TypeId) :
 ∃ p' c' W2,(Builtin.append_ #[26,9] ty #[o,.string (strB s)]).run Tryz.prog W = .ok (.slice p' (l ++ s).length c') W2 ∧ W2.heap[q]? = some (.cells #[o] T (0,0)) ∧
  WS T w (W2.setCell ⟨q,0,none⟩ (.slice p' (l ++ s).length c')) q (l ++ s) (.slice p' (l ++ s).length c') ∧ WTo q o (.slice p' (l ++ s).length c') W (W2.setCell ⟨q,0,none⟩ (.slice p' (l ++ s).length c')) ∧ W.heap.size ≤ W2.heap.size:=by
 have hsz:=h.b.size
 obtain ⟨v',W2,a1,a2,a3,a4,a5⟩:=append_text h.own.1 (strB s) hn ty
 have hOwn : OwnsP W2 (fun b=>w.heap.size ≤ b ∧ b ≠ q) 5 1 v' (l ++ s).length ((l ++ s).map byteV):=by
  refine ⟨by rw [List.length_append,List.map_append,← strCells_byte];exact a2,fun g hg=>?_⟩
  rcases a4 with e | e
  ·exact h.own.2 g (e.symm.trans hg)
  ·rw [e] at hg;cases hg
   exact ⟨hsz,fun e=>by have:=h.lt;omega⟩
 obtain ⟨p',c',rfl⟩:=Kbx hOwn
 have hq2 : W2.heap[q]? = some (.cells #[o] T (0,0)):=(a3.block q h.lt fun e=>(h.own.2 q e).2 rfl).trans h.box
 have hB2 : Below w.heap.size w W2:=a3.below h.b (fun b hb e=>by have:=(h.own.2 b e).1;omega) hsz
 have hset : ∀ b,b ≠ q → (W2.setCell ⟨q,0,none⟩ (.slice p' (l ++ s).length c')).heap[b]? = W2.heap[b]?:=fun b hb=>Below.heap_setCell W2 ⟨q,0,none⟩ _ b hb
 refine ⟨p',c',W2,a1,hq2,⟨Kbh hB2 h.base _,h.base,?_,hOwn.keep fun b hb _=>hset b hb.2⟩,⟨?_,fun b hb1 hq ho=>?_,?_⟩,a5⟩
 ·have:=heap_setCell_same W2 q 0 #[o] T (.slice p' (l ++ s).length c') hq2
  exact this
 ·have : (W2.setCell ⟨q,0,none⟩ (.slice p' (l ++ s).length c')).heap.size = W2.heap.size:=by simp [World.setCell]
  omega
 ·rw [hset b hq,a3.block b hb1 ho]
 ·rcases a4 with e | e
  ·exact .inl e
  ·refine .inr fun b hb1=>?_
   rw [e] at hb1;cases hb1;exact Nat.le_refl _
end
theorem fieldW (q : Nat) (W' : World) : (Instr.fieldAt 83 (.pointer (some ⟨q,0,none⟩)) 0).run Tryz.prog W' = .ok (.pointer (some ⟨q,0,none⟩)) W':=by simp [go_sem]
theorem Ka7 {n : Nat} (hn : n < 18446744073709551616) {w W : World} {q : Nat} {l : List UInt8} {o : Value} (h : WS 83 w W q l o) (hl : l.length ≤ 2000000000000) :
 Calls Tryz.prog 42 #[.pointer (some ⟨q,0,none⟩),.int .u64 (n : Int)] W (Tells w W q l o (numB n)):=by
 have hlen : (numB n).length ≤ 10:=Kbu hn
 obtain ⟨p,c,rfl⟩:=h.slice
 have H:=yh h
 have hS0 : W.drew.heap[q]? = some (.cells #[.slice p l.length c] 83 (0,0)):=h.box
 have hlt : q < W.drew.heap.size:=h.lt
 clear h
 go_enter Tryz.func42,Tryz.ntmps42
 go_wp2
 refine Kaj (fun W'=>W'.heap[q]? = some (.cells #[.slice p l.length c] 83 (0,0))) (by kernel_rfl) hS0 (fun hS=>?_)
 refine tk 0 4 (v:=.pointer (some ⟨q,0,none⟩)) rfl rfl (fun W hW=>Kah rfl rfl) ?_
 simp only [Act.put,sA,sZ,sS]
 refine tk 1 5 (v:=.pointer (some ⟨q,0,none⟩)) rfl rfl (fun W hW=>Kah rfl rfl) ?_
 simp only [Act.put,sA,sZ,sS]
 refine tk 2 6 (v:=.pointer (some ⟨q,0,none⟩)) rfl rfl (fun W hW=>rfl) ?_
 simp only [Act.put,sA,sZ,sS]
 refine tk 3 7 (v:=.pointer (some ⟨q,0,none⟩)) rfl rfl (fun W hW=>Kad rfl rfl (fieldW q W)) ?_
 simp only [Act.put,sA,sZ,sS]
 refine tk 4 8 (v:=.slice p l.length c) rfl rfl (fun W hW=>Kaf rfl rfl (Kag (w:=W) Tryz.underlying26 rfl (Kab (o:=0) hW rfl))) ?_
 simp only [Act.put,sA,sZ,sS]
 refine tk 5 9 (v:=.int .u64 (n : Int)) rfl rfl (fun W hW=>Kah rfl rfl) ?_
 simp only [Act.put,sA,sZ,sS]
 refine Kau 6 10 rfl rfl (by kernel_rfl) rfl (Kaq [.int .u64 (n : Int)] rfl rfl Tryz.func99 (by kernel_rfl) (by kernel_rfl)) ?_
 refine (cnumber_any hn _).mono ?_
 rintro e W1 ⟨ob,rfl,hB⟩
 obtain ⟨g,cb,rfl,hsrc⟩:=hB.ad (numB_pos n)
 have hb1 : Below W.heap.size W W1:=Kaa (Below.refl _ _).drew hB.b
 have hS1 : W1.heap[q]? = some (.cells #[.slice p l.length c] 83 (0,0)):=Kai hB.b hlt hS0
 obtain ⟨p',c',W2,happ,hq2,hWS,hWT,hsz⟩:=H.out.step hb1 hsrc (c:=cb) (by omega) 26
 have hst:=put_u8s (p:=p') (n:=(l ++ numB n).length) (c:=c') (Kab (o:=0) hq2 rfl) (Kav (o:=0) hq2)
 refine ⟨_,rfl,.inr hS1,?_⟩
 simp only [Act.put,sA,sZ,sS]
 refine Kc7 7 11 (v:=.slice p' (l ++ (numB n)).length c') rfl rfl (by kernel_rfl) rfl (Kc8 rfl rfl rfl happ) (.inr hq2) ?_
 simp only [Act.put,sA,sZ,sS]
 refine tk 8 12 (v:=.pointer (some ⟨q,0,none⟩)) rfl rfl (fun W hW=>rfl) ?_
 simp only [Act.put,sA,sZ,sS]
 refine tk 9 13 (v:=.pointer (some ⟨q,0,none⟩)) rfl rfl (fun W hW=>Kad rfl rfl (fieldW q W)) ?_
 simp only [Act.put,sA,sZ,sS]
 refine Kca 10 rfl rfl (by kernel_rfl) rfl (Kb4 rfl rfl rfl hst) (.inl (by kernel_rfl)) ?_
 refine done (by kernel_rfl) ?_ _
 have HF:=yh (And.intro hWS hWT)
 clear hS hS0 hS1 happ hq2 hWS hWT hst hsrc hb1 hB H
 go_wp2
 go_end0
 exact ⟨rfl,_,HF.out⟩
theorem Kdt {n : Int} (h : i64T n) : IntKind.u64.wrap n = (toU n : Int):=by
 unfold i64T at h
 unfold toU
 rw [IntKind.wrap_u64]
 split <;> omega
theorem wtext_any {s : List UInt8} {w W : World} {q : Nat} {l : List UInt8} {o : Value} (h : WS 83 w W q l o) (hl : l.length + s.length ≤ 1000000000000) :
 Calls Tryz.prog 96 #[.pointer (some ⟨q,0,none⟩),.string (strB s)] W (Tells w W q l o (textC s)):=by
 have z1 : (s.length : Int) ≤ 1000000000000:=by omega
 have hsz : (strB s).size = s.length:=rfl
 have hnum:=Ka7 (n:=s.length) (by omega) h (by omega)
 have h10:=Kbu (n:=s.length) (by unfold u64T;omega)
 have HN:=yh hnum
 clear hnum
 go_enter Tryz.func96,Tryz.ntmps96
 go_wp2_with (first
  | (go_at_call 42;refine HN.out.mono ?_;rintro e W1 ⟨rfl,o1,h1,t1⟩
     (
      obtain ⟨p1,c1,rfl⟩:=h1.slice
      obtain ⟨p2,c2,W2,ha,hq2,h2,t2,_⟩:=h1.stepS s (by rw [List.length_append];omega) 26
      generalize (l ++ numB s.length ++ s).length = N2 at *
      generalize (l ++ numB s.length).length = N1 at *
      have hst:=put_u8s (p:=p2) (n:=N2) (c:=c2) (Kab (o:=0) hq2 rfl) (Kav (o:=0) hq2)
      have HC:=Kab (o:=0) h1.box rfl
      have HA:=yh ha
      have HS:=yh hst
      have HF:=yh (And.intro h2 (t1.trans t2))
      clear h1 t1 ha hq2 h2 t2 hst))
  | (refine Kdf rfl rfl rfl rfl HA.out ?_)
  | (refine Kat rfl _ _ _ _ rfl rfl rfl HS.out ?_))
 go_end0
 refine ⟨rfl,_,?_,HF.out.2⟩
 unfold textC
 rw [← List.append_assoc]
 exact HF.out.1
theorem rowV_any {α : Type} {F : World → α → Array Value → Prop} (hF : EF F 6) (en : α → List UInt8) {l : List α} {w W : World} {q : Nat} {m : List UInt8} {o : Value} {p : Option Addr} {c : Nat}
 (hrd : GRd F 6 w p c l) (h : WS 83 w W q m o) (hlen : m.length + (rowsC en l).length ≤ 1000000000000)
 (J : Nat → World → Value → Prop) (hJ : ∀ j W W' o o',J j W o → WTo q o o' W W' → J j W' o') (h0 : J 0 W o)
 (one : ∀ j (hj : j < l.length) m o W cs,J j W o → WS 83 w W q m o → F w l[j] cs → m.length + (en l[j]).length ≤ 1000000000000 → Calls Tryz.prog 64 #[.pointer (some ⟨q,0,none⟩),.agg cs] W fun e W'=>e = .returned (.tuple #[]) ∧ ∃ o',WS 83 w W' q (m ++ en l[j]) o' ∧ J (j + 1) W' o') :
 Calls Tryz.prog 117 #[.pointer (some ⟨q,0,none⟩),.slice p l.length c,(.func (.func 64) #[.pointer (some ⟨q,0,none⟩)] #[])] W fun e W'=>e = .returned (.tuple #[]) ∧ ∃ o',WS 83 w W' q (m ++ rowsC en l) o' ∧ J l.length W' o':=by
 have z1 : (l.length : Int) ≤ 140737488355328:=by have:=hrd.1.2.1;omega
 have hu : toU (l.length : Int) = l.length:=by unfold toU;rw [if_neg (by omega)];simp
 have hnum:=Ka7 (n:=l.length) (by omega) h (by omega)
 have HN:=yh hnum
 have HJ:=yh hJ
 have HO:=yh one
 have HR:=yh hrd
 have HL:=yh hlen
 have H0:=yh h0
 clear hnum hJ one hrd hlen h0 hu h
 go_enter Tryz.func117,Tryz.ntmps117
 go_wp2_with (go_at_call 42;refine HN.out.mono ?_;rintro e W1 ⟨rfl,o1,h1,t1⟩;have H1:=yh (And.intro h1 (HJ.out _ _ _ _ _ H0.out t1));clear h1 t1)
 go_loopw [15] (fun i wr=>∃ j : Nat,j ≤ l.length ∧ i = .int .i64 (j : Int) ∧ Hid (∃ o,WS 83 w wr q (m ++ numB l.length ++ (l.take j).flatMap en) o ∧ J j wr o)) (fun i _=>l.length - (intOf i).toNat)
 case atStart=>exact ⟨0,Nat.zero_le _,rfl,yh ⟨o1,by simpa using H1.out.1,H1.out.2⟩⟩
 case round =>
  obtain ⟨j,hj,rfl,HI⟩:=hrel
  obtain ⟨o2,h2,j2⟩:=HI.out
  by_cases hlt : j < l.length
  ·have hlt1 : j + 1 ≤ l.length:=hlt
   obtain ⟨b,of,cs,rfl,hs,hc,hv⟩:=HR.out.get hlt
   have hones:=hF.ones hv
   have hL1:=StT.load Kbp hs (fun i u hu=>Kak h2.b (ltOf (hc i u hu)) (hc i u hu)) (W:=wr)
   have hS:=StT.fresh Kbp hs hones (W:=wr)
   have hL2:=StT.get Kbp hs (heap_alloc_new wr (.cells cs 48))
   have hbn:=Kac (w:=wr) (.cells cs 48)
   have h3:=h2.below hbn
   have hst:=Kdu (e:=en) hlt
   have hle : (m ++ numB l.length ++ (l.take j).flatMap en).length + (en l[j]).length ≤ 1000000000000:=by
    have e1 : (l.flatMap en).length = ((l.take (j + 1)).flatMap en).length + ((l.drop (j + 1)).flatMap en).length:=by
     rw [← List.length_append,← List.flatMap_append,List.take_append_drop]
    have:=HL.out
    unfold rowsC at this
    rw [hst] at e1
    simp only [List.length_append] at *
    omega
   have hone:=HO.out j hlt _ _ _ cs (HJ.out _ _ _ _ _ j2 (WTo.of_below hbn)) h3 hv hle
   rw [List.append_assoc _ _ (en l[j]),← hst] at hone
   have HL1:=yh hL1
   have HS:=yh hS
   have HL2:=yh hL2
   have HC:=yh hone
   clear hc hones hL1 hS hL2 hbn h3 hst hle hone HI h2 j2 hv H1 HN H0 HL
   go_wp2_with (first
    | (refine Kaw rfl _ _ _ rfl rfl HL1.out ?_;clear HL1)
    | (refine Kat rfl _ _ _ _ rfl rfl rfl (HS.out _ rfl) ?_;clear HS)
    | (refine Kaw rfl _ _ _ rfl rfl HL2.out ?_;clear HL2)
    | (go_at_call 64;refine HC.out.mono ?_;rintro e W2 ⟨rfl,hw2⟩;have HW2:=yh hw2;clear hw2 HC))
   go_roundw
   case rel=>exact ⟨j + 1,hlt1,by go_num,HW2⟩
   case measure=>simp [intOf];omega
  ·obtain rfl : j = l.length:=by omega
   have HF:=yh (show ∃ o',WS 83 w wr q (m ++ rowsC en l) o' ∧ J l.length wr o' from ⟨o2,by rw [← rows_at,← List.append_assoc];exact h2,j2⟩)
   clear HI h2 j2 H1 HN H0 HL
   go_wp2
   go_end0
   exact ⟨rfl,HF.out⟩
theorem rowV_tells {α : Type} {F : World → α → Array Value → Prop} (hF : EF F 6) (en : α → List UInt8) {l : List α} {w W : World} {q : Nat} {m : List UInt8} {o : Value} {p : Option Addr} {c : Nat}
 (hrd : GRd F 6 w p c l) (h : WS 83 w W q m o) (hlen : m.length + (rowsC en l).length ≤ 1000000000000)
 (one : ∀ x ∈ l,∀ m o W cs,WS 83 w W q m o → F w x cs → m.length + (en x).length ≤ 1000000000000 → Calls Tryz.prog 64 #[.pointer (some ⟨q,0,none⟩),.agg cs] W (Tells w W q m o (en x))) :
 Calls Tryz.prog 117 #[.pointer (some ⟨q,0,none⟩),.slice p l.length c,(.func (.func 64) #[.pointer (some ⟨q,0,none⟩)] #[])] W (Tells w W q m o (rowsC en l)):=by
 refine (rowV_any hF en hrd h hlen (fun _ W' o'=>WTo q o o' W W') (fun j W1 W2 o1 o2 h1 h2=>h1.trans h2) (WTo.refl q o W) ?_).mono ?_
 ·intro j hj m o1 W1 cs h1 h2 h3 h4
  refine (one _ (List.getElem_mem hj) m o1 W1 cs h2 h3 h4).mono ?_
  rintro e W2 ⟨rfl,o2,h5,h6⟩
  exact ⟨rfl,o2,h5,h1.trans h6⟩
 ·rintro e W' ⟨rfl,o',h1,h2⟩
  exact ⟨rfl,o',h1,h2⟩
theorem rowM_any {α : Type} {F : World → α → Array Value → Prop} (hF : EF F 6) (en : α → List UInt8) {l : List α} {w W : World} {q : Nat} {m : List UInt8} {o : Value} {p : Option Addr} {c : Nat} {a1 a2 a3 : Option Addr}
 (hrd : GRd F 6 w p c l) (h : WS 83 w W q m o) (hlen : m.length + (rowsC en l).length ≤ 1000000000000)
 (J : Nat → World → Value → Prop) (hJ : ∀ j W W' o o',J j W o → WTo q o o' W W' → J j W' o') (h0 : J 0 W o)
 (one : ∀ j (hj : j < l.length) m o W cs,J j W o → WS 83 w W q m o → F w l[j] cs → m.length + (en l[j]).length ≤ 1000000000000 → Calls Tryz.prog 118 #[.agg cs,.pointer a1,.pointer a2,.pointer a3] W fun e W'=>e = .returned (.tuple #[]) ∧ ∃ o',WS 83 w W' q (m ++ en l[j]) o' ∧ J (j + 1) W' o') :
 Calls Tryz.prog 117 #[.pointer (some ⟨q,0,none⟩),.slice p l.length c,(.func (.func 118) #[] #[.pointer a1,.pointer a2,.pointer a3])] W fun e W'=>e = .returned (.tuple #[]) ∧ ∃ o',WS 83 w W' q (m ++ rowsC en l) o' ∧ J l.length W' o':=by
 have z1 : (l.length : Int) ≤ 140737488355328:=by have:=hrd.1.2.1;omega
 have hu : toU (l.length : Int) = l.length:=by unfold toU;rw [if_neg (by omega)];simp
 have hnum:=Ka7 (n:=l.length) (by omega) h (by omega)
 have HN:=yh hnum
 have HJ:=yh hJ
 have HO:=yh one
 have HR:=yh hrd
 have HL:=yh hlen
 have H0:=yh h0
 clear hnum hJ one hrd hlen h0 hu h
 go_enter Tryz.func117,Tryz.ntmps117
 go_wp2_with (go_at_call 42;refine HN.out.mono ?_;rintro e W1 ⟨rfl,o1,h1,t1⟩;have H1:=yh (And.intro h1 (HJ.out _ _ _ _ _ H0.out t1));clear h1 t1)
 go_loopw [15] (fun i wr=>∃ j : Nat,j ≤ l.length ∧ i = .int .i64 (j : Int) ∧ Hid (∃ o,WS 83 w wr q (m ++ numB l.length ++ (l.take j).flatMap en) o ∧ J j wr o)) (fun i _=>l.length - (intOf i).toNat)
 case atStart=>exact ⟨0,Nat.zero_le _,rfl,yh ⟨o1,by simpa using H1.out.1,H1.out.2⟩⟩
 case round =>
  obtain ⟨j,hj,rfl,HI⟩:=hrel
  obtain ⟨o2,h2,j2⟩:=HI.out
  by_cases hlt : j < l.length
  ·have hlt1 : j + 1 ≤ l.length:=hlt
   obtain ⟨b,of,cs,rfl,hs,hc,hv⟩:=HR.out.get hlt
   have hones:=hF.ones hv
   have hL1:=StT.load Kbp hs (fun i u hu=>Kak h2.b (ltOf (hc i u hu)) (hc i u hu)) (W:=wr)
   have hS:=StT.fresh Kbp hs hones (W:=wr)
   have hL2:=StT.get Kbp hs (heap_alloc_new wr (.cells cs 48))
   have hbn:=Kac (w:=wr) (.cells cs 48)
   have h3:=h2.below hbn
   have hst:=Kdu (e:=en) hlt
   have hle : (m ++ numB l.length ++ (l.take j).flatMap en).length + (en l[j]).length ≤ 1000000000000:=by
    have e1 : (l.flatMap en).length = ((l.take (j + 1)).flatMap en).length + ((l.drop (j + 1)).flatMap en).length:=by
     rw [← List.length_append,← List.flatMap_append,List.take_append_drop]
    have:=HL.out
    unfold rowsC at this
    rw [hst] at e1
    simp only [List.length_append] at *
    omega
   have hone:=HO.out j hlt _ _ _ cs (HJ.out _ _ _ _ _ j2 (WTo.of_below hbn)) h3 hv hle
   rw [List.append_assoc _ _ (en l[j]),← hst] at hone
   have HL1:=yh hL1
   have HS:=yh hS
   have HL2:=yh hL2
   have HC:=yh hone
   clear hc hones hL1 hS hL2 hbn h3 hst hle hone HI h2 j2 hv H1 HN H0 HL
   go_wp2_with (first
    | (refine Kaw rfl _ _ _ rfl rfl HL1.out ?_;clear HL1)
    | (refine Kat rfl _ _ _ _ rfl rfl rfl (HS.out _ rfl) ?_;clear HS)
    | (refine Kaw rfl _ _ _ rfl rfl HL2.out ?_;clear HL2)
    | (go_at_call 118;refine HC.out.mono ?_;rintro e W2 ⟨rfl,hw2⟩;have HW2:=yh hw2;clear hw2 HC))
   go_roundw
   case rel=>exact ⟨j + 1,hlt1,by go_num,HW2⟩
   case measure=>simp [intOf];omega
  ·obtain rfl : j = l.length:=by omega
   have HF:=yh (show ∃ o',WS 83 w wr q (m ++ rowsC en l) o' ∧ J l.length wr o' from ⟨o2,by rw [← rows_at,← List.append_assoc];exact h2,j2⟩)
   clear HI h2 j2 H1 HN H0 HL
   go_wp2
   go_end0
   exact ⟨rfl,HF.out⟩
section
variable {T : TypeId} {w W W1 W' : World} {q : Nat} {l : List UInt8} {o o' : Value}
theorem WTo.box (t : WTo q o o' W W1) (h : WS T w W q l o) {b : Nat} {ob : Obj} (hb : W.heap[b]? = some ob) (hq : b ≠ q) (ho : o.ownBlock ≠ some b) : W1.heap[b]? = some ob :=
 (t.keep b (Array.getElem?_eq_some_iff.1 hb).1 hq ho).trans hb
theorem WTo.not (t : WTo q o o' W W1) {b : Nat} (hb : b < W.heap.size) (ho : o.ownBlock ≠ some b) : o'.ownBlock ≠ some b:=by
 rcases t.own with e | e
 ·rw [e];exact ho
 ·intro h;have:=e b h;omega
theorem WS.own_lt (h : WS T w W q l o) {b : Nat} (hb : o.ownBlock = some b) : b < W.heap.size:=(h.own.1.lt b hb).2
structure Side (W : World) (q : Nat) (o : Value) (b : Nat) (ob : Obj) : Prop where
 at_ : W.heap[b]? = some ob
 ne : b ≠ q
 no : o.ownBlock ≠ some b
theorem Side.to {b : Nat} {ob : Obj} (h : Side W q o b ob) (t : WTo q o o' W W1) : Side W1 q o' b ob:=by
 have hlt:=(Array.getElem?_eq_some_iff.1 h.at_).1
 exact ⟨(t.keep b hlt h.ne h.no).trans h.at_,h.ne,t.not hlt h.no⟩
theorem WS.side (h : WS T w W q l o) (g : Below W.heap.size W W1) {b : Nat} {ob : Obj} (hb : W.heap.size ≤ b) (hat : W1.heap[b]? = some ob) : Side W1 q o b ob :=
 ⟨hat,fun e=>by have:=h.lt;omega,fun e=>by have:=h.own_lt e;omega⟩
theorem WS.stepB (h : WS T w W q l o) (c : UInt8) (hn : l.length ≤ 1000000000000) (ty : TypeId) :
 ∃ p' c' W2,(Builtin.append_ #[26,26] ty #[o,.slice (some ⟨W.heap.size,0,none⟩) 1 1]).run Tryz.prog (W.drew.alloc (.cells #[.int .u8 (c.toNat : Int)] 5)) = .ok (.slice p' (l ++ [c]).length c') W2 ∧ W2.heap[q]? = some (.cells #[o] T (0,0)) ∧
  WS T w (W2.setCell ⟨q,0,none⟩ (.slice p' (l ++ [c]).length c')) q (l ++ [c]) (.slice p' (l ++ [c]).length c') ∧ WTo q o (.slice p' (l ++ [c]).length c') W (W2.setCell ⟨q,0,none⟩ (.slice p' (l ++ [c]).length c')):=by
 have hb : Below W.heap.size W (W.drew.alloc (.cells #[.int .u8 (c.toNat : Int)] 5)):=(Below.refl _ _).drew.alloc (Nat.le_refl _) _
 have hnew : (W.drew.alloc (.cells #[.int .u8 (c.toNat : Int)] 5)).heap[W.heap.size]? = some (.cells #[.int .u8 (c.toNat : Int)] 5 (0,0)):=heap_alloc_new W.drew _
 obtain ⟨p',c',W2,h1,h2,h3,h4,_⟩:=h.step (m:=[c]) (ad:=⟨W.heap.size,0,none⟩) (c:=1) hb (fun j u hu=>by
  rw [Ka4,Nat.zero_add]
  exact Kab hnew (by simpa [byteV] using hu)) (by simp;omega) ty
 exact ⟨p',c',W2,h1,h2,h3,h4⟩
end
theorem conv_kind {k : Int} (h0 : 0 ≤ k) (h1 : k < 256) (W : World) : (convert 44 5 (.int .i64 k)).run Tryz.prog W = .ok (.int .u8 ((UInt8.ofNat k.toNat).toNat : Int)) W:=by
 have e : IntKind.u8.wrap k = ((UInt8.ofNat k.toNat).toNat : Int):=by
  rw [Kcl (by omega)]
  simp [IntKind.wrap,IntKind.signed,IntKind.bits];omega
 rw [← e]
 simp [convert,go_sem]
def WValOf (w : World) (v : V) : Prop:=∀ (d : Nat),wfV d v → ∀ (W : World) (q : Nat) (l : List UInt8) (o : Value) (x : Array Value),VRd w v x → WS 83 w W q l o → l.length + (valC v).length ≤ 1000000000000 →
 Calls Tryz.prog 64 #[.pointer (some ⟨q,0,none⟩),.agg x] W (Tells w W q l o (valC v))
def WVal (w : World) : Prop:=∀ v : V,WValOf w v
theorem put_int {w : World} {ad : Addr} {n : Int} {u : Value} (hc : w.cell? ad = some u) (hf : w.frozen? ad = false) : (storeVar 3 ad (.int .i64 n)).run Tryz.prog w = .ok () (w.setCell ad (.int .i64 n)):=by
 simp [storeVar,go_sem,hc,hf]
theorem WVal.at {w : World} (h : WVal w) (v : V) {d : Nat} (hwf : wfV d v) {W : World} {q : Nat} {l : List UInt8} {o : Value} {x : Array Value} (hx : VRd w v x) (hw : WS 83 w W q l o) (hl : l.length + (valC v).length ≤ 1000000000000) :
 Calls Tryz.prog 64 #[.pointer (some ⟨q,0,none⟩),.agg x] W (Tells w W q l o (valC v)):=h v d hwf W q l o x hx hw hl
theorem xor_all {a : Nat} (h : a < 18446744073709551616) : a ^^^ 18446744073709551615 = 18446744073709551615 - a:=by
 have h1:=congrArg BitVec.toNat (BitVec.xor_allOnes (x:=BitVec.ofNat 64 a))
 rw [BitVec.toNat_xor,BitVec.toNat_not,BitVec.toNat_ofNat,BitVec.toNat_allOnes] at h1
 have e : (2 : Nat) ^ 64 = 18446744073709551616:=rfl
 rw [e,Nat.mod_eq_of_lt h] at h1
 exact h1
theorem exec_binu {P : Program} {a : Act} {w : World} {o : Oper} {op : BinOp} {t t' : TypeId} {x y : Operand} {k k' : IntKind} {n m : Int} {v : Value} (ho : o.op = .binOp op t x y t') (hx : a.eval x = .int k n) (hy : a.eval y = .int k' m)
 (hr : (binOp op t (.int k n) (.int k' m)).run P w = .ok v w) : (execOp a.eval o).run P w = .ok (.value v) w:=by
 unfold execOp;rw [ho];simp only [hx,hy]
 have e : eqGuard op t x y (.int k n) (.int k' m) = pure ():=by unfold eqGuard;cases op <;> rfl
 simp only [e,Sem.run_bind,Sem.run_pure,Result.andThen_ok,hr]
theorem conv_u64 {n : Int} (h : i64T n) (W : World) : (convert 2 79 (.int .i64 n)).run Tryz.prog W = .ok (.int .u64 (toU n : Int)) W:=by
 rw [← Kdt h]
 simp [convert,go_sem]
theorem shl_one {a : Nat} (W : World) : (binOp .shl 79 (.int .u64 (a : Int)) (.int .u64 1)).run Tryz.prog W = .ok (.int .u64 ((2 * a % 18446744073709551616 : Nat) : Int)) W:=by
 have e : ((2 * a % 18446744073709551616 : Nat) : Int) = IntKind.u64.wrap ((a : Int) * 2):=by rw [IntKind.wrap_u64];omega
 rw [e]
 simp [go_sem]
theorem shr_neg {n : Int} (h : i64T n) (hn : n < 0) (W : World) : (binOp .shr 2 (.int .i64 n) (.int .u64 63)).run Tryz.prog W = .ok (.int .i64 (-1)) W:=by
 have e : n / 9223372036854775808 = -1:=by unfold i64T at h;omega
 simp [go_sem,e]
theorem shr_pos {n : Int} (h : i64T n) (hn : 0 ≤ n) (W : World) : (binOp .shr 2 (.int .i64 n) (.int .u64 63)).run Tryz.prog W = .ok (.int .i64 0) W:=by
 have e : n / 9223372036854775808 = 0:=by unfold i64T at h;omega
 simp [go_sem,e]
theorem xor_run {a b c : Nat} (h : bits .xor .u64 (a : Int) (b : Int) = (c : Int)) (W : World) : (binOp .xor 79 (.int .u64 (a : Int)) (.int .u64 (b : Int))).run Tryz.prog W = .ok (.int .u64 (c : Int)) W:=by
 rw [← h]
 simp [go_sem]
theorem zz_neg {n : Int} (h : i64T n) (hn : n < 0) : bits .xor .u64 ((2 * toU n % 18446744073709551616 : Nat) : Int) ((18446744073709551615 : Nat) : Int) = (zzN n : Int):=by
 rw [u64_xor_nat _ _ (Nat.mod_lt _ (by decide)) (by decide),xor_all (Nat.mod_lt _ (by decide))]
 unfold i64T at h
 unfold zzN toU
 rw [if_pos hn,if_pos hn]
 omega
theorem zz_pos {n : Int} (h : i64T n) (hn : 0 ≤ n) : bits .xor .u64 ((2 * toU n % 18446744073709551616 : Nat) : Int) ((0 : Nat) : Int) = (zzN n : Int):=by
 rw [u64_xor_nat _ _ (Nat.mod_lt _ (by decide)) (by decide),Nat.xor_zero]
 unfold i64T at h
 unfold zzN toU
 rw [if_neg (by omega),if_neg (by omega)]
 omega
theorem Kea {n : Int} (hn : i64T n) {w W : World} {q : Nat} {l : List UInt8} {o : Value} (h : WS 83 w W q l o) (hl : l.length ≤ 1000000000000) :
 Calls Tryz.prog 116 #[.pointer (some ⟨q,0,none⟩),.int .i64 n] W (Tells w W q l o (numB (zzN n))):=by
 have HN:=yh (Ka7 (n:=zzN n) (un_zz hn).1 h (by omega))
 have H1:=yh (conv_u64 hn W)
 have H2:=yh (shl_one (a:=toU n) W)
 have H3 : Hid (∃ s : Int,∃ b : Nat,(binOp .shr 2 (.int .i64 n) (.int .u64 63)).run Tryz.prog W = .ok (.int .i64 s) W ∧ (convert 2 79 (.int .i64 s)).run Tryz.prog W = .ok (.int .u64 (b : Int)) W ∧
  (binOp .xor 79 (.int .u64 ((2 * toU n % 18446744073709551616 : Nat) : Int)) (.int .u64 (b : Int))).run Tryz.prog W = .ok (.int .u64 (zzN n : Int)) W):=by
  by_cases hs : n < 0
  ·exact yh ⟨-1,18446744073709551615,shr_neg hn hs W,conv_u64 (n:=-1) (by unfold i64T;omega) W,xor_run (zz_neg hn hs) W⟩
  ·exact yh ⟨0,0,shr_pos hn (by omega) W,conv_u64 (n:=0) (by unfold i64T;omega) W,xor_run (zz_pos hn (by omega)) W⟩
 obtain ⟨s,b,h3,h4,h5⟩:=H3.out
 have G3:=yh h3
 have G4:=yh h4
 have G5:=yh h5
 generalize hA : ((2 * toU n % 18446744073709551616 : Nat) : Int) = A at *
 generalize hU : ((toU n : Nat) : Int) = U at *
 generalize hB : ((b : Nat) : Int) = B at *
 generalize hZ : ((zzN n : Nat) : Int) = Z at *
 clear h h3 h4 h5 H3 hn hA hU hB
 go_enter Tryz.func116,Tryz.ntmps116
 go_wp2_with (first
  | (refine Kbf rfl (Kdw rfl rfl H1.out) ?_)
  | (refine Kbf rfl (exec_binu rfl rfl rfl H2.out) ?_)
  | (refine Kbf rfl (exec_binu rfl rfl rfl G3.out) ?_)
  | (refine Kbf rfl (Kdw rfl rfl G4.out) ?_)
  | (refine Kbf rfl (exec_binu rfl rfl rfl G5.out) ?_)
  | (go_at_call 42;refine HN.out.mono ?_;rintro e W1 ⟨rfl,o1,h1,t1⟩;have HE:=yh (And.intro h1 t1);clear h1 t1))
 go_end0
 exact ⟨rfl,o1,HE.out⟩
structure MapJ (q : Nat) (x : Array Value) (B2 B3 B5 : Nat) (W0 : World) (o0 : Value) (j : Nat) (W' : World) (o' : Value) : Prop where
 p2 : Side W' q o' B2 (.cells #[.pointer (some ⟨q,0,none⟩)] 85 (0,0))
 p3 : Side W' q o' B3 (.cells x 48 (0,0))
 p5 : Side W' q o' B5 (.cells #[.int .i64 (j : Int)] 3 (0,0))
 ne : B5 ≠ B2 ∧ B5 ≠ B3
 tw : WTo q o0 o' W0 W'
 hi : W0.heap.size ≤ B5
theorem MapJ.step {q : Nat} {x : Array Value} {B2 B3 B5 : Nat} {W0 W W' : World} {o0 o o' : Value} {j : Nat} (h : MapJ q x B2 B3 B5 W0 o0 j W o) (t : WTo q o o' W W') : MapJ q x B2 B3 B5 W0 o0 j W' o' :=
 ⟨h.p2.to t,h.p3.to t,h.p5.to t,h.ne,h.tw.trans t,h.hi⟩
theorem MapJ.next {q : Nat} {x : Array Value} {B2 B3 B5 : Nat} {W0 W : World} {o0 o : Value} {j : Nat} (h : MapJ q x B2 B3 B5 W0 o0 j W o) : MapJ q x B2 B3 B5 W0 o0 (j + 1) (W.setCell ⟨B5,0,none⟩ (.int .i64 ((j : Int) + 1))) o:=by
 have hs : ∀ b,b ≠ B5 → (W.setCell ⟨B5,0,none⟩ (.int .i64 ((j : Int) + 1))).heap[b]? = W.heap[b]?:=fun b hb=>Below.heap_setCell _ _ _ _ hb
 refine ⟨⟨(hs _ h.ne.1.symm).trans h.p2.at_,h.p2.ne,h.p2.no⟩,⟨(hs _ h.ne.2.symm).trans h.p3.at_,h.p3.ne,h.p3.no⟩,⟨?_,h.p5.ne,h.p5.no⟩,h.ne,⟨?_,fun b hb hq ho=>?_,h.tw.own⟩,h.hi⟩
 ·have:=heap_setCell_same W B5 0 #[.int .i64 (j : Int)] 3 (.int .i64 ((j : Int) + 1)) h.p5.at_
  simpa using this
 ·have:=h.tw.size;simp [World.setCell];omega
 ·rw [hs b (by have:=h.hi;omega)];exact h.tw.keep b hb hq ho
theorem wpair_any {w W : World} {q B2 B3 B5 j d : Nat} {m : List UInt8} {o o0 : Value} {W0 : World} {k : Int} {b : Bool} {n : Int} {t : List UInt8} {ks : List (List UInt8)} {pk : Option Addr} {ck : Nat} {vl : Value} {v : V} {cs : Array Value}
 (hJ : MapJ q #[.int .i64 k,.bool b,.int .i64 n,.string (strB t),.slice pk ks.length ck,vl] B2 B3 B5 W0 o0 j W o) (h : WS 83 w W q m o) (hv : VRd w v cs) (hval : WValOf w v) (hwf : wfV d v) (hk : RdS w pk ck ks) (hj : j < ks.length) (hl : m.length + (textC ks[j] ++ valC v).length ≤ 1000000000000) (hw0 : w.heap.size ≤ W0.heap.size) :
 Calls Tryz.prog 118 #[.agg cs,.pointer (some ⟨B2,0,none⟩),.pointer (some ⟨B3,0,none⟩),.pointer (some ⟨B5,0,none⟩)] W fun e W'=>e = .returned (.tuple #[]) ∧ ∃ o',WS 83 w W' q (m ++ (textC ks[j] ++ valC v)) o' ∧ MapJ q #[.int .i64 k,.bool b,.int .i64 n,.string (strB t),.slice pk ks.length ck,vl] B2 B3 B5 W0 o0 (j + 1) W' o':=by
 rw [List.length_append] at hl
 have zk : (ks.length : Int) ≤ 140737488355328:=by have:=hk.2.1.1;omega
 have hb0:=Kac (w:=W) (.cells cs 48)
 have h0:=h.below hb0
 have hJ0:=hJ.step (WTo.of_below (o:=o) hb0)
 have hcs:=Kec.size hv
 have hs0 : Side (W.alloc (.cells cs 48)) q o W.heap.size (.cells cs 48 (0,0)):=h.side hb0 (Nat.le_refl _) (heap_alloc_new W _)
 obtain ⟨bk,ok,rfl,hck,hlk⟩:=(hk.below h0.b).get hj
 have htl : (textC ks[j]).length = (numB ks[j].length).length + ks[j].length:=by unfold textC;rw [List.length_append]
 have hd:=(Below.refl (W.alloc (.cells cs 48)).heap.size (W.alloc (.cells cs 48))).drew
 have HT:=yh (wtext_any (h0.below hd) (s:=ks[j]) (by omega))
 have HD:=yh (And.intro (hJ0.step (WTo.of_below (o:=o) hd)) (hs0.to (WTo.of_below (o:=o) hd)))
 have hS0 : (W.alloc (.cells cs 48)).drew.cell? ⟨B2,0,none⟩ = some (.pointer (some ⟨q,0,none⟩)) ∧ (W.alloc (.cells cs 48)).drew.cell? ⟨B3,4,none⟩ = some (.slice (some ⟨bk,ok,none⟩) ks.length ck) ∧ (W.alloc (.cells cs 48)).drew.cell? ⟨B5,0,none⟩ = some (.int .i64 (j : Int)) ∧ (W.alloc (.cells cs 48)).drew.cell? ⟨bk,ok + j,none⟩ = some (.string (strB ks[j])) :=
  ⟨Kab (o:=0) hJ0.p2.at_ rfl,Kab (o:=4) hJ0.p3.at_ rfl,Kab (o:=0) hJ0.p5.at_ rfl,hck⟩
 have hf : ∀ W' : World,(Instr.fieldAt 48 (.pointer (some ⟨B3,0,none⟩)) 4).run Tryz.prog W' = .ok (.pointer (some ⟨B3,4,none⟩)) W':=by intro W';simp [go_sem]
 have hi : ∀ W' : World,(Instr.indexAt 45 (.slice (some ⟨bk,ok,none⟩) ks.length ck) (.int .i64 (j : Int))).run Tryz.prog W' = .ok (.pointer (some ⟨bk,ok + j,none⟩)) W':=by
  intro W';simp [go_sem,hj]
 have HS:=yh (And.intro hS0 (And.intro hf hi))
 have HQ:=yh hval
 have HV:=yh hv
 clear hb0 h0 hJ0 hs0 hck htl hS0 hf hi hd hval hJ h hk hv
 go_enter Tryz.func118,Tryz.ntmps118
 go_wp2
 obtain ⟨hS0,hf,hi⟩:=HS.out
 generalize hWa : W.alloc (.cells cs 48) = Wa at *
 clear hWa
 refine Kaj (fun W'=>W'.cell? ⟨B2,0,none⟩ = some (.pointer (some ⟨q,0,none⟩)) ∧ W'.cell? ⟨B3,4,none⟩ = some (.slice (some ⟨bk,ok,none⟩) ks.length ck) ∧ W'.cell? ⟨B5,0,none⟩ = some (.int .i64 (j : Int)) ∧ W'.cell? ⟨bk,ok + j,none⟩ = some (.string (strB ks[j]))) (by kernel_rfl) hS0 (fun hS=>?_)
 refine tk 0 5 (v:=.pointer (some ⟨q,0,none⟩)) rfl rfl (fun W hW=>Kaf rfl rfl (Kag (w:=W) Tryz.underlying85 rfl hW.1)) ?_
 simp only [Act.put,sA,sZ,sS]
 refine tk 1 6 (v:=.pointer (some ⟨B3,4,none⟩)) rfl rfl (fun W hW=>Kad rfl rfl (hf W)) ?_
 simp only [Act.put,sA,sZ,sS]
 refine tk 2 7 (v:=.slice (some ⟨bk,ok,none⟩) ks.length ck) rfl rfl (fun W hW=>Kaf rfl rfl (Kag (w:=W) Tryz.underlying45 rfl hW.2.1)) ?_
 simp only [Act.put,sA,sZ,sS]
 refine tk 3 8 (v:=.int .i64 (j : Int)) rfl rfl (fun W hW=>Kaf rfl rfl (Kag (w:=W) Tryz.underlying3 rfl hW.2.2.1)) ?_
 simp only [Act.put,sA,sZ,sS]
 refine tk 4 9 (v:=.pointer (some ⟨bk,ok + j,none⟩)) rfl rfl (fun W hW=>Kao rfl rfl rfl (hi W)) ?_
 simp only [Act.put,sA,sZ,sS]
 refine tk 5 10 (v:=.string (strB ks[j])) rfl rfl (fun W hW=>Kaf rfl rfl (Kag (w:=W) Tryz.underlying9 rfl hW.2.2.2)) ?_
 simp only [Act.put,sA,sZ,sS]
 refine Kau 6 11 rfl rfl (by kernel_rfl) rfl (Kaq [.pointer (some ⟨q,0,none⟩),.string (strB ks[j])] rfl rfl Tryz.func96 (by kernel_rfl) (by kernel_rfl)) ?_
 refine HT.out.mono ?_
 rintro e W2 ⟨rfl,o2,h2,t2⟩
 have hJ2:=HD.out.1.step t2
 have hs2:=HD.out.2.to t2
 have HL:=yh (StT.get Kbp hcs hs2.at_)
 have c2:=Kab (o:=0) hJ2.p2.at_ rfl
 have HC:=yh (HQ.out d hwf W2 q _ o2 cs HV.out h2 (by rw [List.length_append];omega))
 have HE:=yh hJ2
 clear t2 hJ2 hs2 h2
 refine ⟨_,rfl,.inl (by kernel_rfl),?_⟩
 refine done (by kernel_rfl) ?_ _
 clear hS hS0 hf hi HS HT HD
 go_wp2_with (first
  | (refine Kaw rfl _ _ _ rfl rfl HL.out ?_;clear HL)
  | (go_at_call 64;refine HC.out.mono ?_;rintro e W3 ⟨rfl,o3,h3,t3⟩
     (
      have hJ3:=HE.out.step t3
      have c5:=Kab (o:=0) hJ3.p5.at_ rfl
      have HS:=yh (put_int (n:=(j : Int) + 1) c5 (Kav (o:=0) hJ3.p5.at_))
      have HF:=yh (And.intro (h3.other hJ3.p5.ne hJ3.p5.no (by have:=hJ3.hi;omega) (i:=0) (.int .i64 ((j : Int) + 1))) hJ3.next)
      clear h3 t3 hJ3 HE HC))
  | (refine Kat rfl _ _ _ _ rfl rfl rfl HS.out ?_))
 go_end0
 refine ⟨rfl,o3,?_,HF.out.2⟩
 rw [← List.append_assoc]
 exact HF.out.1
theorem zip_grd {w : World} {p : Option Addr} {c : Nat} {ks : List (List UInt8)} {l : List V} (h : LRd w p c l) (he : ks.length = l.length) : GRd (fun w (p : List UInt8 × V) cs=>VRd w p.2 cs) 6 w p c (ks.zip l):=by
 have hz : (ks.zip l).length = l.length:=by simp;omega
 have hg:=h.grd
 refine ⟨by rw [hz];exact hg.1,fun ad had=>⟨fun hne=>(hg.2 ad had).1 fun e=>hne (by rw [e];simp),fun j v hv=>?_⟩⟩
 have hj : j < (ks.zip l).length:=(List.getElem?_eq_some_iff.1 hv).1
 have hv2 : l[j]? = some v.2:=by
  rw [List.getElem?_eq_getElem hj,List.getElem_zip] at hv
  cases hv
  exact List.getElem?_eq_getElem (by omega)
 exact (hg.2 ad had).2 j v.2 hv2
theorem ef_pair : EF (fun w (p : List UInt8 × V) cs=>VRd w p.2 cs) 6:=⟨fun h g=>Kec.below h g,fun h=>Kec.size h,fun h=>Kec.ones h⟩
theorem rows_pairs {ks : List (List UInt8)} {l : List V} (h : ks.length = l.length) : rowsC (fun p : List UInt8 × V=>textC p.1 ++ valC p.2) (ks.zip l) = numB l.length ++ kvC ks l:=by
 unfold rowsC
 rw [kvC_eq ks l h]
 congr 2
 simp;omega
theorem rows_vals (l : List V) : rowsC valC l = numB l.length ++ valsC l:=by unfold rowsC;rw [valsC_eq]
theorem find_tu (a : Bool) (w : World) : (Instr.findKey 4 (.bool a) [{ key:=.bool true,val:=.int .u64 1,born:=0 }]).run Tryz.prog w = .ok (if a then some (0,.int .u64 1) else none) w:=by
 cases a <;> simp [Instr.findKey,Sem.run_bind,run_underlying Tryz.underlying4,Result.andThen,Instr.findNow,Instr.sameNow]
theorem lookup_tu {w : World} {b clk : Nat} (h : w.heap[b]? = some (.map #[{ key:=.bool true,val:=.int .u64 1,born:=0 }] clk)) (a : Bool) : (Instr.lookup 166 (.map (some b)) (.bool a) false).run Tryz.prog w = .ok (.int .u64 (b2i a)) w:=by
 unfold Instr.lookup
 simp only [Sem.run_bind,run_underlying Tryz.underlying166,Result.andThen_ok,getObj,Sem.run,h,Sem.run_pure,check_bool,find_tu]
 cases a
 ·simp [Tryz.zeroValue79,b2i]
 ·simp [b2i]
theorem insert_tu {w : World} {b : Nat} (h : w.heap[b]? = some (.map #[] 0)) : (Instr.mapUpdate 166 (.map (some b)) (.bool true) (.int .u64 1)).run Tryz.prog w = .ok () (w.putObj b (.map #[{ key:=.bool true,val:=.int .u64 1,born:=0 }] 1)):=by
 unfold Instr.mapUpdate
 have hf : (Instr.findKey 4 (.bool true) []).run Tryz.prog w = .ok none w:=by simp [Instr.findKey,Sem.run_bind,run_underlying Tryz.underlying4,Result.andThen,Instr.findNow]
 simp only [Sem.run_bind,run_underlying Tryz.underlying166,Result.andThen_ok,getObj,Sem.run,h,Sem.run_pure,check_bool,hf]
 simp [setObj,Sem.run,h,World.putObj]
theorem wvalue_of {w : World} {k : Int} {b : Bool} {n : Int} {t : List UInt8} {ks : List (List UInt8)} {l : List V} (ih : ∀ v ∈ l,WValOf w v) : WValOf w (.mk k b n t ks l):=by
 intro d hwf W q m o x hx h hl
 obtain ⟨pk,ck,pl,cl,rfl,htx,hk1,hl1⟩:=Kdo.1 hx
 cases d with
 | zero=>rw [wfV] at hwf;exact hwf.elim
 | succ d =>
 rw [wfV] at hwf
 have hk0 : 0 ≤ k ∧ k ≤ 7:=by rcases hwf with ⟨e,_⟩ | ⟨e,_⟩ | ⟨e,_⟩ | ⟨e,_⟩ | ⟨e,_⟩ | ⟨e,_⟩ | ⟨e | e,_⟩ <;> omega
 obtain ⟨p,c,rfl⟩:=h.slice
 have hb : Below W.heap.size W ((W.alloc (.cells #[.pointer (some ⟨q,0,none⟩)] 85)).alloc (.cells #[.int .i64 k,.bool b,.int .i64 n,.string (strB t),.slice pk ks.length ck,.slice pl l.length cl] 48)):=(Kac _).alloc (by simp) _
 have h1:=h.below hb
 have s2:=h.side hb (b:=W.heap.size) (ob:=.cells #[.pointer (some ⟨q,0,none⟩)] 85 (0,0)) (Nat.le_refl _) (by simp only [Kam,World.size_alloc];rw [if_neg (by omega),if_pos trivial])
 have s3:=h.side hb (b:=W.heap.size + 1) (ob:=.cells #[.int .i64 k,.bool b,.int .i64 n,.string (strB t),.slice pk ks.length ck,.slice pl l.length cl] 48 (0,0)) (by omega) (by simp only [Kam,World.size_alloc];rw [if_pos trivial])
 have hml : m.length ≤ 1000000000000:=by omega
 have HB:=yh (And.intro hb (And.intro h1 (And.intro s2 s3)))
 have HW:=yh hwf
 have HL:=yh hl
 have HI:=yh ih
 have HK:=yh hk1
 have HV:=yh hl1
 have hf0 : ∀ W' : World,(Instr.fieldAt 48 (.pointer (some ⟨W.heap.size + 1,0,none⟩)) 0).run Tryz.prog W' = .ok (.pointer (some ⟨W.heap.size + 1,0,none⟩)) W':=by intro W';simp [go_sem]
 have HF0:=yh hf0
 clear hb h1 s2 s3 hwf hl ih hk1 hl1 hx h hf0
 go_enter Tryz.func64,Tryz.ntmps64
 go_wp2
 obtain ⟨hb,h1,s2,s3⟩:=HB.out
 have hf0:=HF0.out
 generalize hWa : (W.alloc (.cells #[.pointer (some ⟨q,0,none⟩)] 85)).alloc (.cells #[.int .i64 k,.bool b,.int .i64 n,.string (strB t),.slice pk ks.length ck,.slice pl l.length cl] 48) = W1 at *
 clear hWa
 have hS0 : W1.drew.cell? ⟨W.heap.size,0,none⟩ = some (.pointer (some ⟨q,0,none⟩)) ∧ W1.drew.heap[q]? = some (.cells #[.slice p m.length c] 83 (0,0)) ∧ W1.drew.cell? ⟨W.heap.size + 1,0,none⟩ = some (.int .i64 k):=⟨Kab (o:=0) s2.at_ rfl,h1.box,Kab (o:=0) s3.at_ rfl⟩
 have hbd : Below W1.heap.size W1 (W1.drew.alloc (.cells #[.int .u8 ((UInt8.ofNat k.toNat).toNat : Int)] 5)):=(Below.refl _ _).drew.alloc (Nat.le_refl _) _
 have hS1 : (W1.drew.alloc (.cells #[.int .u8 ((UInt8.ofNat k.toNat).toNat : Int)] 5)).cell? ⟨W.heap.size,0,none⟩ = some (.pointer (some ⟨q,0,none⟩)) ∧ (W1.drew.alloc (.cells #[.int .u8 ((UInt8.ofNat k.toNat).toNat : Int)] 5)).heap[q]? = some (.cells #[.slice p m.length c] 83 (0,0)) ∧ (W1.drew.alloc (.cells #[.int .u8 ((UInt8.ofNat k.toNat).toNat : Int)] 5)).cell? ⟨W.heap.size + 1,0,none⟩ = some (.int .i64 k) :=
  ⟨Kab (o:=0) (Kai hbd (Array.getElem?_eq_some_iff.1 s2.at_).1 s2.at_) rfl,Kai hbd h1.lt h1.box,Kab (o:=0) (Kai hbd (Array.getElem?_eq_some_iff.1 s3.at_).1 s3.at_) rfl⟩
 obtain ⟨p',c',W2,happ,hq2,hws,hto⟩:=h1.stepB (UInt8.ofNat k.toNat) hml 26
 have hst:=put_u8s (p:=p') (n:=(m ++ [UInt8.ofNat k.toNat]).length) (c:=c') (Kab (o:=0) hq2 rfl) (Kav (o:=0) hq2)
 have t2:=s2.to hto
 have t3:=s3.to hto
 have hsc : ∀ b,b ≠ q → (W2.setCell ⟨q,0,none⟩ (.slice p' (m ++ [UInt8.ofNat k.toNat]).length c')).heap[b]? = W2.heap[b]?:=fun b hb=>Below.heap_setCell W2 ⟨q,0,none⟩ _ b hb
 have hS2 : W2.cell? ⟨W.heap.size,0,none⟩ = some (.pointer (some ⟨q,0,none⟩)) ∧ W2.heap[q]? = some (.cells #[.slice p m.length c] 83 (0,0)) ∧ W2.cell? ⟨W.heap.size + 1,0,none⟩ = some (.int .i64 k) :=
  ⟨Kab (o:=0) ((hsc _ s2.ne).symm.trans t2.at_) rfl,hq2,Kab (o:=0) ((hsc _ s3.ne).symm.trans t3.at_) rfl⟩
 refine Kaj (fun W'=>W'.cell? ⟨W.heap.size,0,none⟩ = some (.pointer (some ⟨q,0,none⟩)) ∧ W'.heap[q]? = some (.cells #[.slice p m.length c] 83 (0,0)) ∧ W'.cell? ⟨W.heap.size + 1,0,none⟩ = some (.int .i64 k)) (by kernel_rfl) hS0 (fun hS=>?_)
 refine tk 0 6 (v:=.pointer (some ⟨q,0,none⟩)) rfl rfl (fun W hW=>Kaf rfl rfl (Kag (w:=W) Tryz.underlying85 rfl hW.1)) ?_
 simp only [Act.put,sA,sZ,sS]
 refine tk 1 7 (v:=.pointer (some ⟨q,0,none⟩)) rfl rfl (fun W hW=>Kaf rfl rfl (Kag (w:=W) Tryz.underlying85 rfl hW.1)) ?_
 simp only [Act.put,sA,sZ,sS]
 refine tk 2 8 (v:=.pointer (some ⟨q,0,none⟩)) rfl rfl (fun W hW=>rfl) ?_
 simp only [Act.put,sA,sZ,sS]
 refine tk 3 9 (v:=.pointer (some ⟨q,0,none⟩)) rfl rfl (fun W hW=>Kad rfl rfl (fieldW q W)) ?_
 simp only [Act.put,sA,sZ,sS]
 refine tk 4 10 (v:=.slice p m.length c) rfl rfl (fun W hW=>Kaf rfl rfl (Kag (w:=W) Tryz.underlying26 rfl (Kab (o:=0) hW.2.1 rfl))) ?_
 simp only [Act.put,sA,sZ,sS]
 refine tk 5 11 (v:=.pointer (some ⟨W.heap.size + 1,0,none⟩)) rfl rfl (fun W hW=>Kad rfl rfl (hf0 W)) ?_
 simp only [Act.put,sA,sZ,sS]
 refine tk 6 12 (v:=.int .i64 k) rfl rfl (fun W hW=>Kaf rfl rfl (Kag (w:=W) Tryz.underlying44 rfl hW.2.2)) ?_
 simp only [Act.put,sA,sZ,sS]
 refine tk 7 13 (v:=.int .u8 ((UInt8.ofNat k.toNat).toNat : Int)) rfl rfl (fun W hW=>Kdw rfl rfl (conv_kind hk0.1 (by omega) W)) ?_
 simp only [Act.put,sA,sZ,sS]
 have hbs:=Kap (P:=Tryz.prog) (w:=W1.drew) (v:=.int .u8 ((UInt8.ofNat k.toNat).toNat : Int)) Tryz.underlying26 Tryz.sizeOf5 Tryz.zeroValue5 rfl (by omega) (by omega)
 refine Kc7 8 14 (v:=.slice (some ⟨W1.heap.size,0,none⟩) 1 1) rfl rfl (by kernel_rfl) rfl (Kbq rfl rfl hbs) (.inr hS1) ?_
 simp only [Act.put,sA,sZ,sS]
 refine Kc7 9 15 (v:=.slice p' (m ++ [UInt8.ofNat k.toNat]).length c') rfl rfl (by kernel_rfl) rfl (Kc8 rfl rfl rfl happ) (.inr hS2) ?_
 simp only [Act.put,sA,sZ,sS]
 refine tk 10 16 (v:=.pointer (some ⟨q,0,none⟩)) rfl rfl (fun W hW=>rfl) ?_
 simp only [Act.put,sA,sZ,sS]
 refine tk 11 17 (v:=.pointer (some ⟨q,0,none⟩)) rfl rfl (fun W hW=>Kad rfl rfl (fieldW q W)) ?_
 simp only [Act.put,sA,sZ,sS]
 refine Kca 12 rfl rfl (by kernel_rfl) rfl (Kb4 rfl rfl rfl hst) (.inl (by kernel_rfl)) ?_
 refine done (by kernel_rfl) ?_ _
 have fin : ∀ (rest : List UInt8) (o4 : Value) (W4 : World),valC (.mk k b n t ks l) = UInt8.ofNat k.toNat :: rest → WS 83 w W4 q (m ++ [UInt8.ofNat k.toNat] ++ rest) o4 → WTo q (.slice p' (m ++ [UInt8.ofNat k.toNat]).length c') o4 (W2.setCell ⟨q,0,none⟩ (.slice p' (m ++ [UInt8.ofNat k.toNat]).length c')) W4 → Tells w W q m (.slice p m.length c) (valC (.mk k b n t ks l)) (.returned (.tuple #[])) W4:=by
  intro rest o4 W4 e h4 t4
  refine ⟨rfl,o4,?_,(WTo.of_below (q:=q) (o:=.slice p m.length c) hb).trans (hto.trans t4)⟩
  rw [e]
  simpa using h4
 generalize hWb : W2.setCell ⟨q,0,none⟩ (.slice p' (m ++ [UInt8.ofNat k.toNat]).length c') = W3 at *
 generalize hob : Value.slice p' (m ++ [UInt8.ofNat k.toNat]).length c' = o3 at *
 have c2:=Kab (o:=0) t2.at_ rfl
 have c30:=Kab (o:=0) t3.at_ rfl
 have c31:=Kab (o:=1) t3.at_ rfl
 have c32:=Kab (o:=2) t3.at_ rfl
 have c33:=Kab (o:=3) t3.at_ rfl
 have c35:=Kab (o:=5) t3.at_ rfl
 have FIN:=yh fin
 have HT:=yh (And.intro hws (And.intro t2 t3))
 have hwf:=HW.out
 clear hWb hob hS hS0 hS1 hS2 hbs hbd happ hq2 hst hsc fin hws t2 t3 hto s2 s3 h1 hb hf0 HF0 HB HW
 have hl:=HL.out
 rcases hwf with ⟨rfl,rfl,rfl,rfl,rfl,rfl⟩ | ⟨rfl,rfl,rfl,rfl,rfl⟩ | ⟨rfl,rfl,g1,rfl,rfl,rfl⟩ | ⟨rfl,rfl,rfl,g1,rfl,rfl⟩ | ⟨rfl,rfl,rfl,rfl,rfl,g1,g2⟩ | ⟨rfl,rfl,rfl,rfl,g1,g2,g3,g4⟩ | ⟨hk,rfl,g1,rfl,rfl,rfl⟩
 ·clear hl c31 c32 c33 c35
  go_wp2
  go_end0
  exact FIN.out [] o3 W3 (by rw [valC];rfl) (by simpa using HT.out.1) (WTo.refl _ _ _)
 ·clear c32 c33 c35
  have e1 : valC (.mk 1 b 0 [] [] []) = UInt8.ofNat (1 : Int).toNat :: numB (if b then 1 else 0):=by rw [valC,if_pos rfl];cases b <;> (rw [Kdj (by decide)];rfl)
  have hmm:=@run_makeMap Tryz.prog
  have hin:=insert_tu (w:=W3.alloc (.map #[] 0)) (b:=W3.heap.size) (heap_alloc_new _ _)
  have hbm : Below W3.heap.size W3 ((W3.alloc (.map #[] 0)).putObj W3.heap.size (.map #[{ key:=.bool true,val:=.int .u64 1,born:=0 }] 1)):=Kc9 (Kac _) (Nat.le_refl _)
  have hlk:=fun a=>lookup_tu (w:=(W3.alloc (.map #[] 0)).putObj W3.heap.size (.map #[{ key:=.bool true,val:=.int .u64 1,born:=0 }] 1)) (b:=W3.heap.size) (clk:=1) (Kcn (heap_alloc_new _ _)) a
  generalize (W3.alloc (.map #[] 0)).putObj W3.heap.size (.map #[{ key:=.bool true,val:=.int .u64 1,born:=0 }] 1) = W4 at *
  have d2:=Kak hbm (ltOf c2) c2
  have d31:=Kak hbm (ltOf c31) c31
  have HN:=yh (Ka7 (n:=if b then 1 else 0) (by cases b <;> decide) (HT.out.1.below hbm) (by rw [List.length_append];simp;omega))
  have HBM:=yh (WTo.of_below (q:=q) (o:=o3) hbm)
  clear hl c31 hbm
  cases b
  ·have hl0:=hlk false
   clear hlk
   go_wp2_with (go_at_call 42;refine HN.out.mono ?_;rintro e W5 ⟨rfl,o4,h4,t4⟩;have HE:=yh (And.intro h4 (HBM.out.trans t4));clear h4 t4 HN)
   go_end0
   exact FIN.out _ o4 _ e1 HE.out.1 HE.out.2
  ·have hl0:=hlk true
   clear hlk
   go_wp2_with (go_at_call 42;refine HN.out.mono ?_;rintro e W5 ⟨rfl,o4,h4,t4⟩;have HE:=yh (And.intro h4 (HBM.out.trans t4));clear h4 t4 HN)
   go_end0
   exact FIN.out _ o4 _ e1 HE.out.1 HE.out.2
 ·have e1 : valC (.mk 2 false n [] [] []) = UInt8.ofNat (2 : Int).toNat :: numB (zzN n):=by rw [valC,if_neg (by decide),if_pos rfl]
  have HN:=yh (Kea g1 HT.out.1 (by rw [e1] at hl;simp only [List.length_append,List.length_cons,List.length_nil] at *;omega))
  clear hl c31 c33 c35
  go_wp2_with (go_at_call 116;refine HN.out.mono ?_;rintro e W4 ⟨rfl,o4,h4,t4⟩;have HE:=yh (And.intro h4 t4);clear h4 t4 HN)
  go_end0
  exact FIN.out _ o4 _ e1 HE.out.1 HE.out.2
 ·have e1 : valC (.mk 3 false 0 t [] []) = UInt8.ofNat (3 : Int).toNat :: textC t:=by rw [valC,if_neg (by decide),if_neg (by decide),if_pos rfl]
  have htl : (textC t).length = (numB t.length).length + t.length:=by unfold textC;rw [List.length_append]
  have HN:=yh (wtext_any (s:=t) HT.out.1 (by rw [e1] at hl;simp only [List.length_append,List.length_cons,List.length_nil] at *;omega))
  clear hl c31 c32 c35 htl
  go_wp2_with (go_at_call 96;refine HN.out.mono ?_;rintro e W4 ⟨rfl,o4,h4,t4⟩;have HE:=yh (And.intro h4 t4);clear h4 t4 HN)
  go_end0
  exact FIN.out _ o4 _ e1 HE.out.1 HE.out.2
 ·have e1 : valC (.mk 4 false 0 [] [] l) = UInt8.ofNat (4 : Int).toNat :: rowsC valC l:=by rw [valC,if_neg (by decide),if_neg (by decide),if_neg (by decide),if_pos rfl,rows_vals]
  have HN:=yh (rowV_tells Kec valC HV.out.grd HT.out.1 (by rw [e1] at hl;simp only [List.length_append,List.length_cons,List.length_nil] at *;omega) (fun x hx m o W cs hw hF hm=>HI.out x hx d (g2 x hx) W q m o cs hF hw hm))
  clear hl c31 c32 c33
  go_wp2_with (go_at_call 117;refine HN.out.mono ?_;rintro e W4 ⟨rfl,o4,h4,t4⟩;have HE:=yh (And.intro h4 t4);clear h4 t4 HN)
  go_end0
  exact FIN.out _ o4 _ e1 HE.out.1 HE.out.2
 ·have e1 : valC (.mk 5 false 0 [] ks l) = UInt8.ofNat (5 : Int).toNat :: rowsC (fun p : List UInt8 × V=>textC p.1 ++ valC p.2) (ks.zip l):=by rw [valC,if_neg (by decide),if_neg (by decide),if_neg (by decide),if_neg (by decide),if_pos rfl,rows_pairs g1]
  have hz : (ks.zip l).length = l.length:=by simp;omega
  have hbn:=Kac (w:=W3) (.cells #[.int .i64 0] 3)
  have hm0 : MapJ q #[.int .i64 5,.bool false,.int .i64 0,.string (strB []),.slice pk ks.length ck,.slice pl l.length cl] W.heap.size (W.heap.size + 1) W3.heap.size W3 o3 0 (W3.alloc (.cells #[.int .i64 0] 3)) o3 :=
   ⟨HT.out.2.1.to (WTo.of_below hbn),HT.out.2.2.to (WTo.of_below hbn),HT.out.1.side hbn (Nat.le_refl _) (heap_alloc_new W3 _),⟨by have:=(Array.getElem?_eq_some_iff.1 HT.out.2.1.at_).1;omega,by have:=(Array.getElem?_eq_some_iff.1 HT.out.2.2.at_).1;omega⟩,WTo.of_below hbn,Nat.le_refl _⟩
  have hrow:=rowM_any ef_pair (fun p : List UInt8 × V=>textC p.1 ++ valC p.2) (a1:=some ⟨W.heap.size,0,none⟩) (a2:=some ⟨W.heap.size + 1,0,none⟩) (a3:=some ⟨W3.heap.size,0,none⟩) (zip_grd HV.out g1) (HT.out.1.below hbn) (by rw [e1] at hl;simp only [List.length_append,List.length_cons,List.length_nil] at *;omega)
   (fun j W' o'=>MapJ q #[.int .i64 5,.bool false,.int .i64 0,.string (strB []),.slice pk ks.length ck,.slice pl l.length cl] W.heap.size (W.heap.size + 1) W3.heap.size W3 o3 j W' o') (fun j W1 W2 o1 o2 h1 h2=>h1.step h2) hm0
   (fun j hj m o W' cs hJ hw hF hm=>by
     have e : (ks.zip l)[j] = (ks[j]'(by simp at hj;omega),l[j]'(by simp at hj;omega)):=List.getElem_zip
     rw [e] at hF hm ⊢
     exact wpair_any hJ hw hF (HI.out _ (List.getElem_mem _)) (g4 _ (List.getElem_mem _)) HK.out _ hm HT.out.1.b.size)
  rw [hz] at hrow
  have HN:=yh hrow
  have b2:=Kak hbn (ltOf c2) c2
  have b5:=Kak hbn (ltOf c35) c35
  clear hl c31 c32 c33 hrow hm0 hbn
  go_wp2_with (go_at_call 117;refine HN.out.mono ?_;rintro e W4 ⟨rfl,o4,h4,t4⟩;have HE:=yh (And.intro h4 t4.tw);clear h4 t4 HN)
  go_end0
  exact FIN.out _ o4 _ e1 HE.out.1 HE.out.2
 ·rcases hk with rfl | rfl
  ·have e1 : valC (.mk 6 false n [] [] []) = UInt8.ofNat (6 : Int).toNat :: numB (toU n):=by rw [valC,if_neg (by decide),if_neg (by decide),if_neg (by decide),if_neg (by decide),if_neg (by decide),if_pos (by decide)]
   have hu:=Kdt g1
   have HN:=yh (Ka7 (n:=toU n) (Kb8 g1).1 HT.out.1 (by rw [e1] at hl;simp only [List.length_append,List.length_cons,List.length_nil] at *;omega))
   clear hl c31 c33 c35
   go_wp2_with (go_at_call 42;refine HN.out.mono ?_;rintro e W4 ⟨rfl,o4,h4,t4⟩;have HE:=yh (And.intro h4 t4);clear h4 t4 HN)
   go_end0
   exact FIN.out _ o4 _ e1 HE.out.1 HE.out.2
  ·have e1 : valC (.mk 7 false n [] [] []) = UInt8.ofNat (7 : Int).toNat :: numB (toU n):=by rw [valC,if_neg (by decide),if_neg (by decide),if_neg (by decide),if_neg (by decide),if_neg (by decide),if_pos (by decide)]
   have hu:=Kdt g1
   have HN:=yh (Ka7 (n:=toU n) (Kb8 g1).1 HT.out.1 (by rw [e1] at hl;simp only [List.length_append,List.length_cons,List.length_nil] at *;omega))
   clear hl c31 c33 c35
   go_wp2_with (go_at_call 42;refine HN.out.mono ?_;rintro e W4 ⟨rfl,o4,h4,t4⟩;have HE:=yh (And.intro h4 t4);clear h4 t4 HN)
   go_end0
   exact FIN.out _ o4 _ e1 HE.out.1 HE.out.2
theorem wvalue_any (w : World) : WVal w:=by
 refine V.ind ?_
 intro k b n t ks l ih
 exact wvalue_of ih
theorem rowP_any {α : Type} {F : World → α → Array Value → Prop} (hF : EF F 7) (en : α → List UInt8) {l : List α} {w W : World} {q : Nat} {m : List UInt8} {o : Value} {p : Option Addr} {c : Nat}
 (hrd : GRd F 7 w p c l) (h : WS 83 w W q m o) (hlen : m.length + (rowsC en l).length ≤ 1000000000000)
 (J : Nat → World → Value → Prop) (hJ : ∀ j W W' o o',J j W o → WTo q o o' W W' → J j W' o') (h0 : J 0 W o)
 (one : ∀ j (hj : j < l.length) m o W cs,J j W o → WS 83 w W q m o → F w l[j] cs → m.length + (en l[j]).length ≤ 1000000000000 → Calls Tryz.prog 98 #[.pointer (some ⟨q,0,none⟩),.agg cs] W fun e W'=>e = .returned (.tuple #[]) ∧ ∃ o',WS 83 w W' q (m ++ en l[j]) o' ∧ J (j + 1) W' o') :
 Calls Tryz.prog 97 #[.pointer (some ⟨q,0,none⟩),.slice p l.length c,(.func (.func 98) #[.pointer (some ⟨q,0,none⟩)] #[])] W fun e W'=>e = .returned (.tuple #[]) ∧ ∃ o',WS 83 w W' q (m ++ rowsC en l) o' ∧ J l.length W' o':=by
 have z1 : (l.length : Int) ≤ 140737488355328:=by have:=hrd.1.2.1;omega
 have hu : toU (l.length : Int) = l.length:=by unfold toU;rw [if_neg (by omega)];simp
 have hnum:=Ka7 (n:=l.length) (by omega) h (by omega)
 have HN:=yh hnum
 have HJ:=yh hJ
 have HO:=yh one
 have HR:=yh hrd
 have HL:=yh hlen
 have H0:=yh h0
 clear hnum hJ one hrd hlen h0 hu h
 go_enter Tryz.func97,Tryz.ntmps97
 go_wp2_with (go_at_call 42;refine HN.out.mono ?_;rintro e W1 ⟨rfl,o1,h1,t1⟩;have H1:=yh (And.intro h1 (HJ.out _ _ _ _ _ H0.out t1));clear h1 t1)
 go_loopw [15] (fun i wr=>∃ j : Nat,j ≤ l.length ∧ i = .int .i64 (j : Int) ∧ Hid (∃ o,WS 83 w wr q (m ++ numB l.length ++ (l.take j).flatMap en) o ∧ J j wr o)) (fun i _=>l.length - (intOf i).toNat)
 case atStart=>exact ⟨0,Nat.zero_le _,rfl,yh ⟨o1,by simpa using H1.out.1,H1.out.2⟩⟩
 case round =>
  obtain ⟨j,hj,rfl,HI⟩:=hrel
  obtain ⟨o2,h2,j2⟩:=HI.out
  by_cases hlt : j < l.length
  ·have hlt1 : j + 1 ≤ l.length:=hlt
   obtain ⟨b,of,cs,rfl,hs,hc,hv⟩:=HR.out.get hlt
   have hones:=hF.ones hv
   have hL1:=StT.load Kco hs (fun i u hu=>Kak h2.b (ltOf (hc i u hu)) (hc i u hu)) (W:=wr)
   have hS:=StT.fresh Kco hs hones (W:=wr)
   have hL2:=StT.get Kco hs (heap_alloc_new wr (.cells cs 136))
   have hbn:=Kac (w:=wr) (.cells cs 136)
   have h3:=h2.below hbn
   have hst:=Kdu (e:=en) hlt
   have hle : (m ++ numB l.length ++ (l.take j).flatMap en).length + (en l[j]).length ≤ 1000000000000:=by
    have e1 : (l.flatMap en).length = ((l.take (j + 1)).flatMap en).length + ((l.drop (j + 1)).flatMap en).length:=by
     rw [← List.length_append,← List.flatMap_append,List.take_append_drop]
    have:=HL.out
    unfold rowsC at this
    rw [hst] at e1
    simp only [List.length_append] at *
    omega
   have hone:=HO.out j hlt _ _ _ cs (HJ.out _ _ _ _ _ j2 (WTo.of_below hbn)) h3 hv hle
   rw [List.append_assoc _ _ (en l[j]),← hst] at hone
   have HL1:=yh hL1
   have HS:=yh hS
   have HL2:=yh hL2
   have HC:=yh hone
   clear hc hones hL1 hS hL2 hbn h3 hst hle hone HI h2 j2 hv H1 HN H0 HL
   go_wp2_with (first
    | (refine Kaw rfl _ _ _ rfl rfl HL1.out ?_;clear HL1)
    | (refine Kat rfl _ _ _ _ rfl rfl rfl (HS.out _ rfl) ?_;clear HS)
    | (refine Kaw rfl _ _ _ rfl rfl HL2.out ?_;clear HL2)
    | (go_at_call 98;refine HC.out.mono ?_;rintro e W2 ⟨rfl,hw2⟩;have HW2:=yh hw2;clear hw2 HC))
   go_roundw
   case rel=>exact ⟨j + 1,hlt1,by go_num,HW2⟩
   case measure=>simp [intOf];omega
  ·obtain rfl : j = l.length:=by omega
   have HF:=yh (show ∃ o',WS 83 w wr q (m ++ rowsC en l) o' ∧ J l.length wr o' from ⟨o2,by rw [← rows_at,← List.append_assoc];exact h2,j2⟩)
   clear HI h2 j2 H1 HN H0 HL
   go_wp2
   go_end0
   exact ⟨rfl,HF.out⟩
theorem rowP_tells {α : Type} {F : World → α → Array Value → Prop} (hF : EF F 7) (en : α → List UInt8) {l : List α} {w W : World} {q : Nat} {m : List UInt8} {o : Value} {p : Option Addr} {c : Nat}
 (hrd : GRd F 7 w p c l) (h : WS 83 w W q m o) (hlen : m.length + (rowsC en l).length ≤ 1000000000000)
 (one : ∀ x ∈ l,∀ m o W cs,WS 83 w W q m o → F w x cs → m.length + (en x).length ≤ 1000000000000 → Calls Tryz.prog 98 #[.pointer (some ⟨q,0,none⟩),.agg cs] W (Tells w W q m o (en x))) :
 Calls Tryz.prog 97 #[.pointer (some ⟨q,0,none⟩),.slice p l.length c,(.func (.func 98) #[.pointer (some ⟨q,0,none⟩)] #[])] W (Tells w W q m o (rowsC en l)):=by
 refine (rowP_any hF en hrd h hlen (fun _ W' o'=>WTo q o o' W W') (fun j W1 W2 o1 o2 h1 h2=>h1.trans h2) (WTo.refl q o W) ?_).mono ?_
 ·intro j hj m o1 W1 cs h1 h2 h3 h4
  refine (one _ (List.getElem_mem hj) m o1 W1 cs h2 h3 h4).mono ?_
  rintro e W2 ⟨rfl,o2,h5,h6⟩
  exact ⟨rfl,o2,h5,h1.trans h6⟩
 ·rintro e W' ⟨rfl,o',h1,h2⟩
  exact ⟨rfl,o',h1,h2⟩
theorem rowN_any {α : Type} {F : World → α → Array Value → Prop} (hF : EF F 3) (en : α → List UInt8) {l : List α} {w W : World} {q : Nat} {m : List UInt8} {o : Value} {p : Option Addr} {c : Nat}
 (hrd : GRd F 3 w p c l) (h : WS 83 w W q m o) (hlen : m.length + (rowsC en l).length ≤ 1000000000000)
 (J : Nat → World → Value → Prop) (hJ : ∀ j W W' o o',J j W o → WTo q o o' W W' → J j W' o') (h0 : J 0 W o)
 (one : ∀ j (hj : j < l.length) m o W cs,J j W o → WS 83 w W q m o → F w l[j] cs → m.length + (en l[j]).length ≤ 1000000000000 → Calls Tryz.prog 39 #[.pointer (some ⟨q,0,none⟩),.agg cs] W fun e W'=>e = .returned (.tuple #[]) ∧ ∃ o',WS 83 w W' q (m ++ en l[j]) o' ∧ J (j + 1) W' o') :
 Calls Tryz.prog 38 #[.pointer (some ⟨q,0,none⟩),.slice p l.length c,(.func (.func 39) #[.pointer (some ⟨q,0,none⟩)] #[])] W fun e W'=>e = .returned (.tuple #[]) ∧ ∃ o',WS 83 w W' q (m ++ rowsC en l) o' ∧ J l.length W' o':=by
 have z1 : (l.length : Int) ≤ 140737488355328:=by have:=hrd.1.2.1;omega
 have hu : toU (l.length : Int) = l.length:=by unfold toU;rw [if_neg (by omega)];simp
 have hnum:=Ka7 (n:=l.length) (by omega) h (by omega)
 have HN:=yh hnum
 have HJ:=yh hJ
 have HO:=yh one
 have HR:=yh hrd
 have HL:=yh hlen
 have H0:=yh h0
 clear hnum hJ one hrd hlen h0 hu h
 go_enter Tryz.func38,Tryz.ntmps38
 go_wp2_with (go_at_call 42;refine HN.out.mono ?_;rintro e W1 ⟨rfl,o1,h1,t1⟩;have H1:=yh (And.intro h1 (HJ.out _ _ _ _ _ H0.out t1));clear h1 t1)
 go_loopw [15] (fun i wr=>∃ j : Nat,j ≤ l.length ∧ i = .int .i64 (j : Int) ∧ Hid (∃ o,WS 83 w wr q (m ++ numB l.length ++ (l.take j).flatMap en) o ∧ J j wr o)) (fun i _=>l.length - (intOf i).toNat)
 case atStart=>exact ⟨0,Nat.zero_le _,rfl,yh ⟨o1,by simpa using H1.out.1,H1.out.2⟩⟩
 case round =>
  obtain ⟨j,hj,rfl,HI⟩:=hrel
  obtain ⟨o2,h2,j2⟩:=HI.out
  by_cases hlt : j < l.length
  ·have hlt1 : j + 1 ≤ l.length:=hlt
   obtain ⟨b,of,cs,rfl,hs,hc,hv⟩:=HR.out.get hlt
   have hones:=hF.ones hv
   have hL1:=StT.load Kbo hs (fun i u hu=>Kak h2.b (ltOf (hc i u hu)) (hc i u hu)) (W:=wr)
   have hS:=StT.fresh Kbo hs hones (W:=wr)
   have hL2:=StT.get Kbo hs (heap_alloc_new wr (.cells cs 70))
   have hbn:=Kac (w:=wr) (.cells cs 70)
   have h3:=h2.below hbn
   have hst:=Kdu (e:=en) hlt
   have hle : (m ++ numB l.length ++ (l.take j).flatMap en).length + (en l[j]).length ≤ 1000000000000:=by
    have e1 : (l.flatMap en).length = ((l.take (j + 1)).flatMap en).length + ((l.drop (j + 1)).flatMap en).length:=by
     rw [← List.length_append,← List.flatMap_append,List.take_append_drop]
    have:=HL.out
    unfold rowsC at this
    rw [hst] at e1
    simp only [List.length_append] at *
    omega
   have hone:=HO.out j hlt _ _ _ cs (HJ.out _ _ _ _ _ j2 (WTo.of_below hbn)) h3 hv hle
   rw [List.append_assoc _ _ (en l[j]),← hst] at hone
   have HL1:=yh hL1
   have HS:=yh hS
   have HL2:=yh hL2
   have HC:=yh hone
   clear hc hones hL1 hS hL2 hbn h3 hst hle hone HI h2 j2 hv H1 HN H0 HL
   go_wp2_with (first
    | (refine Kaw rfl _ _ _ rfl rfl HL1.out ?_;clear HL1)
    | (refine Kat rfl _ _ _ _ rfl rfl rfl (HS.out _ rfl) ?_;clear HS)
    | (refine Kaw rfl _ _ _ rfl rfl HL2.out ?_;clear HL2)
    | (go_at_call 39;refine HC.out.mono ?_;rintro e W2 ⟨rfl,hw2⟩;have HW2:=yh hw2;clear hw2 HC))
   go_roundw
   case rel=>exact ⟨j + 1,hlt1,by go_num,HW2⟩
   case measure=>simp [intOf];omega
  ·obtain rfl : j = l.length:=by omega
   have HF:=yh (show ∃ o',WS 83 w wr q (m ++ rowsC en l) o' ∧ J l.length wr o' from ⟨o2,by rw [← rows_at,← List.append_assoc];exact h2,j2⟩)
   clear HI h2 j2 H1 HN H0 HL
   go_wp2
   go_end0
   exact ⟨rfl,HF.out⟩
theorem rowN_tells {α : Type} {F : World → α → Array Value → Prop} (hF : EF F 3) (en : α → List UInt8) {l : List α} {w W : World} {q : Nat} {m : List UInt8} {o : Value} {p : Option Addr} {c : Nat}
 (hrd : GRd F 3 w p c l) (h : WS 83 w W q m o) (hlen : m.length + (rowsC en l).length ≤ 1000000000000)
 (one : ∀ x ∈ l,∀ m o W cs,WS 83 w W q m o → F w x cs → m.length + (en x).length ≤ 1000000000000 → Calls Tryz.prog 39 #[.pointer (some ⟨q,0,none⟩),.agg cs] W (Tells w W q m o (en x))) :
 Calls Tryz.prog 38 #[.pointer (some ⟨q,0,none⟩),.slice p l.length c,(.func (.func 39) #[.pointer (some ⟨q,0,none⟩)] #[])] W (Tells w W q m o (rowsC en l)):=by
 refine (rowN_any hF en hrd h hlen (fun _ W' o'=>WTo q o o' W W') (fun j W1 W2 o1 o2 h1 h2=>h1.trans h2) (WTo.refl q o W) ?_).mono ?_
 ·intro j hj m o1 W1 cs h1 h2 h3 h4
  refine (one _ (List.getElem_mem hj) m o1 W1 cs h2 h3 h4).mono ?_
  rintro e W2 ⟨rfl,o2,h5,h6⟩
  exact ⟨rfl,o2,h5,h1.trans h6⟩
 ·rintro e W' ⟨rfl,o',h1,h2⟩
  exact ⟨rfl,o',h1,h2⟩
theorem take_len {α : Type} (en : α → List UInt8) {l : List α} {m : List UInt8} {n j : Nat} (h : j < l.length) (hl : m.length + (rowsC en l).length ≤ n) : (m ++ numB l.length ++ (l.take j).flatMap en).length + (en l[j]).length ≤ n:=by
 have hst:=Kdu (e:=en) h
 have e1 : (l.flatMap en).length = ((l.take (j + 1)).flatMap en).length + ((l.drop (j + 1)).flatMap en).length:=by
  rw [← List.length_append,← List.flatMap_append,List.take_append_drop]
 unfold rowsC at hl
 rw [hst] at e1
 simp only [List.length_append] at *
 omega
theorem rowS_tells {l : List (List UInt8)} {w W : World} {q : Nat} {m : List UInt8} {o : Value} {p : Option Addr} {c : Nat}
 (hrd : RdS w p c l) (h : WS 83 w W q m o) (hlen : m.length + (rowsC textC l).length ≤ 1000000000000) :
 Calls Tryz.prog 95 #[.pointer (some ⟨q,0,none⟩),.slice p l.length c,.func (.func 96) #[.pointer (some ⟨q,0,none⟩)] #[]] W (Tells w W q m o (rowsC textC l)):=by
 have z1 : (l.length : Int) ≤ 140737488355328:=by have:=hrd.2.1.1;omega
 have hnum:=Ka7 (n:=l.length) (by omega) h (by omega)
 have HN:=yh hnum
 have HR:=yh hrd
 have HL:=yh hlen
 clear hnum hrd hlen h
 go_enter Tryz.func95,Tryz.ntmps95
 go_wp2_with (go_at_call 42;refine HN.out.mono ?_;rintro e W1 ⟨rfl,o1,h1,t1⟩;have H1:=yh (And.intro h1 t1);clear h1 t1)
 go_loopw [15] (fun i wr=>∃ j : Nat,j ≤ l.length ∧ i = .int .i64 (j : Int) ∧ Hid (∃ o',WS 83 w wr q (m ++ numB l.length ++ (l.take j).flatMap textC) o' ∧ WTo q o o' W wr)) (fun i _=>l.length - (intOf i).toNat)
 case atStart=>exact ⟨0,Nat.zero_le _,rfl,yh ⟨o1,by simpa using H1.out.1,H1.out.2⟩⟩
 case round =>
  obtain ⟨j,hj,rfl,HI⟩:=hrel
  obtain ⟨o2,h2,j2⟩:=HI.out
  by_cases hlt : j < l.length
  ·have hlt1 : j + 1 ≤ l.length:=hlt
   obtain ⟨b,of,rfl,hc,hcl⟩:=(HR.out.below h2.b).get hlt
   have hst:=Kdu (e:=textC) hlt
   have hle:=take_len textC hlt HL.out
   have hone:=wtext_any h2 (s:=l[j]) (by have htl : (textC l[j]).length = (numB l[j].length).length + l[j].length:=(by unfold textC;rw [List.length_append]);omega)
   have hap : m ++ numB l.length ++ (l.take j).flatMap textC ++ textC l[j] = m ++ numB l.length ++ (l.take (j + 1)).flatMap textC:=by rw [hst,List.append_assoc _ _ (textC l[j])]
   unfold Tells at hone
   rw [hap] at hone
   generalize l[j] = s at *
   have HC:=yh hone
   have HT:=yh j2
   clear hst hle hone HI h2 j2 H1 HN HL hcl hap
   go_wp2_with (go_at_call 96;refine HC.out.mono ?_;rintro e W2 ⟨rfl,o3,h3,t3⟩;have HW2:=yh (And.intro h3 (HT.out.trans t3));clear h3 t3 HC)
   go_roundw
   case rel=>exact ⟨j + 1,hlt1,by go_num,yh ⟨o3,HW2.out⟩⟩
   case measure=>simp [intOf];omega
  ·obtain rfl : j = l.length:=by omega
   have HF:=yh (show ∃ o',WS 83 w wr q (m ++ rowsC textC l) o' ∧ WTo q o o' W wr from ⟨o2,by rw [← rows_at,← List.append_assoc];exact h2,j2⟩)
   clear HI h2 j2 H1 HN HL
   go_wp2
   go_end0
   exact ⟨rfl,HF.out⟩
theorem wprop_any {w W : World} (hval : WVal w) {p : PropD} (hwf : wfP p) {q : Nat} {l : List UInt8} {o : Value} {x : Array Value} (hx : PRd w p x) (h : WS 83 w W q l o) (hl : l.length + (propC p).length ≤ 1000000000000) :
 Calls Tryz.prog 98 #[.pointer (some ⟨q,0,none⟩),.agg x] W (Tells w W q l o (propC p)):=by
 obtain ⟨y,hxy,hk,hv⟩:=hx
 unfold propC at hl ⊢
 rw [List.length_append] at hl
 have hb:=Kac (w:=W) (.cells x 136)
 have hbx : (W.alloc (.cells x 136)).heap[W.heap.size]? = some (.cells x 136 (0,0)):=heap_alloc_new W _
 have h1:=h.below hb
 have hq : W.heap.size ≠ q:=fun e=>by have:=h.lt;omega
 have ho : o.ownBlock ≠ some W.heap.size:=fun e=>by have:=h.own_lt e;omega
 have hk0 : x[0]? = some (.string (strB p.key)):=by rw [hxy,Array.getElem?_append_left (by simp)];rfl
 have hkx : ∀ (i : Nat) (u : Value),y[i]? = some u → x[1 + i]? = some u:=fun i u hu=>by rw [hxy,Array.getElem?_append_right (by simp)];simpa using hu
 have hlen : (textC p.key).length = (numB p.key.length).length + p.key.length:=by unfold textC;rw [List.length_append]
 have HT:=yh (wtext_any h1 (s:=p.key) (by omega))
 have HK:=yh (Kag (P:=Tryz.prog) (w:=W.alloc (.cells x 136)) Tryz.underlying9 rfl (Kab (o:=0) hbx hk0))
 have HB:=yh (And.intro hb (And.intro hbx (And.intro h1 (And.intro hq ho))))
 have HX:=yh hkx
 have HV:=yh hv
 clear hb hbx h1 hq ho hk0 hkx hxy hlen h
 go_enter Tryz.func98,Tryz.ntmps98
 go_wp2_with (first
  | (refine Kaw rfl _ _ _ rfl rfl HK.out ?_;clear HK)
  | (go_at_call 96;refine HT.out.mono ?_;rintro e W2 ⟨rfl,o2,h2,t2⟩
     (
      obtain ⟨hb,hbx,h1,hq,ho⟩:=HB.out
      have hbx2:=t2.box h1 hbx hq ho
      have HL:=yh (StT.load Kbp (g:=W.heap.size) (o:=1) (Kec.size HV.out) (fun i u hu=>Kab hbx2 (HX.out i u hu)))
      have HC:=yh (hval.at p.val hwf.2 HV.out h2 (by rw [List.length_append];omega))
      have HF:=yh ((WTo.of_below (q:=q) (o:=o) hb).trans t2)
      clear hb hbx h1 hq ho hbx2 h2 t2 HT HB))
  | (refine Kaw rfl _ _ _ rfl rfl HL.out ?_;clear HL)
  | (go_at_call 64;refine HC.out.mono ?_;rintro e W3 ⟨rfl,o3,h3,t3⟩;have HE:=yh (And.intro h3 (HF.out.trans t3));clear h3 t3 HC))
 go_end0
 refine ⟨rfl,o3,?_,HE.out.2⟩
 rw [← List.append_assoc]
 exact HE.out.1
theorem wnode_any {w W : World} (hval : WVal w) {n : NodeD} (hwf : wfN n) {q : Nat} {l : List UInt8} {o : Value} {x : Array Value} (hx : NRd w n x) (h : WS 83 w W q l o) (hl : l.length + (nodeC n).length ≤ 1000000000000) :
 Calls Tryz.prog 39 #[.pointer (some ⟨q,0,none⟩),.agg x] W (Tells w W q l o (nodeC n)):=by
 obtain ⟨pl,cl,pp,cp,rfl,hls,hps⟩:=hx
 obtain ⟨hid,hwl,hwp⟩:=hwf
 unfold nodeC at hl ⊢
 simp only [List.length_append] at hl
 have hb:=Kac (w:=W) (.cells #[.int .i64 n.id,.slice pl n.labels.length cl,.slice pp n.props.length cp] 70)
 have hbx : (W.alloc (.cells #[.int .i64 n.id,.slice pl n.labels.length cl,.slice pp n.props.length cp] 70)).heap[W.heap.size]? = some (.cells #[.int .i64 n.id,.slice pl n.labels.length cl,.slice pp n.props.length cp] 70 (0,0)):=heap_alloc_new W _
 have h1:=h.below hb
 have hq : W.heap.size ≠ q:=fun e=>by have:=h.lt;omega
 have ho : o.ownBlock ≠ some W.heap.size:=fun e=>by have:=h.own_lt e;omega
 have hlt : W.heap.size < (W.alloc (.cells #[.int .i64 n.id,.slice pl n.labels.length cl,.slice pp n.props.length cp] 70)).heap.size:=by simp
 have hu : ((IntKind.u64.wrap n.id : Int)) = (toU n.id : Int):=Kdt hid
 have HN:=yh (Ka7 (n:=toU n.id) (Kb8 hid).1 h1 (by omega))
 have HB:=yh (And.intro hb (And.intro hbx (And.intro h1 (And.intro hq (And.intro ho hlt)))))
 have HS:=yh hls
 have HP:=yh hps
 have HW:=yh hwp
 clear hb hbx h1 hq ho hlt hls hps hwp hwl h
 go_enter Tryz.func39,Tryz.ntmps39
 go_wp2_with (first
  | (go_at_call 42;refine HN.out.mono ?_;rintro e W2 ⟨rfl,o2,h2,t2⟩
     (
      obtain ⟨hb,hbx,h1,hq,ho,hlt⟩:=HB.out
      have hbx2:=t2.box h1 hbx hq ho
      have ho2:=t2.not hlt ho
      have HL1:=Kab (o:=1) hbx2 rfl
      have HR1:=yh (rowS_tells HS.out h2 (by rw [List.length_append];omega))
      have HF:=yh (And.intro ((WTo.of_below (q:=q) (o:=o) hb).trans t2) (And.intro hbx2 (And.intro h2 (And.intro hq ho2))))
      clear hb hbx h1 hq ho hbx2 h2 t2 HN HB hlt ho2))
  | (go_at_call 95;refine HR1.out.mono ?_;rintro e W3 ⟨rfl,o3,h3,t3⟩
     (
      obtain ⟨t2,hbx2,h2,hq,ho2⟩:=HF.out
      have hbx3:=t3.box h2 hbx2 hq ho2
      have HL2:=Kab (o:=2) hbx3 rfl
      have HR2:=yh (rowP_tells Kfa propC HP.out h3 (by simp only [List.length_append];omega) (fun p hp m o W cs hw hF hm=>wprop_any hval (HW.out.2 p hp) hF hw hm))
      have HG:=yh (t2.trans t3)
      clear t2 hbx2 h2 hq ho2 HF HR1 hbx3 h3 t3 HL1))
  | (go_at_call 97;refine HR2.out.mono ?_;rintro e W4 ⟨rfl,o4,h4,t4⟩;have HE:=yh (And.intro h4 (HG.out.trans t4));clear h4 t4 HR2))
 go_end0
 refine ⟨rfl,o4,?_,HE.out.2⟩
 rw [← List.append_assoc,← List.append_assoc]
 exact HE.out.1
def relNs (r : RelD) : List Int:=[r.id,r.src,r.dst]
def numsC (l : List Int) : List UInt8:=l.flatMap fun n=>numB (toU n)
theorem numsC_len {l : List Int} (h : ∀ n ∈ l,i64T n) : (numsC l).length ≤ 10 * l.length:=by
 unfold numsC
 induction l with
 | nil=>simp
 | cons a l ih =>
   have:=Kbu (Kb8 (h a (by simp))).1
   have:=ih fun n hn=>h n (by simp [hn])
   simp only [List.flatMap_cons,List.length_append,List.length_cons]
   omega
theorem relC_eq (r : RelD) : relC r = numsC (relNs r) ++ (textC r.type ++ rowsC propC r.props):=by
 unfold relC numsC relNs
 simp
theorem wfR_ns {r : RelD} (h : wfR r) : ∀ n ∈ relNs r,i64T n:=by
 unfold relNs
 intro n hn
 simp only [List.mem_cons,List.not_mem_nil,or_false] at hn
 rcases hn with rfl | rfl | rfl
 ·exact h.1
 ·exact h.2.1
 ·exact h.2.2.1
theorem index_three0 (a b c : Int) (W : World) : (Instr.index 148 (.agg #[.int .i64 a,.int .i64 b,.int .i64 c]) (.int .i64 0)).run Tryz.prog W = .ok (.int .i64 a) W:=by kernel_rfl
theorem index_three1 (a b c : Int) (W : World) : (Instr.index 148 (.agg #[.int .i64 a,.int .i64 b,.int .i64 c]) (.int .i64 1)).run Tryz.prog W = .ok (.int .i64 b) W:=by kernel_rfl
theorem index_three2 (a b c : Int) (W : World) : (Instr.index 148 (.agg #[.int .i64 a,.int .i64 b,.int .i64 c]) (.int .i64 2)).run Tryz.prog W = .ok (.int .i64 c) W:=by kernel_rfl
theorem wrel_any {w W : World} (hval : WVal w) {r : RelD} (hwf : wfR r) {q : Nat} {l : List UInt8} {o : Value} {x : Array Value} (hx : RRd w r x) (h : WS 83 w W q l o) (hl : l.length + (relC r).length ≤ 1000000000000) :
 Calls Tryz.prog 41 #[.pointer (some ⟨q,0,none⟩),.agg x] W (Tells w W q l o (relC r)):=by
 obtain ⟨pp,cp,rfl,hty,hps⟩:=hx
 have hns:=wfR_ns hwf
 obtain ⟨h1,h2,h3,hwt,hwp⟩:=hwf
 have hcl:=numsC_len hns
 rw [relC_eq] at hl ⊢
 simp only [List.length_append] at hl
 have htl : (textC r.type).length = (numB r.type.length).length + r.type.length:=by unfold textC;rw [List.length_append]
 have hb:=Kac (w:=W) (.cells #[.int .i64 r.id,.int .i64 r.src,.int .i64 r.dst,.string (strB r.type),.slice pp r.props.length cp] 72)
 have hbx : (W.alloc (.cells #[.int .i64 r.id,.int .i64 r.src,.int .i64 r.dst,.string (strB r.type),.slice pp r.props.length cp] 72)).heap[W.heap.size]? = some (.cells #[.int .i64 r.id,.int .i64 r.src,.int .i64 r.dst,.string (strB r.type),.slice pp r.props.length cp] 72 (0,0)):=heap_alloc_new W _
 have hw1:=h.below hb
 have hq : W.heap.size ≠ q:=fun e=>by have:=h.lt;omega
 have ho : o.ownBlock ≠ some W.heap.size:=fun e=>by have:=h.own_lt e;omega
 have hu : ∀ n ∈ relNs r,IntKind.u64.wrap n = (toU n : Int) ∧ toU n < 18446744073709551616:=fun n hn=>⟨Kdt (hns n hn),(Kb8 (hns n hn)).1⟩
 have hn0 : IntKind.u64.wrap r.id = (toU r.id : Int):=Kdt h1
 have hn1 : IntKind.u64.wrap r.src = (toU r.src : Int):=Kdt h2
 have hn2 : IntKind.u64.wrap r.dst = (toU r.dst : Int):=Kdt h3
 have b0:=(Kb8 h1).1
 have b1:=(Kb8 h2).1
 have b2:=(Kb8 h3).1
 have HB:=yh (And.intro hb (And.intro hbx (And.intro hw1 (And.intro hq ho))))
 have HP:=yh hps
 have HW:=yh hwp
 have HU:=yh (And.intro b0 (And.intro b1 b2))
 have hlt : W.heap.size < (W.alloc (.cells #[.int .i64 r.id,.int .i64 r.src,.int .i64 r.dst,.string (strB r.type),.slice pp r.props.length cp] 72)).heap.size:=by simp
 have HLT:=yh hlt
 have HI0 : Hid (∃ o',WS 83 w (W.alloc (.cells #[.int .i64 r.id,.int .i64 r.src,.int .i64 r.dst,.string (strB r.type),.slice pp r.props.length cp] 72)) q (l ++ numsC ((relNs r).take 0)) o' ∧ WTo q o o' (W.alloc (.cells #[.int .i64 r.id,.int .i64 r.src,.int .i64 r.dst,.string (strB r.type),.slice pp r.props.length cp] 72)) (W.alloc (.cells #[.int .i64 r.id,.int .i64 r.src,.int .i64 r.dst,.string (strB r.type),.slice pp r.props.length cp] 72))) :=
  yh ⟨o,by simpa [numsC] using hw1,WTo.refl _ _ _⟩
 clear hb hbx hw1 hq ho hps hwp hwt h hns hu h1 h2 h3 b0 b1 b2 hlt
 go_enter Tryz.func41,Tryz.ntmps41
 go_wp2
 go_loopw [13] (fun i wr=>∃ j : Nat,j ≤ 3 ∧ i = .int .i64 (j : Int) ∧ Hid (∃ o',WS 83 w wr q (l ++ numsC ((relNs r).take j)) o' ∧ WTo q o o' (W.alloc (.cells #[.int .i64 r.id,.int .i64 r.src,.int .i64 r.dst,.string (strB r.type),.slice pp r.props.length cp] 72)) wr)) (fun i _=>3 - (intOf i).toNat)
 case atStart=>exact ⟨0,Nat.zero_le _,rfl,HI0⟩
 case round =>
  obtain ⟨j,hj,rfl,HI⟩:=hrel
  obtain ⟨o2,h2,t2⟩:=HI.out
  have hj4 : j = 0 ∨ j = 1 ∨ j = 2 ∨ j = 3:=by omega
  rcases hj4 with rfl | rfl | rfl | rfl
  ·have HC:=yh (Ka7 (n:=toU r.id) HU.out.1 h2 (by simp [numsC,relNs];omega))
   have HT:=yh t2
   clear HI h2 t2 HI0
   have HX:=yh (index_three0 r.id r.src r.dst)
   go_wp2_with (first
    | (refine Kbf rfl (exec_index rfl rfl rfl (HX.out _)) ?_)
    | (go_at_call 42;refine HC.out.mono ?_;rintro e W2 ⟨rfl,o3,h3,t3⟩;have HW2:=yh (And.intro h3 (HT.out.trans t3));clear h3 t3 HC))
   go_roundw
   case rel=>exact ⟨1,by omega,rfl,yh ⟨o3,by simpa [numsC,relNs] using HW2.out.1,HW2.out.2⟩⟩
   case measure=>simp [intOf]
  ·have HC:=yh (Ka7 (n:=toU r.src) HU.out.2.1 h2 (by have:=Kbu HU.out.1;simp [numsC,relNs];omega))
   have HT:=yh t2
   clear HI h2 t2 HI0
   have HX:=yh (index_three1 r.id r.src r.dst)
   go_wp2_with (first
    | (refine Kbf rfl (exec_index rfl rfl rfl (HX.out _)) ?_)
    | (go_at_call 42;refine HC.out.mono ?_;rintro e W2 ⟨rfl,o3,h3,t3⟩;have HW2:=yh (And.intro h3 (HT.out.trans t3));clear h3 t3 HC))
   go_roundw
   case rel=>exact ⟨2,by omega,rfl,yh ⟨o3,by simpa [numsC,relNs] using HW2.out.1,HW2.out.2⟩⟩
   case measure=>simp [intOf]
  ·have HC:=yh (Ka7 (n:=toU r.dst) HU.out.2.2 h2 (by have:=Kbu HU.out.1;have:=Kbu HU.out.2.1;simp [numsC,relNs];omega))
   have HT:=yh t2
   clear HI h2 t2 HI0
   have HX:=yh (index_three2 r.id r.src r.dst)
   go_wp2_with (first
    | (refine Kbf rfl (exec_index rfl rfl rfl (HX.out _)) ?_)
    | (go_at_call 42;refine HC.out.mono ?_;rintro e W2 ⟨rfl,o3,h3,t3⟩;have HW2:=yh (And.intro h3 (HT.out.trans t3));clear h3 t3 HC))
   go_roundw
   case rel=>exact ⟨3,by omega,rfl,yh ⟨o3,by simpa [numsC,relNs] using HW2.out.1,HW2.out.2⟩⟩
   case measure=>simp [intOf]
  ·obtain ⟨hb,hbx,hw1,hq,ho⟩:=HB.out
   have hbx2:=t2.box hw1 hbx hq ho
   have ho2:=t2.not HLT.out ho
   have h2' : WS 83 w wr q (l ++ numsC (relNs r)) o2:=h2
   have c3:=Kab (o:=3) hbx2 rfl
   have HC:=yh (wtext_any h2' (s:=r.type) (by rw [List.length_append];omega))
   have HF:=yh (And.intro ((WTo.of_below (q:=q) (o:=o) hb).trans t2) (And.intro hbx2 (And.intro h2' (And.intro hq ho2))))
   clear hb hbx hw1 hq ho hbx2 h2 t2 HI HI0 h2' ho2
   go_wp2_with (first
    | (go_at_call 96;refine HC.out.mono ?_;rintro e W3 ⟨rfl,o3,h3,t3⟩
       (
        obtain ⟨t2,hbx2,h2,hq,ho2⟩:=HF.out
        have hbx3:=t3.box h2 hbx2 hq ho2
        have c4:=Kab (o:=4) hbx3 rfl
        have HR2:=yh (rowP_tells Kfa propC HP.out h3 (by simp only [List.length_append];omega) (fun p hp m o W cs hw hF hm=>wprop_any hval (HW.out.2 p hp) hF hw hm))
        have HG:=yh (t2.trans t3)
        clear t2 hbx2 h2 hq ho2 HF HC hbx3 h3 t3 c3))
    | (go_at_call 97;refine HR2.out.mono ?_;rintro e W4 ⟨rfl,o4,h4,t4⟩;have HE:=yh (And.intro h4 (HG.out.trans t4));clear h4 t4 HR2))
   go_end0
   refine ⟨rfl,o4,?_,HE.out.2⟩
   rw [← List.append_assoc,← List.append_assoc]
   exact HE.out.1
theorem rowR_any {α : Type} {F : World → α → Array Value → Prop} (hF : EF F 5) (en : α → List UInt8) {l : List α} {w W : World} {q : Nat} {m : List UInt8} {o : Value} {p : Option Addr} {c : Nat}
 (hrd : GRd F 5 w p c l) (h : WS 83 w W q m o) (hlen : m.length + (rowsC en l).length ≤ 1000000000000)
 (J : Nat → World → Value → Prop) (hJ : ∀ j W W' o o',J j W o → WTo q o o' W W' → J j W' o') (h0 : J 0 W o)
 (one : ∀ j (hj : j < l.length) m o W cs,J j W o → WS 83 w W q m o → F w l[j] cs → m.length + (en l[j]).length ≤ 1000000000000 → Calls Tryz.prog 41 #[.pointer (some ⟨q,0,none⟩),.agg cs] W fun e W'=>e = .returned (.tuple #[]) ∧ ∃ o',WS 83 w W' q (m ++ en l[j]) o' ∧ J (j + 1) W' o') :
 Calls Tryz.prog 40 #[.pointer (some ⟨q,0,none⟩),.slice p l.length c,(.func (.func 41) #[.pointer (some ⟨q,0,none⟩)] #[])] W fun e W'=>e = .returned (.tuple #[]) ∧ ∃ o',WS 83 w W' q (m ++ rowsC en l) o' ∧ J l.length W' o':=by
 have z1 : (l.length : Int) ≤ 140737488355328:=by have:=hrd.1.2.1;omega
 have hu : toU (l.length : Int) = l.length:=by unfold toU;rw [if_neg (by omega)];simp
 have hnum:=Ka7 (n:=l.length) (by omega) h (by omega)
 have HN:=yh hnum
 have HJ:=yh hJ
 have HO:=yh one
 have HR:=yh hrd
 have HL:=yh hlen
 have H0:=yh h0
 clear hnum hJ one hrd hlen h0 hu h
 go_enter Tryz.func40,Tryz.ntmps40
 go_wp2_with (go_at_call 42;refine HN.out.mono ?_;rintro e W1 ⟨rfl,o1,h1,t1⟩;have H1:=yh (And.intro h1 (HJ.out _ _ _ _ _ H0.out t1));clear h1 t1)
 go_loopw [15] (fun i wr=>∃ j : Nat,j ≤ l.length ∧ i = .int .i64 (j : Int) ∧ Hid (∃ o,WS 83 w wr q (m ++ numB l.length ++ (l.take j).flatMap en) o ∧ J j wr o)) (fun i _=>l.length - (intOf i).toNat)
 case atStart=>exact ⟨0,Nat.zero_le _,rfl,yh ⟨o1,by simpa using H1.out.1,H1.out.2⟩⟩
 case round =>
  obtain ⟨j,hj,rfl,HI⟩:=hrel
  obtain ⟨o2,h2,j2⟩:=HI.out
  by_cases hlt : j < l.length
  ·have hlt1 : j + 1 ≤ l.length:=hlt
   obtain ⟨b,of,cs,rfl,hs,hc,hv⟩:=HR.out.get hlt
   have hones:=hF.ones hv
   have hL1:=StT.load Kcf hs (fun i u hu=>Kak h2.b (ltOf (hc i u hu)) (hc i u hu)) (W:=wr)
   have hS:=StT.fresh Kcf hs hones (W:=wr)
   have hL2:=StT.get Kcf hs (heap_alloc_new wr (.cells cs 72))
   have hbn:=Kac (w:=wr) (.cells cs 72)
   have h3:=h2.below hbn
   have hst:=Kdu (e:=en) hlt
   have hle : (m ++ numB l.length ++ (l.take j).flatMap en).length + (en l[j]).length ≤ 1000000000000:=by
    have e1 : (l.flatMap en).length = ((l.take (j + 1)).flatMap en).length + ((l.drop (j + 1)).flatMap en).length:=by
     rw [← List.length_append,← List.flatMap_append,List.take_append_drop]
    have:=HL.out
    unfold rowsC at this
    rw [hst] at e1
    simp only [List.length_append] at *
    omega
   have hone:=HO.out j hlt _ _ _ cs (HJ.out _ _ _ _ _ j2 (WTo.of_below hbn)) h3 hv hle
   rw [List.append_assoc _ _ (en l[j]),← hst] at hone
   have HL1:=yh hL1
   have HS:=yh hS
   have HL2:=yh hL2
   have HC:=yh hone
   clear hc hones hL1 hS hL2 hbn h3 hst hle hone HI h2 j2 hv H1 HN H0 HL
   go_wp2_with (first
    | (refine Kaw rfl _ _ _ rfl rfl HL1.out ?_;clear HL1)
    | (refine Kat rfl _ _ _ _ rfl rfl rfl (HS.out _ rfl) ?_;clear HS)
    | (refine Kaw rfl _ _ _ rfl rfl HL2.out ?_;clear HL2)
    | (go_at_call 41;refine HC.out.mono ?_;rintro e W2 ⟨rfl,hw2⟩;have HW2:=yh hw2;clear hw2 HC))
   go_roundw
   case rel=>exact ⟨j + 1,hlt1,by go_num,HW2⟩
   case measure=>simp [intOf];omega
  ·obtain rfl : j = l.length:=by omega
   have HF:=yh (show ∃ o',WS 83 w wr q (m ++ rowsC en l) o' ∧ J l.length wr o' from ⟨o2,by rw [← rows_at,← List.append_assoc];exact h2,j2⟩)
   clear HI h2 j2 H1 HN H0 HL
   go_wp2
   go_end0
   exact ⟨rfl,HF.out⟩
theorem rowR_tells {α : Type} {F : World → α → Array Value → Prop} (hF : EF F 5) (en : α → List UInt8) {l : List α} {w W : World} {q : Nat} {m : List UInt8} {o : Value} {p : Option Addr} {c : Nat}
 (hrd : GRd F 5 w p c l) (h : WS 83 w W q m o) (hlen : m.length + (rowsC en l).length ≤ 1000000000000)
 (one : ∀ x ∈ l,∀ m o W cs,WS 83 w W q m o → F w x cs → m.length + (en x).length ≤ 1000000000000 → Calls Tryz.prog 41 #[.pointer (some ⟨q,0,none⟩),.agg cs] W (Tells w W q m o (en x))) :
 Calls Tryz.prog 40 #[.pointer (some ⟨q,0,none⟩),.slice p l.length c,(.func (.func 41) #[.pointer (some ⟨q,0,none⟩)] #[])] W (Tells w W q m o (rowsC en l)):=by
 refine (rowR_any hF en hrd h hlen (fun _ W' o'=>WTo q o o' W W') (fun j W1 W2 o1 o2 h1 h2=>h1.trans h2) (WTo.refl q o W) ?_).mono ?_
 ·intro j hj m o1 W1 cs h1 h2 h3 h4
  refine (one _ (List.getElem_mem hj) m o1 W1 cs h2 h3 h4).mono ?_
  rintro e W2 ⟨rfl,o2,h5,h6⟩
  exact ⟨rfl,o2,h5,h1.trans h6⟩
 ·rintro e W' ⟨rfl,o',h1,h2⟩
  exact ⟨rfl,o',h1,h2⟩
theorem rowC_any {α : Type} {F : World → α → Array Value → Prop} (hF : EF F 11) (en : α → List UInt8) {l : List α} {w W : World} {q : Nat} {m : List UInt8} {o : Value} {p : Option Addr} {c : Nat}
 (hrd : GRd F 11 w p c l) (h : WS 83 w W q m o) (hlen : m.length + (rowsC en l).length ≤ 1000000000000)
 (J : Nat → World → Value → Prop) (hJ : ∀ j W W' o o',J j W o → WTo q o o' W W' → J j W' o') (h0 : J 0 W o)
 (one : ∀ j (hj : j < l.length) m o W cs,J j W o → WS 83 w W q m o → F w l[j] cs → m.length + (en l[j]).length ≤ 1000000000000 → Calls Tryz.prog 77 #[.pointer (some ⟨q,0,none⟩),.agg cs] W fun e W'=>e = .returned (.tuple #[]) ∧ ∃ o',WS 83 w W' q (m ++ en l[j]) o' ∧ J (j + 1) W' o') :
 Calls Tryz.prog 76 #[.pointer (some ⟨q,0,none⟩),.slice p l.length c,(.func (.func 77) #[.pointer (some ⟨q,0,none⟩)] #[])] W fun e W'=>e = .returned (.tuple #[]) ∧ ∃ o',WS 83 w W' q (m ++ rowsC en l) o' ∧ J l.length W' o':=by
 have z1 : (l.length : Int) ≤ 140737488355328:=by have:=hrd.1.2.1;omega
 have hu : toU (l.length : Int) = l.length:=by unfold toU;rw [if_neg (by omega)];simp
 have hnum:=Ka7 (n:=l.length) (by omega) h (by omega)
 have HN:=yh hnum
 have HJ:=yh hJ
 have HO:=yh one
 have HR:=yh hrd
 have HL:=yh hlen
 have H0:=yh h0
 clear hnum hJ one hrd hlen h0 hu h
 go_enter Tryz.func76,Tryz.ntmps76
 go_wp2_with (go_at_call 42;refine HN.out.mono ?_;rintro e W1 ⟨rfl,o1,h1,t1⟩;have H1:=yh (And.intro h1 (HJ.out _ _ _ _ _ H0.out t1));clear h1 t1)
 go_loopw [15] (fun i wr=>∃ j : Nat,j ≤ l.length ∧ i = .int .i64 (j : Int) ∧ Hid (∃ o,WS 83 w wr q (m ++ numB l.length ++ (l.take j).flatMap en) o ∧ J j wr o)) (fun i _=>l.length - (intOf i).toNat)
 case atStart=>exact ⟨0,Nat.zero_le _,rfl,yh ⟨o1,by simpa using H1.out.1,H1.out.2⟩⟩
 case round =>
  obtain ⟨j,hj,rfl,HI⟩:=hrel
  obtain ⟨o2,h2,j2⟩:=HI.out
  by_cases hlt : j < l.length
  ·have hlt1 : j + 1 ≤ l.length:=hlt
   obtain ⟨b,of,cs,rfl,hs,hc,hv⟩:=HR.out.get hlt
   have hones:=hF.ones hv
   have hL1:=StT.load Kb6 hs (fun i u hu=>Kak h2.b (ltOf (hc i u hu)) (hc i u hu)) (W:=wr)
   have hS:=StT.fresh Kb6 hs hones (W:=wr)
   have hL2:=StT.get Kb6 hs (heap_alloc_new wr (.cells cs 74))
   have hbn:=Kac (w:=wr) (.cells cs 74)
   have h3:=h2.below hbn
   have hst:=Kdu (e:=en) hlt
   have hle : (m ++ numB l.length ++ (l.take j).flatMap en).length + (en l[j]).length ≤ 1000000000000:=by
    have e1 : (l.flatMap en).length = ((l.take (j + 1)).flatMap en).length + ((l.drop (j + 1)).flatMap en).length:=by
     rw [← List.length_append,← List.flatMap_append,List.take_append_drop]
    have:=HL.out
    unfold rowsC at this
    rw [hst] at e1
    simp only [List.length_append] at *
    omega
   have hone:=HO.out j hlt _ _ _ cs (HJ.out _ _ _ _ _ j2 (WTo.of_below hbn)) h3 hv hle
   rw [List.append_assoc _ _ (en l[j]),← hst] at hone
   have HL1:=yh hL1
   have HS:=yh hS
   have HL2:=yh hL2
   have HC:=yh hone
   clear hc hones hL1 hS hL2 hbn h3 hst hle hone HI h2 j2 hv H1 HN H0 HL
   go_wp2_with (first
    | (refine Kaw rfl _ _ _ rfl rfl HL1.out ?_;clear HL1)
    | (refine Kat rfl _ _ _ _ rfl rfl rfl (HS.out _ rfl) ?_;clear HS)
    | (refine Kaw rfl _ _ _ rfl rfl HL2.out ?_;clear HL2)
    | (go_at_call 77;refine HC.out.mono ?_;rintro e W2 ⟨rfl,hw2⟩;have HW2:=yh hw2;clear hw2 HC))
   go_roundw
   case rel=>exact ⟨j + 1,hlt1,by go_num,HW2⟩
   case measure=>simp [intOf];omega
  ·obtain rfl : j = l.length:=by omega
   have HF:=yh (show ∃ o',WS 83 w wr q (m ++ rowsC en l) o' ∧ J l.length wr o' from ⟨o2,by rw [← rows_at,← List.append_assoc];exact h2,j2⟩)
   clear HI h2 j2 H1 HN H0 HL
   go_wp2
   go_end0
   exact ⟨rfl,HF.out⟩
theorem rowC_tells {α : Type} {F : World → α → Array Value → Prop} (hF : EF F 11) (en : α → List UInt8) {l : List α} {w W : World} {q : Nat} {m : List UInt8} {o : Value} {p : Option Addr} {c : Nat}
 (hrd : GRd F 11 w p c l) (h : WS 83 w W q m o) (hlen : m.length + (rowsC en l).length ≤ 1000000000000)
 (one : ∀ x ∈ l,∀ m o W cs,WS 83 w W q m o → F w x cs → m.length + (en x).length ≤ 1000000000000 → Calls Tryz.prog 77 #[.pointer (some ⟨q,0,none⟩),.agg cs] W (Tells w W q m o (en x))) :
 Calls Tryz.prog 76 #[.pointer (some ⟨q,0,none⟩),.slice p l.length c,(.func (.func 77) #[.pointer (some ⟨q,0,none⟩)] #[])] W (Tells w W q m o (rowsC en l)):=by
 refine (rowC_any hF en hrd h hlen (fun _ W' o'=>WTo q o o' W W') (fun j W1 W2 o1 o2 h1 h2=>h1.trans h2) (WTo.refl q o W) ?_).mono ?_
 ·intro j hj m o1 W1 cs h1 h2 h3 h4
  refine (one _ (List.getElem_mem hj) m o1 W1 cs h2 h3 h4).mono ?_
  rintro e W2 ⟨rfl,o2,h5,h6⟩
  exact ⟨rfl,o2,h5,h1.trans h6⟩
 ·rintro e W' ⟨rfl,o',h1,h2⟩
  exact ⟨rfl,o',h1,h2⟩
theorem conv_ckind {k : Int} (h0 : 0 ≤ k) (h1 : k < 256) (W : World) : (convert 67 5 (.int .i64 k)).run Tryz.prog W = .ok (.int .u8 ((UInt8.ofNat k.toNat).toNat : Int)) W:=by
 have e : IntKind.u8.wrap k = ((UInt8.ofNat k.toNat).toNat : Int):=by
  rw [Kcl (by omega)]
  simp [IntKind.wrap,IntKind.signed,IntKind.bits];omega
 rw [← e]
 simp [convert,go_sem]
theorem wfC_kind {c : ChangeD} (h : wfC (toldC c)) : 0 ≤ c.kind ∧ c.kind ≤ 4:=by
 unfold wfC at h
 have hk : (toldC c).kind = c.kind:=by unfold toldC;split <;> (try split) <;> (try split) <;> simp_all
 rw [hk] at h
 rcases h with ⟨h,_⟩ | ⟨h,_⟩ | ⟨h | h,_⟩ | ⟨h,_⟩ <;> omega
def useC (c : ChangeD) : Prop:=0 ≤ c.kind ∧ c.kind ≤ 4 ∧ (c.kind = 0 → wfN c.node) ∧ (c.kind = 1 → wfR c.rel) ∧ (2 ≤ c.kind → i64T c.id ∧ i64T c.other)
theorem wchange_any {w W : World} (hval : WVal w) {cd : ChangeD} (hwf : useC cd) {q : Nat} {m : List UInt8} {o : Value} {x : Array Value} (hx : CRd w cd x) (h : WS 83 w W q m o) (hl : m.length + (Ka9 cd).length ≤ 1000000000000) :
 Calls Tryz.prog 77 #[.pointer (some ⟨q,0,none⟩),.agg x] W (Tells w W q m o (Ka9 cd)):=by
 obtain ⟨xa,xb,hxe,hna,hrb⟩:=hx
 have sa:=Kek.size hna
 have sb:=ef_rel.size hrb
 have x0 : x[0]? = some (.int .i64 cd.kind):=by rw [hxe,Array.append_assoc,Array.getElem?_append_left (by simp)];rfl
 have x1 : x[1]? = some (.int .i64 cd.id):=by rw [hxe,Array.append_assoc,Array.getElem?_append_left (by simp)];rfl
 have x2 : x[2]? = some (.int .i64 cd.other):=by rw [hxe,Array.append_assoc,Array.getElem?_append_left (by simp)];rfl
 have xna : ∀ (i : Nat) (u : Value),xa[i]? = some u → x[3 + i]? = some u:=fun i u hu=>by
  have hi:=(Array.getElem?_eq_some_iff.1 hu).1
  rw [hxe,Array.getElem?_append_left (by simp;omega),Array.getElem?_append_right (by simp)];simpa using hu
 have xrb : ∀ (i : Nat) (u : Value),xb[i]? = some u → x[6 + i]? = some u:=fun i u hu=>by
  rw [hxe,Array.getElem?_append_right (by simp [sa])];simp only [Array.size_append,sa];simpa using hu
 have hk0 : 0 ≤ cd.kind ∧ cd.kind ≤ 4:=⟨hwf.1,hwf.2.1⟩
 obtain ⟨p,c,rfl⟩:=h.slice
 have hb:=Kac (w:=W) (.cells x 74)
 have h1:=h.below hb
 have s3:=h.side hb (b:=W.heap.size) (ob:=.cells x 74 (0,0)) (Nat.le_refl _) (heap_alloc_new W _)
 have hml : m.length ≤ 1000000000000:=by omega
 have HB:=yh (And.intro hb (And.intro h1 s3))
 have HX:=yh (And.intro x0 (And.intro x1 (And.intro x2 (And.intro xna xrb))))
 have HR:=yh (And.intro hna hrb)
 have HW:=yh hwf
 have HL:=yh hl
 have hf0 : ∀ W' : World,(Instr.fieldAt 74 (.pointer (some ⟨W.heap.size,0,none⟩)) 0).run Tryz.prog W' = .ok (.pointer (some ⟨W.heap.size,0,none⟩)) W':=by intro W';simp [go_sem]
 have HF0:=yh hf0
 clear hb h1 s3 hwf hl h hf0 x0 x1 x2 xna xrb hxe hna hrb
 go_enter Tryz.func77,Tryz.ntmps77
 go_wp2
 obtain ⟨hb,h1,s3⟩:=HB.out
 have hf0:=HF0.out
 generalize hWa : W.alloc (.cells x 74) = W1 at *
 clear hWa
 have hS0 : W1.drew.heap[q]? = some (.cells #[.slice p m.length c] 83 (0,0)) ∧ W1.drew.cell? ⟨W.heap.size,0,none⟩ = some (.int .i64 cd.kind):=⟨h1.box,Kab (o:=0) s3.at_ HX.out.1⟩
 have hbd : Below W1.heap.size W1 (W1.drew.alloc (.cells #[.int .u8 ((UInt8.ofNat cd.kind.toNat).toNat : Int)] 5)):=(Below.refl _ _).drew.alloc (Nat.le_refl _) _
 have hS1 : (W1.drew.alloc (.cells #[.int .u8 ((UInt8.ofNat cd.kind.toNat).toNat : Int)] 5)).heap[q]? = some (.cells #[.slice p m.length c] 83 (0,0)) ∧ (W1.drew.alloc (.cells #[.int .u8 ((UInt8.ofNat cd.kind.toNat).toNat : Int)] 5)).cell? ⟨W.heap.size,0,none⟩ = some (.int .i64 cd.kind) :=
  ⟨Kai hbd h1.lt h1.box,Kab (o:=0) (Kai hbd (Array.getElem?_eq_some_iff.1 s3.at_).1 s3.at_) HX.out.1⟩
 obtain ⟨p',c',W2,happ,hq2,hws,hto⟩:=h1.stepB (UInt8.ofNat cd.kind.toNat) hml 26
 have hst:=put_u8s (p:=p') (n:=(m ++ [UInt8.ofNat cd.kind.toNat]).length) (c:=c') (Kab (o:=0) hq2 rfl) (Kav (o:=0) hq2)
 have t3:=s3.to hto
 have hsc : ∀ b,b ≠ q → (W2.setCell ⟨q,0,none⟩ (.slice p' (m ++ [UInt8.ofNat cd.kind.toNat]).length c')).heap[b]? = W2.heap[b]?:=fun b hb=>Below.heap_setCell W2 ⟨q,0,none⟩ _ b hb
 have hS2 : W2.heap[q]? = some (.cells #[.slice p m.length c] 83 (0,0)) ∧ W2.cell? ⟨W.heap.size,0,none⟩ = some (.int .i64 cd.kind) :=
  ⟨hq2,Kab (o:=0) ((hsc _ s3.ne).symm.trans t3.at_) HX.out.1⟩
 refine Kaj (fun W'=>W'.heap[q]? = some (.cells #[.slice p m.length c] 83 (0,0)) ∧ W'.cell? ⟨W.heap.size,0,none⟩ = some (.int .i64 cd.kind)) (by kernel_rfl) hS0 (fun hS=>?_)
 refine tk 0 4 (v:=.pointer (some ⟨q,0,none⟩)) rfl rfl (fun W hW=>Kah rfl rfl) ?_
 simp only [Act.put,sA,sZ,sS]
 refine tk 1 5 (v:=.pointer (some ⟨q,0,none⟩)) rfl rfl (fun W hW=>Kah rfl rfl) ?_
 simp only [Act.put,sA,sZ,sS]
 refine tk 2 6 (v:=.pointer (some ⟨q,0,none⟩)) rfl rfl (fun W hW=>rfl) ?_
 simp only [Act.put,sA,sZ,sS]
 refine tk 3 7 (v:=.pointer (some ⟨q,0,none⟩)) rfl rfl (fun W hW=>Kad rfl rfl (fieldW q W)) ?_
 simp only [Act.put,sA,sZ,sS]
 refine tk 4 8 (v:=.slice p m.length c) rfl rfl (fun W hW=>Kaf rfl rfl (Kag (w:=W) Tryz.underlying26 rfl (Kab (o:=0) hW.1 rfl))) ?_
 simp only [Act.put,sA,sZ,sS]
 refine tk 5 9 (v:=.pointer (some ⟨W.heap.size,0,none⟩)) rfl rfl (fun W hW=>Kad rfl rfl (hf0 W)) ?_
 simp only [Act.put,sA,sZ,sS]
 refine tk 6 10 (v:=.int .i64 cd.kind) rfl rfl (fun W hW=>Kaf rfl rfl (Kag (w:=W) Tryz.underlying67 rfl hW.2)) ?_
 simp only [Act.put,sA,sZ,sS]
 refine tk 7 11 (v:=.int .u8 ((UInt8.ofNat cd.kind.toNat).toNat : Int)) rfl rfl (fun W hW=>Kdw rfl rfl (conv_ckind hk0.1 (by omega) W)) ?_
 simp only [Act.put,sA,sZ,sS]
 have hbs:=Kap (P:=Tryz.prog) (w:=W1.drew) (v:=.int .u8 ((UInt8.ofNat cd.kind.toNat).toNat : Int)) Tryz.underlying26 Tryz.sizeOf5 Tryz.zeroValue5 rfl (by omega) (by omega)
 refine Kc7 8 12 (v:=.slice (some ⟨W1.heap.size,0,none⟩) 1 1) rfl rfl (by kernel_rfl) rfl (Kbq rfl rfl hbs) (.inr hS1) ?_
 simp only [Act.put,sA,sZ,sS]
 refine Kc7 9 13 (v:=.slice p' (m ++ [UInt8.ofNat cd.kind.toNat]).length c') rfl rfl (by kernel_rfl) rfl (Kc8 rfl rfl rfl happ) (.inr hS2) ?_
 simp only [Act.put,sA,sZ,sS]
 refine tk 10 14 (v:=.pointer (some ⟨q,0,none⟩)) rfl rfl (fun W hW=>rfl) ?_
 simp only [Act.put,sA,sZ,sS]
 refine tk 11 15 (v:=.pointer (some ⟨q,0,none⟩)) rfl rfl (fun W hW=>Kad rfl rfl (fieldW q W)) ?_
 simp only [Act.put,sA,sZ,sS]
 refine Kca 12 rfl rfl (by kernel_rfl) rfl (Kb4 rfl rfl rfl hst) (.inl (by kernel_rfl)) ?_
 refine done (by kernel_rfl) ?_ _
 have fin : ∀ (rest : List UInt8) (o4 : Value) (W4 : World),Ka9 cd = UInt8.ofNat cd.kind.toNat :: rest → WS 83 w W4 q (m ++ [UInt8.ofNat cd.kind.toNat] ++ rest) o4 → WTo q (.slice p' (m ++ [UInt8.ofNat cd.kind.toNat]).length c') o4 (W2.setCell ⟨q,0,none⟩ (.slice p' (m ++ [UInt8.ofNat cd.kind.toNat]).length c')) W4 → Tells w W q m (.slice p m.length c) (Ka9 cd) (.returned (.tuple #[])) W4:=by
  intro rest o4 W4 e h4 t4
  refine ⟨rfl,o4,?_,(WTo.of_below (q:=q) (o:=.slice p m.length c) hb).trans (hto.trans t4)⟩
  rw [e]
  simpa using h4
 generalize hWb : W2.setCell ⟨q,0,none⟩ (.slice p' (m ++ [UInt8.ofNat cd.kind.toNat]).length c') = W3 at *
 generalize hob : Value.slice p' (m ++ [UInt8.ofNat cd.kind.toNat]).length c' = o3 at *
 have c0:=Kab (o:=0) t3.at_ HX.out.1
 have c1:=Kab (o:=1) t3.at_ HX.out.2.1
 have FIN:=yh fin
 have HT:=yh (And.intro hws t3)
 clear hWb hob hS hS0 hS1 hS2 hbs hbd happ hq2 hst hsc fin hws t3 hto s3 h1 hb hf0 HF0 HB
 have hl:=HL.out
 obtain ⟨_,_,u0,u1,u2⟩:=HW.out
 have hk5 : cd.kind = 0 ∨ cd.kind = 1 ∨ cd.kind = 2 ∨ cd.kind = 3 ∨ cd.kind = 4:=by omega
 rcases hk5 with hk | hk | hk | hk | hk
 ·have e1 : Ka9 cd = UInt8.ofNat cd.kind.toNat :: nodeC cd.node:=by unfold Ka9;rw [if_pos hk]
  have HN:=yh (wnode_any hval (u0 hk) HR.out.1 HT.out.1 (by rw [e1] at hl;simp only [List.length_append,List.length_cons,List.length_nil] at *;omega))
  have HL2:=yh (StT.load Kbo (g:=W.heap.size) (o:=3) sa (fun i u hu=>Kab HT.out.2.at_ (HX.out.2.2.2.1 i u hu)))
  clear hl u0 u1 u2 hk0
  go_wp2_with (first
   | (refine Kaw rfl _ _ _ rfl rfl HL2.out ?_;clear HL2)
   | (go_at_call 39;refine HN.out.mono ?_;rintro e W4 ⟨rfl,o4,h4,t4⟩;have HE:=yh (And.intro h4 t4);clear h4 t4 HN))
  go_end0
  exact FIN.out _ o4 _ e1 HE.out.1 HE.out.2
 ·have e1 : Ka9 cd = UInt8.ofNat cd.kind.toNat :: relC cd.rel:=by unfold Ka9;rw [if_neg (by omega),if_pos hk]
  have HN:=yh (wrel_any hval (u1 hk) HR.out.2 HT.out.1 (by rw [e1] at hl;simp only [List.length_append,List.length_cons,List.length_nil] at *;omega))
  have HL2:=yh (StT.load Kcf (g:=W.heap.size) (o:=6) sb (fun i u hu=>Kab HT.out.2.at_ (HX.out.2.2.2.2 i u hu)))
  clear hl u0 u1 u2 hk0
  go_wp2_with (first
   | (refine Kaw rfl _ _ _ rfl rfl HL2.out ?_;clear HL2)
   | (go_at_call 41;refine HN.out.mono ?_;rintro e W4 ⟨rfl,o4,h4,t4⟩;have HE:=yh (And.intro h4 t4);clear h4 t4 HN))
  go_end0
  exact FIN.out _ o4 _ e1 HE.out.1 HE.out.2
 ·have e1 : Ka9 cd = UInt8.ofNat cd.kind.toNat :: numB (zzN cd.id):=by unfold Ka9;rw [if_neg (by omega),if_neg (by omega),if_neg (by omega)]
  have HN:=yh (Kea (u2 (by omega)).1 HT.out.1 (by rw [e1] at hl;simp only [List.length_append,List.length_cons,List.length_nil] at *;omega))
  clear hl u0 u1 u2 hk0
  go_wp2_with (first
   | (go_at_call 116;refine HN.out.mono ?_;rintro e W4 ⟨rfl,o4,h4,t4⟩
      (
       have t34:=HT.out.2.to t4
       have d0:=Kab (o:=0) t34.at_ HX.out.1
       have HE:=yh (And.intro h4 t4)
       clear h4 t4 HN t34 c0 c1)))
  go_end0
  exact FIN.out _ o4 _ e1 HE.out.1 HE.out.2
 ·have e1 : Ka9 cd = UInt8.ofNat cd.kind.toNat :: numB (zzN cd.id):=by unfold Ka9;rw [if_neg (by omega),if_neg (by omega),if_neg (by omega)]
  have HN:=yh (Kea (u2 (by omega)).1 HT.out.1 (by rw [e1] at hl;simp only [List.length_append,List.length_cons,List.length_nil] at *;omega))
  clear hl u0 u1 u2 hk0
  go_wp2_with (first
   | (go_at_call 116;refine HN.out.mono ?_;rintro e W4 ⟨rfl,o4,h4,t4⟩
      (
       have t34:=HT.out.2.to t4
       have d0:=Kab (o:=0) t34.at_ HX.out.1
       have HE:=yh (And.intro h4 t4)
       clear h4 t4 HN t34 c0 c1)))
  go_end0
  exact FIN.out _ o4 _ e1 HE.out.1 HE.out.2
 ·have e1 : Ka9 cd = UInt8.ofNat cd.kind.toNat :: (numB (zzN cd.id) ++ numB (zzN cd.other)):=by unfold Ka9;rw [if_neg (by omega),if_neg (by omega),if_pos hk]
  have HN:=yh (Kea (u2 (by omega)).1 HT.out.1 (by rw [e1] at hl;simp only [List.length_append,List.length_cons,List.length_nil] at *;omega))
  have HO:=yh (u2 (by omega)).2
  clear u0 u1 u2 hk0
  go_wp2_with (go_at_call 116;first
   | (refine HN.out.mono ?_;rintro e W4 ⟨rfl,o4,h4,t4⟩
      (
       have t34:=HT.out.2.to t4
       have d0:=Kab (o:=0) t34.at_ HX.out.1
       have d2:=Kab (o:=2) t34.at_ HX.out.2.2.1
       have HN2:=yh (Kea HO.out h4 (by rw [e1] at hl;simp only [List.length_append,List.length_cons,List.length_nil] at *;omega))
       have HT4:=yh t4
       clear h4 t4 HN t34 c0 c1 hl))
   | (refine HN2.out.mono ?_;rintro e W5 ⟨rfl,o5,h5,t5⟩;have HE:=yh (And.intro h5 (HT4.out.trans t5));clear h5 t5 HN2))
  go_end0
  exact FIN.out _ o5 _ e1 (by rw [← List.append_assoc];exact HE.out.1) HE.out.2
theorem no_zero (s : List UInt8) : decide (Lib.indexByte s 0 < 0) = !s.contains 0:=by
 have hge:=Lib.indexByte_ge s 0
 rw [Bool.eq_iff_iff]
 simp only [decide_eq_true_eq,Bool.not_eq_true',List.contains_eq_mem,decide_eq_false_iff_not]
 constructor
 ·intro h hm
  obtain ⟨k,hk,he⟩:=List.getElem_of_mem hm
  have:=Lib.indexByte_none (l:=s) (c:=0) (by omega) k
  rw [List.getElem?_eq_getElem hk,he] at this
  exact this rfl
 ·intro h
  by_cases hn : Lib.indexByte s 0 < 0
  ·exact hn
  ·obtain ⟨o,ho⟩:=Int.eq_ofNat_of_zero_le (by omega : 0 ≤ Lib.indexByte s 0)
   exact absurd (List.mem_of_getElem? (Lib.indexByte_some (l:=s) (c:=0) (o:=o) ho).1) h
theorem wname_any {w : World} (hE : Env w) (s : List UInt8) (hs : s.length ≤ 140737488355328) : Calls Tryz.prog 144 #[.string (strB s)] w fun e w'=>e = .returned (.bool (okNm s)) ∧ Below w.heap.size w w':=by
 have hsz : (strB s).size = s.length:=rfl
 have htl : (strB s).toList = s:=Kb1 s
 have HV:=yh (valid_any hE s hs)
 have hz:=no_zero s
 by_cases h0 : s = []
 ·subst h0
  have e0 : strB [] = (⟨#[]⟩ : ByteArray):=rfl
  have HOK:=yh (show okNm [] = false from rfl)
  rw [e0]
  clear hz htl hE HV
  go_enter Tryz.func144,Tryz.ntmps144
  go_wp2
  go_ret
  exact ⟨by rw [HOK.out];rfl,Below.refl _ _⟩
 ·have he : s.isEmpty = false:=by cases s with
   | nil=>exact absurd rfl h0
   | cons=>rfl
  by_cases h1 : s.length ≤ 64
  ·have z1 : (s.length : Int) ≤ 64:=by omega
   have hok : okNm s = (Lib.validD s && !s.contains 0):=by unfold okNm;rw [he];simp [h1]
   have HOK:=yh hok
   cases hv : Lib.validD s with
   | false =>
     rw [hv] at HV hok
     have HK:=yh hok
     clear hok hz hE
     go_enter Tryz.func144,Tryz.ntmps144
     go_wp2_with (go_at_call 151;refine HV.out.mono ?_;rintro e W1 ⟨rfl,hb⟩;have HB:=yh hb;clear hb)
     go_ret
     exact ⟨by rw [HK.out];rfl,HB.out⟩
   | true =>
     rw [hv,Bool.true_and] at hok
     rw [hv] at HV
     rw [← hz] at hok
     have HK:=yh hok
     clear hok hz hE
     have HI:=yh (fun W=>Tryz.strings_IndexByte (strB s) 0 W)
     go_enter Tryz.func144,Tryz.ntmps144
     go_wp2_with (first
      | (go_at_call 151;refine HV.out.mono ?_;rintro e W1 ⟨rfl,hb⟩;have HB:=yh hb;clear hb)
      | (go_at_call 168;refine (HI.out _).mono ?_;rintro e W2 ⟨rfl,rfl⟩))
     go_ret
     exact ⟨by rw [HK.out];rfl,HB.out⟩
  ·have z1 : ¬ (s.length : Int) ≤ 64:=by omega
   have hok : okNm s = false:=by unfold okNm;simp [h1]
   have HOK:=yh hok
   clear hok hz hE
   go_enter Tryz.func144,Tryz.ntmps144
   go_wp2
   go_ret
   exact ⟨by rw [HOK.out];rfl,Below.refl _ _⟩
theorem sub_one {j : Nat} (hj : j ≤ 140737488355328) (W : World) : (binOp .sub 3 (.int .i64 ((j : Int) + 1)) (.int .i64 1)).run Tryz.prog W = .ok (.int .i64 (j : Int)) W:=by
 have e : IntKind.i64.wrap (j : Int) = (j : Int):=by rw [IntKind.wrap_i64];omega
 simp [go_sem,e]
theorem ia_text {b o n len c : Nat} (h : n < len) (W : World) : (Instr.indexAt 45 (.slice (some ⟨b,o,none⟩) len c) (.int .i64 (n : Int))).run Tryz.prog W = .ok (.pointer (some ⟨b,o + n,none⟩)) W:=by simp [go_sem,h]
theorem geq_texts (s1 s2 : List UInt8) (W : World) : (binOp .geq 9 (.string (strB s1)) (.string (strB s2))).run Tryz.prog W = .ok (.bool (!(ltB s1 s2))) W:=by
 simp [go_sem,Kb1,less_eq]
theorem risesS_any {w : World} {p : Option Addr} {c : Nat} {l : List (List UInt8)} (h : RdS w p c l) : Calls Tryz.prog 140 #[.slice p l.length c] w fun e w'=>e = .returned (.bool (Kbg l)) ∧ Below w.heap.size w w':=by
 have z1 : (l.length : Int) ≤ 140737488355328:=by have:=h.2.1.1;omega
 have H:=yh h
 clear h
 go_enter Tryz.func140,Tryz.ntmps140
 go_wp2
 go_loopw [3] (fun i W=>∃ j : Nat,j ≤ l.length ∧ i = .int .i64 ((j : Int) + 1) ∧ Hid (Kbg (l.take (j + 1)) = true ∧ Below w.heap.size w W)) (fun i _=>l.length + 1 - (intOf i).toNat)
 case atStart=>exact ⟨0,Nat.zero_le _,rfl,yh ⟨by cases l <;> simp [Kbg],Below.refl _ _⟩⟩
 case round =>
  obtain ⟨j,hj,rfl,HI⟩:=hrel
  by_cases hlt : j + 1 < l.length
  ·have hlt0 : j < l.length:=by omega
   have g1 : (j : Int) + 1 < (l.length : Int):=by omega
   obtain ⟨bk,ok,rfl,q1,_⟩:=(H.out.below HI.out.2).get hlt0
   obtain ⟨bk',ok',e',q2,_⟩:=(H.out.below HI.out.2).get hlt
   cases e'
   have hst:=Ke5 hlt
   have htk:=fun h : Kbg l = true=>risesB_take h (j + 2) (by omega)
   generalize l[j] = s1 at *
   generalize l[j + 1] = s2 at *
   have HC:=yh (And.intro hst htk)
   have hS0 : wr.drew.cell? ⟨bk,ok + j,none⟩ = some (.string (strB s1)) ∧ wr.drew.cell? ⟨bk,ok + (j + 1),none⟩ = some (.string (strB s2)):=⟨q1,q2⟩
   have HB:=yh (show Below w.heap.size w wr.drew from HI.out.2.drew)
   have hi1 : ∀ W' : World,(Instr.indexAt 45 (.slice (some ⟨bk,ok,none⟩) l.length c) (.int .i64 (j : Int))).run Tryz.prog W' = .ok (.pointer (some ⟨bk,ok + j,none⟩)) W':=by intro W';simp [go_sem,hlt0]
   have hi2 : ∀ W' : World,(Instr.indexAt 45 (.slice (some ⟨bk,ok,none⟩) l.length c) (.int .i64 ((j : Int) + 1))).run Tryz.prog W' = .ok (.pointer (some ⟨bk,ok + (j + 1),none⟩)) W':=by
    intro W'
    have e : ((j : Int) + 1) = ((j + 1 : Nat) : Int):=by omega
    rw [e]
    exact ia_text hlt W'
   have hsub : ∀ W' : World,(binOp .sub 3 (.int .i64 ((j : Int) + 1)) (.int .i64 1)).run Tryz.prog W' = .ok (.int .i64 (j : Int)) W':=fun W'=>sub_one (by omega) W'
   have HX:=yh (And.intro hi1 (And.intro hi2 hsub))
   have HR:=yh HI.out.1
   clear hst htk q1 q2 hi1 hi2 hsub HI
   cases hb : ltB s1 s2 with
   | true =>
     go_wp2
     obtain ⟨hi1,hi2,hsub⟩:=HX.out
     refine Kaj (fun W=>W.cell? ⟨bk,ok + j,none⟩ = some (.string (strB s1)) ∧ W.cell? ⟨bk,ok + (j + 1),none⟩ = some (.string (strB s2))) (by kernel_rfl) hS0 (fun hS=>?_)
     refine tk 0 10 (v:=.slice (some ⟨bk,ok,none⟩) l.length c) rfl rfl (fun W hW=>Kah rfl rfl) ?_
     simp only [Act.put,sA,sZ,sS]
     refine tk 1 11 (v:=.int .i64 ((j : Int) + 1)) rfl rfl (fun W hW=>Kah rfl rfl) ?_
     simp only [Act.put,sA,sZ,sS]
     refine tk 2 12 (v:=.int .i64 (j : Int)) rfl rfl (fun W hW=>Kar rfl rfl rfl (hsub W)) ?_
     simp only [Act.put,sA,sZ,sS]
     refine tk 3 13 (v:=.pointer (some ⟨bk,ok + j,none⟩)) rfl rfl (fun W hW=>Kao rfl rfl rfl (hi1 W)) ?_
     simp only [Act.put,sA,sZ,sS]
     refine tk 4 14 (v:=.string (strB s1)) rfl rfl (fun W hW=>Kaf rfl rfl (Kag (w:=W) Tryz.underlying9 rfl hW.1)) ?_
     simp only [Act.put,sA,sZ,sS]
     refine tk 5 15 (v:=.slice (some ⟨bk,ok,none⟩) l.length c) rfl rfl (fun W hW=>Kah rfl rfl) ?_
     simp only [Act.put,sA,sZ,sS]
     refine tk 6 16 (v:=.int .i64 ((j : Int) + 1)) rfl rfl (fun W hW=>Kah rfl rfl) ?_
     simp only [Act.put,sA,sZ,sS]
     refine tk 7 17 (v:=.pointer (some ⟨bk,ok + (j + 1),none⟩)) rfl rfl (fun W hW=>Kao rfl rfl rfl (hi2 W)) ?_
     simp only [Act.put,sA,sZ,sS]
     refine tk 8 18 (v:=.string (strB s2)) rfl rfl (fun W hW=>Kaf rfl rfl (Kag (w:=W) Tryz.underlying9 rfl hW.2)) ?_
     simp only [Act.put,sA,sZ,sS]
     refine tk 9 19 (v:=.bool (!(ltB s1 s2))) rfl rfl (fun W hW=>exec_bins rfl rfl rfl (geq_texts s1 s2 W)) ?_
     simp only [Act.put,sA,sZ,sS]
     refine done (by kernel_rfl) ?_ _
     clear hS hS0 hi1 hi2 hsub
     simp only [hb,Bool.not_true]
     go_wp2
     go_roundw
     case rel=>exact ⟨j + 1,by omega,by go_num,yh ⟨by rw [HC.out.1,HR.out,hb];rfl,HB.out⟩⟩
     case measure=>simp [intOf];omega
   | false =>
     go_wp2
     obtain ⟨hi1,hi2,hsub⟩:=HX.out
     refine Kaj (fun W=>W.cell? ⟨bk,ok + j,none⟩ = some (.string (strB s1)) ∧ W.cell? ⟨bk,ok + (j + 1),none⟩ = some (.string (strB s2))) (by kernel_rfl) hS0 (fun hS=>?_)
     refine tk 0 10 (v:=.slice (some ⟨bk,ok,none⟩) l.length c) rfl rfl (fun W hW=>Kah rfl rfl) ?_
     simp only [Act.put,sA,sZ,sS]
     refine tk 1 11 (v:=.int .i64 ((j : Int) + 1)) rfl rfl (fun W hW=>Kah rfl rfl) ?_
     simp only [Act.put,sA,sZ,sS]
     refine tk 2 12 (v:=.int .i64 (j : Int)) rfl rfl (fun W hW=>Kar rfl rfl rfl (hsub W)) ?_
     simp only [Act.put,sA,sZ,sS]
     refine tk 3 13 (v:=.pointer (some ⟨bk,ok + j,none⟩)) rfl rfl (fun W hW=>Kao rfl rfl rfl (hi1 W)) ?_
     simp only [Act.put,sA,sZ,sS]
     refine tk 4 14 (v:=.string (strB s1)) rfl rfl (fun W hW=>Kaf rfl rfl (Kag (w:=W) Tryz.underlying9 rfl hW.1)) ?_
     simp only [Act.put,sA,sZ,sS]
     refine tk 5 15 (v:=.slice (some ⟨bk,ok,none⟩) l.length c) rfl rfl (fun W hW=>Kah rfl rfl) ?_
     simp only [Act.put,sA,sZ,sS]
     refine tk 6 16 (v:=.int .i64 ((j : Int) + 1)) rfl rfl (fun W hW=>Kah rfl rfl) ?_
     simp only [Act.put,sA,sZ,sS]
     refine tk 7 17 (v:=.pointer (some ⟨bk,ok + (j + 1),none⟩)) rfl rfl (fun W hW=>Kao rfl rfl rfl (hi2 W)) ?_
     simp only [Act.put,sA,sZ,sS]
     refine tk 8 18 (v:=.string (strB s2)) rfl rfl (fun W hW=>Kaf rfl rfl (Kag (w:=W) Tryz.underlying9 rfl hW.2)) ?_
     simp only [Act.put,sA,sZ,sS]
     refine tk 9 19 (v:=.bool (!(ltB s1 s2))) rfl rfl (fun W hW=>exec_bins rfl rfl rfl (geq_texts s1 s2 W)) ?_
     simp only [Act.put,sA,sZ,sS]
     refine done (by kernel_rfl) ?_ _
     clear hS hS0 hi1 hi2 hsub
     simp only [hb,Bool.not_false]
     go_wp2
     go_ret
     refine ⟨?_,HB.out⟩
     have hf : Kbg l = false:=by
      cases hr : Kbg l with
      | false=>rfl
      | true =>
        have:=HC.out.2 hr
        rw [HC.out.1,hb,Bool.and_false] at this
        cases this
     rw [hf];rfl
  ·have g1 : ¬ ((j : Int) + 1 < (l.length : Int)):=by omega
   have hf : Kbg l = true:=by
    have:=HI.out.1
    rw [List.take_of_length_le (by omega)] at this
    exact this
   have HF:=yh (And.intro hf HI.out.2)
   clear hf HI
   go_wp2
   go_ret
   exact ⟨by rw [HF.out.1];rfl,HF.out.2⟩
theorem keysG_any {w : World} {p : Option Addr} {c : Nat} {l : List PropD} (h : GRd PRd 7 w p c l) (hl : l.length ≤ 1000000) : Calls Tryz.prog 166 #[.slice p l.length c] w fun e w'=>∃ v,e = .returned v ∧ OwnsP w' (fun b=>w.heap.size ≤ b) 9 1 v l.length (l.map fun p=>strV p.key) ∧ Below w.heap.size w w':=by
 have z1 : (l.length : Int) ≤ 1000000:=by omega
 have H:=yh h
 clear h
 go_enter Tryz.func166,Tryz.ntmps166
 go_wp2
 go_loopw [3,8] (fun ov i W=>∃ (j : Nat) (a : Option Addr) (n1 c1 : Nat),j ≤ l.length ∧ i = .int .i64 (j : Int) ∧ ov = .slice a n1 c1 ∧ Hid (OwnsP W (fun b=>w.heap.size ≤ b) 9 1 (.slice a n1 c1) j ((l.take j).map fun p=>strV p.key) ∧ Below w.heap.size w W)) (fun _ i _=>l.length - (intOf i).toNat)
 case atStart=>exact ⟨0,none,0,0,Nat.zero_le _,rfl,rfl,yh ⟨⟨⟨by simp,.inl ⟨rfl,rfl⟩⟩,fun g hg=>by simp [Value.ownBlock] at hg⟩,Below.refl _ _⟩⟩
 case round =>
  obtain ⟨j,a,n1,c1,hj,rfl,rfl,HI⟩:=hrel
  by_cases hlt : j < l.length
  ·have hlt1 : j + 1 ≤ l.length:=hlt
   obtain ⟨b,of,cs,rfl,hs,hc,hv⟩:=H.out.get hlt
   have hones:=Kfa.ones hv
   have hk0 : cs[0]? = some (.string (strB l[j].key)):=by obtain ⟨y,e,_⟩:=hv;rw [e,Array.getElem?_append_left (by simp)];rfl
   have HL1:=yh (StT.load Kco hs (fun i u hu=>Kak HI.out.2 (ltOf (hc i u hu)) (hc i u hu)) (W:=wr))
   have HS:=yh (StT.fresh Kco hs hones (W:=wr))
   have hb:=Kac (w:=wr) (.cells cs 136)
   have HK:=yh (Kag (P:=Tryz.prog) (w:=wr.alloc (.cells cs 136)) Tryz.underlying9 rfl (Kab (o:=0) (heap_alloc_new wr (.cells cs 136)) hk0))
   have HBS:=yh (Kap (P:=Tryz.prog) (w:=wr.alloc (.cells cs 136)) (v:=.string (strB l[j].key)) Tryz.underlying45 Tryz.sizeOf9 Tryz.zeroValue9 rfl (by omega) (by omega))
   have hb2 : Below wr.heap.size wr ((wr.alloc (.cells cs 136)).alloc (.cells #[.string (strB l[j].key)] 9)):=hb.alloc (by simp) _
   have ho:=HI.out.1.keep (w':=(wr.alloc (.cells cs 136)).alloc (.cells #[.string (strB l[j].key)] 9)) fun b _ hl=>hb2.block b hl
   obtain ⟨v',W4,a1,a2,a3,a4,a5⟩:=gt_str.app ho.1 (g:=(wr.alloc (.cells cs 136)).heap.size) (x:=#[.string (strB l[j].key)]) rfl (fun u hu=>by simp only [List.mem_cons,List.not_mem_nil,or_false] at hu;subst hu;rfl) (heap_alloc_new _ _) (by omega) 45
   have hw:=HI.out.2.size
   have hsz : ((wr.alloc (.cells cs 136)).alloc (.cells #[.string (strB l[j].key)] 9)).heap.size = wr.heap.size + 2:=by simp
   have hB4 : Below w.heap.size w W4:=a3.below (Kaa HI.out.2 hb2) (fun b hl e=>by have:=HI.out.1.2 b e;omega) (by omega)
   have hstep : (l.take (j + 1)).map (fun p=>strV p.key) = (l.take j).map (fun p=>strV p.key) ++ [strV l[j].key]:=by rw [List.take_succ_eq_append_getElem hlt,List.map_append];rfl
   have how : OwnsP W4 (fun b=>w.heap.size ≤ b) 9 1 v' (j + 1) ((l.take (j + 1)).map fun p=>strV p.key):=⟨by rw [hstep];simpa [strV] using a2,fun g hg=>by
    rcases a4 with e | e
    ·exact HI.out.1.2 g (e.symm.trans hg)
    ·rw [e] at hg;cases hg;omega⟩
   obtain ⟨pk,nk,ck,rfl⟩ : ∃ pk n ck,v' = .slice pk n ck:=by
    rcases how.1.2 with ⟨h,_⟩ | ⟨g,cap,cur,h,_⟩ <;> exact ⟨_,_,_,h⟩
   have HA:=yh a1
   have HF:=yh (And.intro how hB4)
   clear hones hk0 hb hb2 ho a1 a2 a3 a4 a5 hw hsz hB4 hstep how hc hv
   go_wp2_with (first
    | ((with_reducible apply Kal);exact HL1.out;exact rfl;clear HL1)
    | ((with_reducible apply Kae);exact HS.out _ rfl;exact rfl;exact rfl;clear HS)
    | ((with_reducible apply Kal);exact HK.out;exact rfl;clear HK)
    | ((with_reducible apply op_bs1);exact HBS.out;exact rfl;clear HBS)
    | ((with_reducible apply Kcv);exact HA.out;exact rfl;exact rfl))
   go_roundw
   case rel=>exact ⟨j + 1,pk,nk,ck,hlt1,by go_num,rfl,HF⟩
   case measure=>simp [intOf];omega
  ·obtain rfl : j = l.length:=by omega
   have hlast:=HI.out.1
   rw [List.take_length] at hlast
   have HF:=yh (And.intro hlast HI.out.2)
   clear hlast HI
   go_wp2
   go_ret
   exact ⟨_,rfl,HF.out⟩
theorem wpList_runG {P : Program} {ops : Array Oper} {rest : List Oper} {o : Oper} {a : Act} {w w' : World} {v : Value} {Q : Exit → Act → World → Prop} (hw : Region.wanted o (yielded ops a.tmps) = true) (hr : (execOp a.eval o).run P w = .ok (.value v) w') (h : wpList P ops Q rest (a.put o.dst v) w') : wpList P ops Q (o :: rest) a w:=by
 unfold wpList
 rw [if_pos hw]
 exact .inl (by unfold Oper.wp;rw [hr];exact h)
def VRs (w : World) (l : List V) (xs : List (Array Value)) : Prop:=xs.length = l.length ∧ ∀ (j : Nat) (v : V),l[j]? = some v → ∃ x,xs[j]? = some x ∧ VRd w v x
theorem VRs.nil (w : World) : VRs w [] []:=⟨rfl,fun j v h=>by simp at h⟩
theorem VRd.size6 {w : World} {v : V} {x : Array Value} (h : VRd w v x) : x.size = 6:=by
 obtain ⟨_,_,_,_,rfl,_⟩:=h.open;rfl
theorem VRd.ones {w : World} {v : V} {x : Array Value} (h : VRd w v x) : ∀ u ∈ x.toList,u.oneCell' = true:=by
 obtain ⟨_,_,_,_,rfl,_⟩:=h.open;simp [Value.oneCell']
theorem VRs.append {w : World} {l m : List V} {xs ys : List (Array Value)} (h : VRs w l xs) (g : VRs w m ys) : VRs w (l ++ m) (xs ++ ys):=by
 refine ⟨by simp [h.1,g.1],fun j v hv=>?_⟩
 by_cases hj : j < l.length
 ·rw [List.getElem?_append_left hj] at hv
  obtain ⟨x,h1,h2⟩:=h.2 j v hv
  exact ⟨x,by rw [List.getElem?_append_left (by rw [h.1];exact hj)];exact h1,h2⟩
 ·rw [List.getElem?_append_right (by omega)] at hv
  obtain ⟨x,h1,h2⟩:=g.2 _ v hv
  exact ⟨x,by rw [List.getElem?_append_right (by rw [h.1];omega),h.1];exact h1,h2⟩
theorem VRs.six {w : World} {l : List V} {xs : List (Array Value)} (h : VRs w l xs) : ∀ x ∈ xs,∃ v,VRd w v x:=by
 intro x hx
 obtain ⟨j,hj,rfl⟩:=List.getElem_of_mem hx
 have hj2 : j < l.length:=by rw [← h.1];exact hj
 obtain ⟨y,h1,h2⟩:=h.2 j _ (List.getElem?_eq_getElem hj2)
 rw [List.getElem?_eq_getElem hj] at h1
 cases h1
 exact ⟨_,h2⟩
theorem VRs.below {w w' : World} {l : List V} {xs : List (Array Value)} (h : VRs w l xs) (g : Below w.heap.size w w') : VRs w' l xs :=
 ⟨h.1,fun j v hv=>by obtain ⟨x,h1,h2⟩:=h.2 j v hv;exact ⟨x,h1,h2.below g⟩⟩
theorem flatA_len {xs : List (Array Value)} (h6 : ∀ x ∈ xs,x.size = 6) : (xs.flatMap Array.toList).length = xs.length * 6:=by
 induction xs with
 | nil=>rfl
 | cons a r ih =>
   rw [List.flatMap_cons,List.length_append,ih fun x hx=>h6 x (by simp [hx])]
   have:=h6 a (by simp)
   simp [this];omega
theorem LRd.cells {w : World} {p : Option Addr} {c : Nat} {l : List V} (h : LRd w p c l) : ∃ xs,VRs w l xs ∧ ∀ ad,p = some ad → ∀ (j : Nat) (u : Value),(xs.flatMap Array.toList)[j]? = some u → w.cell? (ad.add j) = some u:=by
 have hx : ∀ i : Nat,∃ x : Array Value,∀ (hi : i < l.length),VRd w l[i] x ∧ ∀ ad,p = some ad → ad.spot = none ∧ Six w ad.block (ad.off + i * 6) x:=by
  intro i
  by_cases hi : i < l.length
  ·obtain ⟨b,o,cs,rfl,h6,hv⟩:=h.get hi
   exact ⟨cs,fun _=>⟨hv,fun ad e=>by cases e;exact ⟨rfl,h6⟩⟩⟩
  ·exact ⟨#[],fun h=>absurd h hi⟩
 obtain ⟨f,hf⟩:=Classical.axiomOfChoice hx
 have hxs : VRs w l ((List.range l.length).map f):=by
  refine ⟨by simp,fun j v hv=>?_⟩
  obtain ⟨hj,rfl⟩:=List.getElem?_eq_some_iff.1 hv
  exact ⟨f j,by simp [hj],(hf j hj).1⟩
 refine ⟨_,hxs,fun ad had j u hu=>?_⟩
 have h6 : ∀ x ∈ (List.range l.length).map f,x.size = 6:=fun x hx=>by obtain ⟨v,hv⟩:=hxs.six x hx;exact hv.size6
 have hlen:=flatA_len h6
 have hj : j < l.length * 6:=by
  have:=(List.getElem?_eq_some_iff.1 hu).1
  simpa [hlen] using this
 have hq : j / 6 < l.length:=by omega
 have e : j = j / 6 * 6 + j % 6:=by omega
 have hfs:=flat_six h6 (j / 6) (f (j / 6)) (by simp [hq]) (j % 6) (by omega)
 rw [← e,hu] at hfs
 obtain ⟨hsp,c0,c1,c2,c3,c4,c5,ex,q0,q1,q2,q3,q4,q5⟩:=(hf _ hq).2 ad had
 obtain ⟨b,o,sp⟩:=ad
 simp only at hsp q0 q1 q2 q3 q4 q5;subst hsp
 rw [Ka4]
 rw [ex] at hfs
 have hm : j % 6 = 0 ∨ j % 6 = 1 ∨ j % 6 = 2 ∨ j % 6 = 3 ∨ j % 6 = 4 ∨ j % 6 = 5:=by omega
 rcases hm with hm | hm | hm | hm | hm | hm
 all_goals
  rw [hm] at hfs e
  simp at hfs
  subst hfs
  rw [e]
  assumption
def AInv (w W : World) (v : Value) (l : List V) : Prop:=∃ xs,OwnsP W (fun b=>w.heap.size ≤ b) 48 6 v l.length (xs.flatMap Array.toList) ∧ VRs w l xs ∧ Below w.heap.size w W
theorem AInv.b {w W : World} {v : Value} {l : List V} (h : AInv w W v l) : Below w.heap.size w W:=by obtain ⟨_,_,_,h⟩:=h;exact h
theorem AInv.slice {w W : World} {v : Value} {l : List V} (h : AInv w W v l) : ∃ p c,v = .slice p l.length c:=by obtain ⟨_,h,_,_⟩:=h;exact Kbx h
theorem AInv.start {w W : World} (h : Below w.heap.size w W) : AInv w (W.alloc (.cells #[] 48)) (.slice (some ⟨W.heap.size,0,none⟩) 0 0) [] :=
 ⟨[],⟨Kdi (heap_alloc_new W _) (Nat.le_refl _) (by unfold maxLen;omega) rfl rfl rfl,fun g hg=>by cases hg;exact h.size⟩,VRs.nil w,Kaa h (Kac _)⟩
theorem AInv.step {w W : World} {v : Value} {l m : List V} {p : Option Addr} {c : Nat} (h : AInv w W v l) (hm : LRd w p c m) (hn : l.length + m.length ≤ 1000000) (ty : TypeId) :
 ∃ v' W',(Builtin.append_ #[46,46] ty #[v,.slice p m.length c]).run Tryz.prog W = .ok v' W' ∧ AInv w W' v' (l ++ m):=by
 obtain ⟨xs,h1,h2,h3⟩:=h
 obtain ⟨i,i1,i2,i3,i4⟩:=info_val
 obtain ⟨ys,hy,hcell⟩:=hm.cells
 have hy6 : ∀ x ∈ ys,x.size = 6:=fun x hx=>by obtain ⟨v,hv⟩:=hy.six x hx;exact hv.size6
 cases p with
 | none =>
   have hc:=hm.1.2.2 rfl
   have hl : m = []:=List.eq_nil_of_length_eq_zero (by have:=hm.1.1;omega)
   subst hc hl
   refine ⟨v,W,append_law_nil (P:=Tryz.prog) (w:=W) 46 ty 48 i 6 Tryz.underlying46 i1 i3 v l.length _ h1.1,?_⟩
   rw [List.append_nil]
   exact ⟨xs,h1,h2,h3⟩
 | some ad =>
   obtain ⟨v',W2,a1,a2,a3,a4,a5⟩:=Kdp (P:=Tryz.prog) (w:=W) 46 ty 48 i _ 6 88 Tryz.underlying46 i1 i2 i3 i4 rfl v l.length _ h1.1 ad m.length c (ys.flatMap Array.toList)
    (by rw [flatA_len hy6,hy.1]) (fun j u hu=>by
      have hq:=hcell ad rfl j u hu
      have hne : m ≠ []:=by
       rintro rfl
       have e : ys = []:=List.eq_nil_of_length_eq_zero hy.1
       subst e
       simp at hu
      have hs:=(hm.2 ad rfl).1 hne
      obtain ⟨b,o,sp⟩:=ad
      simp only at hs
      subst hs
      rw [Ka4] at hq ⊢
      exact Kak h3 (ltOf hq) hq) (fun u hu=>by
      obtain ⟨x,hx,hu⟩:=List.mem_flatMap.1 hu
      obtain ⟨v,hv⟩:=hy.six x hx
      exact hv.ones u hu) (by unfold maxLen;omega) (by omega)
   refine ⟨v',W2,a1,xs ++ ys,⟨?_,fun g hg=>?_⟩,h2.append hy,?_⟩
   ·rw [List.flatMap_append,List.length_append];exact a2
   ·rcases a4 with e | e
    ·exact h1.2 g (e.symm.trans hg)
    ·rw [e] at hg;cases hg;exact h3.size
   ·exact a3.below h3 (fun b hb e=>by have:=h1.2 b e;omega) h3.size
theorem AInv.rd {w W : World} {v : Value} {l : List V} (h : AInv w W v l) (hn : l.length ≤ 1000000) : ∃ p c,v = .slice p l.length c ∧ LRd W p c l:=by
 obtain ⟨xs,h1,h2,h3⟩:=h
 have hc:=fun g=>h1.1.cells (g:=g)
 have h6 : ∀ x ∈ xs,x.size = 6:=fun x hx=>by obtain ⟨v,hv⟩:=h2.six x hx;exact hv.size6
 rcases h1.1.2 with ⟨rfl,h0⟩ | ⟨g,cap,cur,rfl,_,hg,hnc,hcm,_⟩
 ·have : l = []:=List.eq_nil_of_length_eq_zero h0
  subst this
  exact ⟨none,0,rfl,⟨Nat.le_refl _,⟨by simp,by omega⟩,fun _=>rfl⟩,fun ad h=>by cases h⟩
 ·refine ⟨some ⟨g,0,none⟩,cap,rfl,⟨hnc,⟨by omega,by unfold maxLen at hcm;omega⟩,fun h=>by cases h⟩,fun ad had=>?_⟩
  cases had
  refine ⟨fun _=>rfl,fun j v hv=>?_⟩
  obtain ⟨x,hx,hvx⟩:=h2.2 j v hv
  have hv2:=hvx.below h3
  obtain ⟨_,_,_,_,rfl,_⟩:=hvx.open
  have q:=fun (i : Nat) (hi : i < 6)=>flat_six h6 j _ hx i hi
  refine ⟨_,⟨_,_,_,_,_,_,rfl,?_,?_,?_,?_,?_,?_⟩,hv2⟩
  ·have:=hc g rfl _ _ (q 0 (by omega));rw [Ka4] at this;simpa using this
  ·have:=hc g rfl _ _ (q 1 (by omega));rw [Ka4] at this;simpa [Nat.add_assoc] using this
  ·have:=hc g rfl _ _ (q 2 (by omega));rw [Ka4] at this;simpa [Nat.add_assoc] using this
  ·have:=hc g rfl _ _ (q 3 (by omega));rw [Ka4] at this;simpa [Nat.add_assoc] using this
  ·have:=hc g rfl _ _ (q 4 (by omega));rw [Ka4] at this;simpa [Nat.add_assoc] using this
  ·have:=hc g rfl _ _ (q 5 (by omega));rw [Ka4] at this;simpa [Nat.add_assoc] using this
section
variable {P : Program} {ops : Array Oper} {rest : List Oper} {Q : Exit → Act → World → Prop} {a : Act} {w w' : World} {dst : Option Tmp} {ty : TypeId} {pos : String} {af : Array Edge} {t : TypeId} {x y : Operand} {v : Value}
theorem Kdh {b : Addr} {g : Nat × Bool} (hr : (loadVar t b).run P w = .ok v w) (hx : a.eval x = .pointer (some b)) (hw : Region.wanted (⟨dst,.load t x,ty,pos,af,some g⟩ : Oper) (yielded ops a.tmps) = true) (h : wpList P ops Q rest (a.put dst v) w) : wpList P ops Q (⟨dst,.load t x,ty,pos,af,some g⟩ :: rest) a w:=wpList_runG hw (Kaf rfl hx hr) h
end
theorem badName_any {w : World} (hE : Env w) (s : List UInt8) (hs : s.length ≤ 140737488355328) : Calls Tryz.prog 143 #[.string (strB s)] w fun e w'=>e = .returned (.bool (!okNm s)) ∧ Below w.heap.size w w':=by
 have HV:=yh (wname_any hE s hs)
 clear hE
 generalize okNm s = r at *
 go_enter Tryz.func143,Tryz.ntmps143
 go_wp2_with (go_at_call 144;refine HV.out.mono ?_;rintro e W1 ⟨rfl,hb⟩;have HB:=yh hb;clear hb)
 go_ret
 exact ⟨rfl,HB.out⟩
def badAt (l : List (List UInt8)) : Int:=match l.findIdx? (fun s=>!okNm s) with
 | some i=>(i : Int)
 | none=>-1
theorem badAt_ge (l : List (List UInt8)) : decide (0 ≤ badAt l) = !(l.all okNm):=by
 unfold badAt
 rw [Bool.eq_iff_iff]
 cases h : l.findIdx? (fun s=>!okNm s) with
 | none =>
   rw [List.findIdx?_eq_none_iff] at h
   simp only [decide_eq_true_eq,Bool.not_eq_true',List.all_eq_false]
   constructor
   ·intro h;omega
   ·rintro ⟨x,hx,hn⟩
    have:=h x hx
    simp_all
 | some i =>
   rw [List.findIdx?_eq_some_iff_getElem] at h
   obtain ⟨hi,h1,_⟩:=h
   simp only [decide_eq_true_eq,Bool.not_eq_true',List.all_eq_false]
   exact ⟨fun _=>⟨l[i],List.getElem_mem hi,by simpa using h1⟩,fun _=>by omega⟩
theorem badAt_hit {l : List (List UInt8)} {j : Nat} (hj : j < l.length) (h1 : (l.take j).all okNm = true) (h2 : okNm l[j] = false) : badAt l = (j : Int):=by
 unfold badAt
 have : l.findIdx? (fun s=>!okNm s) = some j:=by
  rw [List.findIdx?_eq_some_iff_getElem]
  refine ⟨hj,by simp [h2],fun i hi=>?_⟩
  rw [List.all_eq_true] at h1
  have:=h1 l[i] (by rw [List.mem_take_iff_getElem];exact ⟨i,by omega,rfl⟩)
  simp [this]
 rw [this]
theorem badAt_none {l : List (List UInt8)} (h1 : l.all okNm = true) : badAt l = -1:=by
 unfold badAt
 have : l.findIdx? (fun s=>!okNm s) = none:=by
  rw [List.findIdx?_eq_none_iff]
  intro s hs
  rw [List.all_eq_true] at h1
  simp [h1 s hs]
 rw [this]
theorem badIdx_any {w : World} (hE : Env w) {p : Option Addr} {c : Nat} {l : List (List UInt8)} (h : RdS w p c l) : Calls Tryz.prog 167 #[.slice p l.length c,.func (.func 143) #[] #[]] w fun e w'=>e = .returned (.int .i64 (badAt l)) ∧ Below w.heap.size w w':=by
 have z1 : (l.length : Int) ≤ 140737488355328:=by have:=h.2.1.1;omega
 have H:=yh h
 have HE:=yh hE
 clear h hE
 go_enter Tryz.func167,Tryz.ntmps167
 go_wp2
 go_loopw [8] (fun i W=>∃ j : Nat,j ≤ l.length ∧ i = .int .i64 (j : Int) ∧ Hid ((l.take j).all okNm = true ∧ Below w.heap.size w W)) (fun i _=>l.length - (intOf i).toNat)
 case atStart=>exact ⟨0,Nat.zero_le _,rfl,yh ⟨by simp,Below.refl _ _⟩⟩
 case round =>
  obtain ⟨j,hj,rfl,HI⟩:=hrel
  by_cases hlt : j < l.length
  ·have hlt1 : j + 1 ≤ l.length:=hlt
   obtain ⟨b,of,rfl,hc,hcl⟩:=(H.out.below HI.out.2).get hlt
   have hone:=badName_any (HE.out.b HI.out.2) l[j] hcl
   have hst : ∀ r,okNm l[j] = r → (l.take (j + 1)).all okNm = r:=fun r hr=>by
    rw [List.take_succ_eq_append_getElem hlt,List.all_append,HI.out.1];simp [hr]
   have hbd:=badAt_hit hlt HI.out.1
   generalize l[j] = s at *
   have HC:=yh hone
   have HB:=yh HI.out.2
   cases hok : okNm s with
   | true =>
     have HN:=yh (hst true hok)
     rw [hok] at HC
     clear hone hst hbd hok HI
     go_wp2_with (go_at_call 143;refine HC.out.mono ?_;rintro e W2 ⟨rfl,hb⟩;have HB2:=yh (Kaa HB.out hb);clear hb)
     go_roundw
     case rel=>exact ⟨j + 1,hlt1,by go_num,yh ⟨HN.out,HB2.out⟩⟩
     case measure=>simp [intOf];omega
   | false =>
     have HN:=yh (hbd hok)
     rw [hok] at HC
     clear hone hst hbd hok HI
     go_wp2_with (go_at_call 143;refine HC.out.mono ?_;rintro e W2 ⟨rfl,hb⟩;have HB2:=yh (Kaa HB.out hb);clear hb)
     go_ret
     exact ⟨by rw [HN.out];rfl,HB2.out⟩
  ·obtain rfl : j = l.length:=by omega
   have hall:=HI.out.1
   rw [List.take_length] at hall
   have HF:=yh (And.intro (badAt_none hall) HI.out.2)
   clear HI hall
   go_wp2
   go_ret
   exact ⟨by rw [HF.out.1];rfl,HF.out.2⟩
theorem hasBad_any {w : World} (hE : Env w) {p : Option Addr} {c : Nat} {l : List (List UInt8)} (h : RdS w p c l) : Calls Tryz.prog 142 #[.slice p l.length c,.func (.func 143) #[] #[]] w fun e w'=>e = .returned (.bool (!(l.all okNm))) ∧ Below w.heap.size w w':=by
 have HV:=yh (badIdx_any hE h)
 have HG:=yh (badAt_ge l)
 generalize l.all okNm = r at *
 clear hE h
 go_enter Tryz.func142,Tryz.ntmps142
 go_wp2_with (go_at_call 167;refine HV.out.mono ?_;rintro e W1 ⟨rfl,hb⟩;have HB:=yh hb;clear hb)
 go_ret
 refine ⟨?_,HB.out⟩
 rw [← HG.out];rfl
def okP (p : PropD) : Bool:=okNm p.key && okSt p.val
theorem okPs_eq (l : List PropD) : okPs l = (l.all okP && Kbg (l.map PropD.key)):=rfl
theorem okPs_no {l : List PropD} {j : Nat} (hj : j < l.length) (h : okP l[j] = false) : okPs l = false:=by
 rw [okPs_eq]
 have : l.all okP = false:=by
  rw [List.all_eq_false]
  exact ⟨l[j],List.getElem_mem hj,by simp [h]⟩
 rw [this,Bool.false_and]
theorem all_snoc {α : Type} {f : α → Bool} {l : List α} {j : Nat} (hj : j < l.length) (h1 : (l.take j).all f = true) (h2 : f l[j] = true) : (l.take (j + 1)).all f = true:=by
 rw [List.take_succ_eq_append_getElem hj,List.all_append,h1];simp [h2]
theorem keys_rise {w : World} {p : Option Addr} {c : Nat} {l : List PropD} (h : GRd PRd 7 w p c l) (hl : l.length ≤ 1000000) (hk : ∀ s ∈ l.map PropD.key,s.length ≤ 140737488355328) :
 Calls Tryz.prog 166 #[.slice p l.length c] w fun e w'=>∃ pk ck,e = .returned (.slice pk l.length ck) ∧ Below w.heap.size w w' ∧
  Calls Tryz.prog 140 #[.slice pk l.length ck] w' fun e w''=>e = .returned (.bool (Kbg (l.map PropD.key))) ∧ Below w'.heap.size w' w'':=by
 refine (keysG_any h hl).mono ?_
 rintro e w' ⟨v,rfl,ho,hb⟩
 have ho' : OwnsP w' (fun b=>w.heap.size ≤ b) 9 1 v (l.map PropD.key).length ((l.map PropD.key).map strV):=by
  rw [List.length_map,List.map_map];exact ho
 obtain ⟨pk,ck,rfl,hr⟩:=owned_rdS ho' (by rw [List.length_map];omega) hk
 have hc:=risesS_any hr
 rw [List.length_map] at hc
 exact ⟨pk,ck,by rw [List.length_map],hb,hc⟩
theorem gprops_any {w : World} (hE : Env w) {p : Option Addr} {c : Nat} {l : List PropD} (h : GRd PRd 7 w p c l) (ht : totPs l ≤ 1000000) : Calls Tryz.prog 141 #[.slice p l.length c] w fun e w'=>e = .returned (.bool (okPs l)) ∧ Below w.heap.size w w':=by
 have hlen : l.length ≤ 1000000:=Nat.le_trans (Kcb totP fun p _=>by unfold totP;omega) ht
 have z1 : (l.length : Int) ≤ 1000000:=by omega
 have hkey : ∀ s ∈ l.map PropD.key,s.length ≤ 140737488355328:=fun s hs=>by
  obtain ⟨x,hx,rfl⟩:=List.mem_map.1 hs
  have h1 : totP x ≤ totPs l:=Kbb totP hx
  unfold totP at h1;omega
 have H:=yh h
 have HE:=yh hE
 have HT:=yh ht
 have HK:=yh hkey
 have HLN:=yh hlen
 clear h hE ht hkey hlen
 go_enter Tryz.func141,Tryz.ntmps141
 go_wp2
 go_loopw [7] (fun i W=>∃ j : Nat,j ≤ l.length ∧ i = .int .i64 (j : Int) ∧ Hid ((l.take j).all okP = true ∧ Below w.heap.size w W)) (fun i _=>l.length - (intOf i).toNat)
 case atStart=>exact ⟨0,Nat.zero_le _,rfl,yh ⟨by simp,Below.refl _ _⟩⟩
 case round =>
  obtain ⟨j,hj,rfl,HI⟩:=hrel
  by_cases hlt : j < l.length
  ·have hlt1 : j + 1 ≤ l.length:=hlt
   obtain ⟨b,of,cs,rfl,hs,hc,hv⟩:=H.out.get hlt
   have hones:=Kfa.ones hv
   have hb:=Kac (w:=wr) (.cells cs 136)
   have hb2 : Below w.heap.size w (wr.alloc (.cells cs 136)):=Kaa HI.out.2 hb
   have HL1:=yh (StT.load Kco hs (fun i u hu=>Kak HI.out.2 (ltOf (hc i u hu)) (hc i u hu)) (W:=wr))
   have HS:=yh (StT.fresh Kco hs hones (W:=wr))
   have hv1 : PRd (wr.alloc (.cells cs 136)) l[j] cs:=hv.below hb2
   obtain ⟨y,ey,hkl,hvv⟩:=hv1
   have hys : y.size = 6:=Kec.size hvv
   have htot : totV l[j].val ≤ 1000000:=by
    have h1 : totP l[j] ≤ totPs l:=Kbb totP (List.getElem_mem hlt)
    have:=HT.out
    unfold totP at h1;omega
   have hno:=okPs_no hlt
   have hsn:=all_snoc (f:=okP) hlt HI.out.1
   have hokp : okP l[j] = (okNm l[j].key && (okV l[j].val && storB l[j].val)):=rfl
   rw [hokp] at hno hsn
   clear hokp
   generalize l[j].key = key at *
   generalize l[j].val = val at *
   have hk0 : cs[0]? = some (.string (strB key)):=by rw [ey,Array.getElem?_append_left (by simp)];rfl
   have hky : ∀ (i : Nat) (u : Value),y[i]? = some u → cs[1 + i]? = some u:=fun i u hu=>by
    rw [ey,Array.getElem?_append_right (by simp)]
    simpa using hu
   have HKL:=yh (Kag (P:=Tryz.prog) (w:=wr.alloc (.cells cs 136)) Tryz.underlying9 rfl (Kab (o:=0) (heap_alloc_new wr (.cells cs 136)) hk0))
   have hlv : ∀ W2,Below (wr.alloc (.cells cs 136)).heap.size (wr.alloc (.cells cs 136)) W2 → (loadVar 48 ⟨wr.heap.size,1,none⟩).run Tryz.prog W2 = .ok (.agg y) W2:=fun W2 g =>
    StT.load Kbp hys fun i u hu=>Kak g (by simp) (Kab (o:=1 + i) (heap_alloc_new wr (.cells cs 136)) (hky i u hu))
   have hone:=wname_any (HE.out.b hb2) key hkl
   have hstq : ∀ W2,Below (wr.alloc (.cells cs 136)).heap.size (wr.alloc (.cells cs 136)) W2 → Calls Tryz.prog 165 #[.agg y] W2 fun e w'=>e = .returned (.bool (okV val && storB val)) ∧ Below W2.heap.size W2 w':=fun W2 g=>storable_any (HE.out.b (Kaa hb2 g)) (hvv.below g) (by omega)
   have HC:=yh hone
   have HST:=yh hstq
   have HLV:=yh hlv
   have HB:=yh hb2
   clear hone hstq hlv hb hb2 hv hvv hk0 hky hones hc ey
   cases hok : okNm key with
   | false =>
     have HN:=yh (hno (by rw [hok];rfl))
     rw [hok] at HC
     clear hno hsn hok HI HK
     go_wp2_with (first
      | ((with_reducible apply Kal);exact HL1.out;exact rfl;clear HL1)
      | ((with_reducible apply Kae);exact HS.out _ rfl;exact rfl;exact rfl;clear HS)
      | ((with_reducible apply Kal);exact HKL.out;exact rfl;clear HKL)
      | (go_at_call 144;refine HC.out.mono ?_;rintro e W2 ⟨rfl,hb⟩;have HB2:=yh (Kaa HB.out hb);clear hb))
     go_ret
     exact ⟨by rw [HN.out];rfl,HB2.out⟩
   | true =>
     rw [hok] at HC
     cases hst : (okV val && storB val) with
     | false =>
       have HN:=yh (hno (by rw [hok,hst];rfl))
       rw [hst] at HST
       clear hno hsn hok hst HI HK
       go_wp2_with (first
        | ((with_reducible apply Kal);exact HL1.out;exact rfl;clear HL1)
        | ((with_reducible apply Kae);exact HS.out _ rfl;exact rfl;exact rfl;clear HS)
        | ((with_reducible apply Kal);exact HKL.out;exact rfl;clear HKL)
        | ((with_reducible apply Kdh);(exact HLV.out _ HB3.out;exact rfl;exact rfl;clear HLV))
        | (go_at_call 144;refine HC.out.mono ?_;rintro e W2 ⟨rfl,hb⟩;have HB2:=yh (Kaa HB.out hb);have HB3:=yh hb;clear hb)
        | (go_at_call 165;refine (HST.out _ HB3.out).mono ?_;rintro e W3 ⟨rfl,hb⟩;have HB4:=yh (Kaa HB2.out hb);clear hb))
       go_ret
       exact ⟨by rw [HN.out];rfl,HB4.out⟩
     | true =>
       have HN:=yh (hsn (by rw [hok,hst];rfl))
       rw [hst] at HST
       clear hno hsn hok hst HI HK
       go_wp2_with (first
        | ((with_reducible apply Kal);exact HL1.out;exact rfl;clear HL1)
        | ((with_reducible apply Kae);exact HS.out _ rfl;exact rfl;exact rfl;clear HS)
        | ((with_reducible apply Kal);exact HKL.out;exact rfl;clear HKL)
        | ((with_reducible apply Kdh);(exact HLV.out _ HB3.out;exact rfl;exact rfl;clear HLV))
        | (go_at_call 144;refine HC.out.mono ?_;rintro e W2 ⟨rfl,hb⟩;have HB2:=yh (Kaa HB.out hb);have HB3:=yh hb;clear hb)
        | (go_at_call 165;refine (HST.out _ HB3.out).mono ?_;rintro e W3 ⟨rfl,hb⟩;have HB4:=yh (Kaa HB2.out hb);clear hb))
       go_roundw
       case rel=>exact ⟨j + 1,hlt1,by go_num,yh ⟨HN.out,HB4.out⟩⟩
       case measure=>simp [intOf];omega
  ·obtain rfl : j = l.length:=by omega
   have hall:=HI.out.1
   rw [List.take_length] at hall
   have hkeys:=keys_rise (H.out.below (fun h=>h.below HI.out.2) HI.out.2) HLN.out HK.out
   have hfin : okPs l = Kbg (l.map PropD.key):=by rw [okPs_eq,hall,Bool.true_and]
   have HF:=yh hfin
   have HC:=yh hkeys
   have HB:=yh HI.out.2
   generalize Kbg (l.map PropD.key) = r at *
   clear HI hall hkeys hfin
   go_wp2_with (first
    | (go_at_call 166;refine HC.out.mono ?_;rintro e W2 ⟨pk,ck,rfl,hb,hr⟩;have HB2:=yh (Kaa HB.out hb);have HR:=yh hr;clear hb hr)
    | (go_at_call 140;refine HR.out.mono ?_;rintro e W3 ⟨rfl,hb⟩;have HB3:=yh (Kaa HB2.out hb);clear hb))
   go_ret
   exact ⟨by rw [HF.out];rfl,HB3.out⟩
theorem box_load {w w' : World} {B o : Nat} {cs : Array Value} {T t : TypeId} {d : TypeDesc} {v : Value} (hu : Tryz.prog.underlying t = some d) (hd : isAggD d = false) (h : w'.heap[B]? = some (.cells cs T (0,0))) (hv : cs[o]? = some v) : (loadVar t ⟨B,o,none⟩).run Tryz.prog w' = .ok v w' :=
 Kag hu (by revert hd;cases d <;> simp [isAggD]) (Kab (o:=o) h hv)
theorem gnode_any {w : World} (hE : Env w) {n : NodeD} {x : Array Value} (h : NRd w n x) (ht : totN n ≤ 1000000) : Calls Tryz.prog 100 #[.agg x] w fun e w'=>e = .returned (.bool (okN n)) ∧ Below w.heap.size w w':=by
 obtain ⟨pl,cl,pp,cp,rfl,hl,hp⟩:=h
 have hW : ∀ W,Below (w.alloc (.cells #[.int .i64 n.id,.slice pl n.labels.length cl,.slice pp n.props.length cp] 70)).heap.size (w.alloc (.cells #[.int .i64 n.id,.slice pl n.labels.length cl,.slice pp n.props.length cp] 70)) W → W.heap[w.heap.size]? = some (.cells #[.int .i64 n.id,.slice pl n.labels.length cl,.slice pp n.props.length cp] 70 (0,0)):=fun W g=>Kai g (by simp) (heap_alloc_new w _)
 have hok : okN n = ((decide (0 ≤ n.id) && Kbg n.labels) && okPs n.props && n.labels.all okNm):=rfl
 have hb:=Kac (w:=w) (.cells #[.int .i64 n.id,.slice pl n.labels.length cl,.slice pp n.props.length cp] 70)
 have hrs:=fun W (g : Below w.heap.size w W)=>risesS_any (hl.below g)
 have hps:=fun W (g : Below w.heap.size w W)=>gprops_any (hE.b g) (hp.below (fun h=>h.below g) g) (by unfold totN at ht;omega)
 have hbd:=fun W (g : Below w.heap.size w W)=>hasBad_any (hE.b g) (hl.below g)
 rw [hok]
 clear hok hE hl hp ht
 generalize okPs n.props = r2 at *
 generalize n.labels.all okNm = r3 at *
 generalize Kbg n.labels = r1 at *
 have HR:=yh hrs
 have HP:=yh hps
 have HD:=yh hbd
 have HB:=yh hb
 have HW:=yh hW
 clear hrs hps hbd hW hb
 cases hc0 : decide (0 ≤ n.id) <;> cases r1 <;> cases r2
 all_goals
  go_enter Tryz.func100,Tryz.ntmps100
  go_wp2_with (first
   | (go_at_call 140;refine (HR.out _ HB.out).mono ?_;rintro e W2 ⟨rfl,hb⟩;have HB1:=yh (And.intro hb (Kaa HB.out hb));have HL2:=Kab (o:=2) (HW.out _ hb) rfl;clear hb)
   | (go_at_call 141;refine (HP.out _ HB1.out.2).mono ?_;rintro e W3 ⟨rfl,hb⟩;have HB2:=yh (And.intro (Kaa HB1.out.1 hb) (Kaa HB1.out.2 hb));have HL1:=Kab (o:=1) (HW.out _ HB2.out.1) rfl;clear hb HL2)
   | (go_at_call 142;refine (HD.out _ HB2.out.2).mono ?_;rintro e W4 ⟨rfl,hb⟩;have HB3:=yh (Kaa HB2.out.2 hb);clear hb HL1))
  go_ret
  first
   | exact ⟨by simp,HB3.out⟩
   | exact ⟨by simp,HB2.out.2⟩
   | exact ⟨by simp,HB1.out.2⟩
   | exact ⟨by simp,HB.out⟩
theorem grel_any {w : World} (hE : Env w) {n : RelD} {x : Array Value} (h : RRd w n x) (ht : totR n ≤ 1000000) : Calls Tryz.prog 101 #[.agg x] w fun e w'=>e = .returned (.bool (okR n)) ∧ Below w.heap.size w w':=by
 obtain ⟨pp,cp,rfl,hl,hp⟩:=h
 have hW : ∀ W,Below (w.alloc (.cells #[.int .i64 n.id,.int .i64 n.src,.int .i64 n.dst,.string (strB n.type),.slice pp n.props.length cp] 72)).heap.size (w.alloc (.cells #[.int .i64 n.id,.int .i64 n.src,.int .i64 n.dst,.string (strB n.type),.slice pp n.props.length cp] 72)) W → W.heap[w.heap.size]? = some (.cells #[.int .i64 n.id,.int .i64 n.src,.int .i64 n.dst,.string (strB n.type),.slice pp n.props.length cp] 72 (0,0)):=fun W g=>Kai g (by simp) (heap_alloc_new w _)
 have hok : okR n = ((decide (0 ≤ n.id) && okNm n.type) && okPs n.props):=rfl
 have hb:=Kac (w:=w) (.cells #[.int .i64 n.id,.int .i64 n.src,.int .i64 n.dst,.string (strB n.type),.slice pp n.props.length cp] 72)
 have hrs:=fun W (g : Below w.heap.size w W)=>wname_any (hE.b g) n.type hl
 have hps:=fun W (g : Below w.heap.size w W)=>gprops_any (hE.b g) (hp.below (fun h=>h.below g) g) (by unfold totR at ht;omega)
 rw [hok]
 clear hok hE hl hp ht
 generalize okPs n.props = r2 at *
 generalize okNm n.type = r1 at *
 have HR:=yh hrs
 have HP:=yh hps
 have HB:=yh hb
 have HW:=yh hW
 clear hrs hps hW hb
 cases hc0 : decide (0 ≤ n.id) <;> cases r1
 all_goals
  go_enter Tryz.func101,Tryz.ntmps101
  go_wp2_with (first
   | (go_at_call 144;refine (HR.out _ HB.out).mono ?_;rintro e W2 ⟨rfl,hb⟩;have HB1:=yh (And.intro hb (Kaa HB.out hb));have HL2:=Kab (o:=4) (HW.out _ hb) rfl;clear hb)
   | (go_at_call 141;refine (HP.out _ HB1.out.2).mono ?_;rintro e W3 ⟨rfl,hb⟩;have HB2:=yh (And.intro (Kaa HB1.out.1 hb) (Kaa HB1.out.2 hb));clear hb HL2))
  go_ret
  first
   | exact ⟨by simp,HB2.out.2⟩
   | exact ⟨by simp,HB1.out.2⟩
   | exact ⟨by simp,HB.out⟩
def cmpZ (a b : Int) : Int:=if a < b then -1 else if b < a then 1 else 0
theorem cmpZ_zero (a b : Int) : decide (cmpZ a b = 0) = decide (a = b):=by
 unfold cmpZ
 split
 ·rw [Bool.eq_iff_iff];simp;omega
 ·split
  ·rw [Bool.eq_iff_iff];simp;omega
  ·rw [Bool.eq_iff_iff];simp;omega
theorem cmpZ_neg (a b : Int) : decide (cmpZ a b < 0) = decide (a < b):=by
 unfold cmpZ
 split
 ·rw [Bool.eq_iff_iff];simp;omega
 ·split
  ·rw [Bool.eq_iff_iff];simp;omega
  ·rw [Bool.eq_iff_iff];simp;omega
theorem noNaN (n : Int) (w : World) : Calls Tryz.prog 169 #[.int .i64 n] w fun e w'=>e = .returned (.bool false) ∧ w = w':=by
 go_enter Tryz.func169,Tryz.ntmps169
 go_wp2
 go_ret
 exact ⟨rfl,rfl⟩
theorem cmpZ_any (a b : Int) (w : World) : Calls Tryz.prog 147 #[.int .i64 a,.int .i64 b] w fun e w'=>e = .returned (.int .i64 (cmpZ a b)) ∧ w = w':=by
 have HN:=yh (fun n=>noNaN n w)
 have HU:=yh (show cmpZ a b = if a < b then -1 else if b < a then 1 else 0 from rfl)
 generalize cmpZ a b = r at *
 by_cases h1 : a < b
 ·have hr : r = -1:=by rw [HU.out,if_pos h1]
  clear HU
  subst hr
  go_enter Tryz.func147,Tryz.ntmps147
  go_wp2_with (go_at_call 169;refine (HN.out _).mono ?_;rintro e w1 ⟨rfl,rfl⟩)
  go_ret
  exact ⟨rfl,rfl⟩
 ·by_cases h2 : b < a
  ·have hr : r = 1:=by rw [HU.out,if_neg h1,if_pos h2]
   clear HU
   subst hr
   go_enter Tryz.func147,Tryz.ntmps147
   go_wp2_with (go_at_call 169;refine (HN.out _).mono ?_;rintro e w1 ⟨rfl,rfl⟩)
   go_ret
   exact ⟨rfl,rfl⟩
  ·have hr : r = 0:=by rw [HU.out,if_neg h1,if_neg h2]
   clear HU
   subst hr
   go_enter Tryz.func147,Tryz.ntmps147
   go_wp2_with (go_at_call 169;refine (HN.out _).mono ?_;rintro e w1 ⟨rfl,rfl⟩)
   go_ret
   exact ⟨rfl,rfl⟩
theorem hasCmp_any {w : World} {n : NodeD} {cs : Array Value} (h : NRd w n cs) (x : Int) : Calls Tryz.prog 146 #[.agg cs,.int .i64 x] w fun e w'=>e = .returned (.int .i64 (cmpZ n.id x)) ∧ Below w.heap.size w w':=by
 obtain ⟨pl,cl,pp,cp,rfl,hl,hp⟩:=h
 have HC:=yh (cmpZ_any n.id x (w.alloc (.cells #[.int .i64 n.id,.slice pl n.labels.length cl,.slice pp n.props.length cp] 70)))
 have HB:=yh (Kac (w:=w) (.cells #[.int .i64 n.id,.slice pl n.labels.length cl,.slice pp n.props.length cp] 70))
 clear hl hp
 go_enter Tryz.func146,Tryz.ntmps146
 go_wp2_with (go_at_call 147;refine HC.out.mono ?_;rintro e w1 ⟨rfl,rfl⟩)
 go_ret
 exact ⟨rfl,HB.out⟩
section
variable {P : Program} {ops : Array Oper} {rest : List Oper} {Q : Exit → Act → World → Prop} {a : Act} {w w' : World} {dst : Option Tmp} {ty : TypeId} {pos : String} {af : Array Edge} {t t' : TypeId} {x y : Operand} {v : Value}
theorem op_binu {op : BinOp} {k k' : IntKind} {n m : Int} (hr : (binOp op t (.int k n) (.int k' m)).run P w = .ok v w) (hx : a.eval x = .int k n) (hy : a.eval y = .int k' m) (h : wpList P ops Q rest (a.put dst v) w) : wpList P ops Q (⟨dst,.binOp op t x y t',ty,pos,af,none⟩ :: rest) a w:=Kbf rfl (exec_binu rfl hx hy hr) h
end
theorem add_int {i j : Nat} (h : i + j ≤ 281474976710656) (W : World) : (binOp .add 3 (.int .i64 (i : Int)) (.int .i64 (j : Int))).run Tryz.prog W = .ok (.int .i64 ((i + j : Nat) : Int)) W:=by
 have e : IntKind.i64.wrap ((i : Int) + (j : Int)) = ((i + j : Nat) : Int):=by rw [IntKind.wrap_i64];omega
 simp [go_sem,e]
theorem conv_iu {i : Nat} (h : i ≤ 281474976710656) (W : World) : (convert 3 182 (.int .i64 (i : Int))).run Tryz.prog W = .ok (.int .u64 (i : Int)) W:=by
 have e : IntKind.u64.wrap (i : Int) = (i : Int):=by rw [IntKind.wrap_u64];omega
 simp [convert,go_sem,e]
theorem conv_ui {i : Nat} (h : i ≤ 281474976710656) (W : World) : (convert 182 3 (.int .u64 (i : Int))).run Tryz.prog W = .ok (.int .i64 (i : Int)) W:=by
 have e : IntKind.i64.wrap (i : Int) = (i : Int):=by rw [IntKind.wrap_i64];omega
 simp [convert,go_sem,e]
theorem half_uint {i : Nat} (W : World) : (binOp .shr 182 (.int .u64 (i : Int)) (.int .u64 1)).run Tryz.prog W = .ok (.int .u64 ((i / 2 : Nat) : Int)) W:=by
 simp [go_sem]
theorem bsearch_any {w : World} {p : Option Addr} {c : Nat} {l : List NodeD} (h : GRd NRd 3 w p c l) (hr : Kch (l.map NodeD.id) = true) (x : Int) :
 Calls Tryz.prog 145 #[.slice p l.length c,.int .i64 x,.func (.func 146) #[] #[]] w fun e w'=>∃ k,e = .returned (.tuple #[.int .i64 k,.bool ((l.map NodeD.id).any (· == x))]) ∧ Below w.heap.size w w':=by
 have z1 : (l.length : Int) ≤ 140737488355328:=by have:=h.1.2.1;omega
 have H:=yh h
 have HR:=yh hr
 clear h hr
 go_enter Tryz.func145,Tryz.ntmps145
 go_wp2
 go_loopw [9,10] (fun a b W=>∃ i j : Nat,i ≤ j ∧ j ≤ l.length ∧ a = .int .i64 (i : Int) ∧ b = .int .i64 (j : Int) ∧ Hid ((∀ t (ht : t < (l.map NodeD.id).length),t < i → (l.map NodeD.id)[t] < x) ∧ (∀ t (ht : t < (l.map NodeD.id).length),j ≤ t → x ≤ (l.map NodeD.id)[t]) ∧ Below w.heap.size w W)) (fun a b _=>(intOf b).toNat - (intOf a).toNat)
 case atStart=>exact ⟨0,l.length,Nat.zero_le _,Nat.le_refl _,rfl,rfl,yh ⟨fun t _ h=>by omega,fun t ht h=>by rw [List.length_map] at ht;omega,Below.refl _ _⟩⟩
 case round =>
  obtain ⟨i,j,hij,hj,rfl,rfl,HI⟩:=hrel
  by_cases hlt : i < j
  ·obtain ⟨h,hh⟩ : ∃ h,h = (i + j) / 2:=⟨_,rfl⟩
   have h1 : i ≤ h:=by omega
   have h2 : h < j:=by omega
   have hl : h < l.length:=by omega
   have glt : (i : Int) < (j : Int):=by omega
   obtain ⟨bk,ok,cs,rfl,hs,hc,hv⟩:=(H.out.below (fun h=>h.below HI.out.2.2) HI.out.2.2).get hl
   have HL:=yh (StT.load Kbo hs hc)
   have HC:=yh (hasCmp_any hv x)
   have HA:=yh (add_int (i:=i) (j:=j) (by omega) wr)
   have HU:=yh (conv_iu (i:=i + j) (by omega) wr)
   have HS:=yh (half_uint (i:=i + j) wr)
   have HV:=yh (conv_ui (i:=(i + j) / 2) (by omega) wr)
   rw [← hh] at HS HV
   have hia : ∀ W' : World,(Instr.indexAt 22 (.slice (some ⟨bk,ok,none⟩) l.length c) (.int .i64 (h : Int))).run Tryz.prog W' = .ok (.pointer (some ⟨bk,ok + h * 3,none⟩)) W':=by intro W';simp [go_sem,hl]
   have hlo : (l.map NodeD.id)[h]'(by simpa using hl) < x → ∀ t (ht : t < (l.map NodeD.id).length),t < h + 1 → (l.map NodeD.id)[t] < x:=fun hx t ht hth=>by
    by_cases e : t = h
    ·subst e;exact hx
    ·have:=Ke1 HR.out (a:=t) (b:=h) (by simpa using hl) (by omega)
     omega
   have hhi : ¬ (l.map NodeD.id)[h]'(by simpa using hl) < x → ∀ t (ht : t < (l.map NodeD.id).length),h ≤ t → x ≤ (l.map NodeD.id)[t]:=fun hx t ht hth=>by
    by_cases e : t = h
    ·subst e;omega
    ·have:=Ke1 HR.out (a:=h) (b:=t) ht (by omega)
     omega
   rw [List.getElem_map] at hlo hhi
   generalize l[h].id = id at *
   have hcn:=cmpZ_neg id x
   have HX:=yh (And.intro hlo hhi)
   have HJ:=yh HI.out
   clear hlo hhi hs hc hv HI
   generalize cmpZ id x = r at *
   cases hcx : decide (id < x) with
   | true =>
     rw [hcx] at hcn
     have hlt0 : id < x:=by simpa using hcx
     have HX1:=yh (HX.out.1 hlt0)
     clear HX hcx hlt0 hh
     go_wp2_with (first
      | ((with_reducible apply op_binu);exact HA.out;exact rfl;exact rfl)
      | ((with_reducible apply Kcg);exact HU.out;exact rfl)
      | ((with_reducible apply op_binu);exact HS.out;exact rfl;exact rfl)
      | ((with_reducible apply Kcg);exact HV.out;exact rfl)
      | ((with_reducible apply Kal);exact HL.out;exact rfl)
      | (go_at_call 146;refine HC.out.mono ?_;rintro e W2 ⟨rfl,hb⟩;have HB2:=yh (Kaa HJ.out.2.2 hb);clear hb))
     go_roundw
     case rel=>exact ⟨h + 1,j,h2,hj,by go_num,rfl,yh ⟨HX1.out,HJ.out.2.1,HB2.out⟩⟩
     case measure=>simp [intOf];omega
   | false =>
     rw [hcx] at hcn
     have hlt0 : ¬ id < x:=by simpa using hcx
     have HX1:=yh (HX.out.2 hlt0)
     clear HX hcx hlt0 hh
     go_wp2_with (first
      | ((with_reducible apply op_binu);exact HA.out;exact rfl;exact rfl)
      | ((with_reducible apply Kcg);exact HU.out;exact rfl)
      | ((with_reducible apply op_binu);exact HS.out;exact rfl;exact rfl)
      | ((with_reducible apply Kcg);exact HV.out;exact rfl)
      | ((with_reducible apply Kal);exact HL.out;exact rfl)
      | (go_at_call 146;refine HC.out.mono ?_;rintro e W2 ⟨rfl,hb⟩;have HB2:=yh (Kaa HJ.out.2.2 hb);clear hb))
     go_roundw
     case rel=>exact ⟨i,h,h1,by omega,rfl,rfl,yh ⟨HJ.out.1,HX1.out,HB2.out⟩⟩
     case measure=>simp [intOf];omega
  ·obtain rfl : i = j:=by omega
   by_cases hl : i < l.length
   ·obtain ⟨bk,ok,cs,rfl,hs,hc,hv⟩:=H.out.get hl
    have hia : ∀ W' : World,(Instr.indexAt 22 (.slice (some ⟨bk,ok,none⟩) l.length c) (.int .i64 (i : Int))).run Tryz.prog W' = .ok (.pointer (some ⟨bk,ok + i * 3,none⟩)) W':=by intro W';simp [go_sem,hl]
    have hld : (loadVar 70 ⟨bk,ok + i * 3,none⟩).run Tryz.prog wr = .ok (.agg cs) wr:=StT.load Kbo hs fun k u hu=>Kak HI.out.2.2 (ltOf (hc k u hu)) (hc k u hu)
    have HC:=yh (hasCmp_any (hv.below HI.out.2.2) x)
    have hfo:=found_of HI.out.1 HI.out.2.1 HR.out (by simpa using hl)
    rw [List.getElem_map] at hfo
    generalize l[i].id = id at *
    have hcz:=cmpZ_zero id x
    have HL:=yh hld
    have HB:=yh HI.out.2.2
    have gl : (i : Int) < (l.length : Int):=by omega
    rw [hfo] at hcz
    clear hld hfo hs hc hv HI HR H
    generalize cmpZ id x = z at *
    go_wp2_with (first
     | ((with_reducible apply Kal);exact HL.out;exact rfl)
     | ((with_reducible apply Kdh);exact HL.out;exact rfl;exact rfl)
     | (go_at_call 146;refine HC.out.mono ?_;rintro e W2 ⟨rfl,hb⟩;have HB2:=yh (Kaa HB.out hb);clear hb))
    go_ret2
    have e : (z == 0) = (l.map NodeD.id).any (· == x):=by rw [← hcz];rfl
    refine ⟨(i : Int),?_,HB2.out⟩
    show Ending.returned (.tuple #[.int .i64 (i : Int),.bool (z == 0)]) = _
    rw [e]
   ·obtain rfl : i = l.length:=by omega
    have hfo:=found_none (l:=l.map NodeD.id) (x:=x) fun t ht=>HI.out.1 t ht (by simpa using ht)
    have HF:=yh (And.intro hfo HI.out.2.2)
    clear hfo HI HR H
    go_wp2
    go_ret2
    exact ⟨_,by rw [HF.out.1];rfl,HF.out.2⟩
theorem has_any {w : World} {g : GraphD} {x : Array Value} (h : GrRd w g x) (hr : Kch (g.nodes.map NodeD.id) = true) (i : Int) : Calls Tryz.prog 102 #[.agg x,.int .i64 i] w fun e w'=>e = .returned (.bool (hasN g i)) ∧ Below w.heap.size w w':=by
 obtain ⟨pn,cn,pr,cr,rfl,hn,hrl⟩:=h
 have hb:=Kac (w:=w) (.cells #[.slice pn g.nodes.length cn,.slice pr g.rels.length cr,.int .i64 g.nextNode,.int .i64 g.nextRel] 25)
 have HC:=yh (bsearch_any (hn.below (fun h=>h.below hb) hb) hr i)
 have HB:=yh hb
 rw [hasN_ids]
 clear hn hrl hb hr
 generalize (g.nodes.map NodeD.id).any (· == i) = r at *
 go_enter Tryz.func102,Tryz.ntmps102
 go_wp2_with (go_at_call 145;refine HC.out.mono ?_;rintro e w1 ⟨k,rfl,hb⟩;have HB2:=yh (Kaa HB.out hb);clear hb)
 go_ret
 exact ⟨rfl,HB2.out⟩
end Go.Proofs.YthdfedfholmbmaaGreatDoor
