/- Texts that the proof shares (each declaration is a lemma of this layer). -/
import Derived.Test.YtihfnegakcghiaaGreatDoorZGdiffb
import Derived.Test.YtihfnegakcghiaaGreatDoorZGdiffc
import Derived.Test.YtihfnegakcghiaaGreatDoorZGdiffd
set_option linter.unusedSimpArgs false
set_option linter.unusedVariables false
set_option linter.unnecessarySimpa false
set_option maxRecDepth 100000
set_option maxHeartbeats 64000000
namespace Go.Proofs.YtihfnegakcghiaaGreatDoor
open Go.RowKit
theorem geq_zero (n : Int) (W : World) : (binOp .geq 3 (.int .i64 n) (.int .i64 0)).run Tryz.prog W = .ok (.bool (decide (0 ≤ n))) W:=by simp [go_sem]
theorem cmp_geq (a b : List UInt8) : decide (0 ≤ cmpB a b) = !(ltB a b):=by
 rcases cmpB_cases a b with ⟨h1,h2⟩ | ⟨h1,h2,h3⟩ | ⟨h1,h2,h3,_⟩
 ·rw [h1,h2];rfl
 ·rw [h1,h3];rfl
 ·rw [h1,h3];rfl
def Kdp (l : List (List UInt8)) : Bool:=Kav l && l.all okNm
theorem risesNm_no {l : List (List UInt8)} {j : Nat} (hj : j < l.length) (h : okNm l[j] = false) : Kdp l = false:=by
 have : l.all okNm = false:=by
  rw [List.all_eq_false]
  exact ⟨l[j],List.getElem_mem hj,by simp [h]⟩
 unfold Kdp
 rw [this,Bool.and_false]
theorem risesB_no {l : List (List UInt8)} {j : Nat} (h0 : 0 < j) (hj : j < l.length) (h : ltB l[j - 1] l[j] = false) : Kav l = false:=by
 cases hr : Kav l with
 | false=>rfl
 | true =>
   have hp:=(rises_pair l).1 hr
   have:=List.pairwise_iff_getElem.1 hp (j - 1) j (by omega) hj (by omega)
   have e : ltB l[j - 1] l[j] = true:=this
   rw [h] at e;cases e
theorem risesB_one {l : List (List UInt8)} (hj : 0 < l.length) : Kav (l.take 1) = true:=by
 cases l with
 | nil=>simp at hj
 | cons a r=>rfl
theorem risesB_more {l : List (List UInt8)} {j : Nat} (h0 : 0 < j) (hj : j < l.length) (hr : Kav (l.take j) = true) (h : ltB l[j - 1] l[j] = true) : Kav (l.take (j + 1)) = true:=by
 obtain ⟨i,rfl⟩ : ∃ i,j = i + 1:=⟨j - 1,by omega⟩
 rw [Kc8 hj,hr]
 simpa using h
theorem refrises_any {w : World} {p : Option Addr} {c : Nat} {l : List (List UInt8)} (h : RdS w p c l) : Calls Tryz.prog 33 #[.slice p l.length c] w fun e w'=>e = .returned (.bool (Kdp l)) ∧ Below w.heap.size w w':=by
 have z1 : (l.length : Int) ≤ 140737488355328:=by have:=h.2.1.1;omega
 have H:=yh h
 clear h
 go_enter Tryz.func33,Tryz.ntmps33
 go_wp2
 go_loopw [3] (fun i W=>∃ j : Nat,j ≤ l.length ∧ i = .int .i64 (j : Int) ∧ Hid ((l.take j).all okNm = true ∧ Kav (l.take j) = true ∧ Below w.heap.size w W)) (fun i _=>l.length - (intOf i).toNat)
 case atStart=>exact ⟨0,Nat.zero_le _,rfl,yh ⟨by simp,by simp [Kav],Below.refl _ _⟩⟩
 case round =>
  obtain ⟨j,hj,rfl,HI⟩:=hrel
  by_cases hlt : j < l.length
  ·have hlt1 : j + 1 ≤ l.length:=hlt
   have hRw:=H.out.below HI.out.2.2
   obtain ⟨bk,ok,rfl,q1,hl1⟩:=hRw.get hlt
   have hi1 : ∀ W' : World,(Instr.indexAt 26 (.slice (some ⟨bk,ok,none⟩) l.length c) (.int .i64 (j : Int))).run Tryz.prog W' = .ok (.pointer (some ⟨bk,ok + j,none⟩)) W':=fun W'=>ia_text hlt W'
   have hall:=Kek (f:=okNm) hlt HI.out.1
   have hno:=risesNm_no hlt
   have hnm:=fun W=>refname_any (w:=W) l[j] hl1
   have hB0 : Below wr.heap.size wr wr.drew:=(Below.refl _ wr).drew
   cases hok : okNm l[j] with
   | false =>
     have HF:=yh (And.intro (hno hok) HI.out.2.2)
     simp only [hok] at hnm
     generalize l[j] = s1 at *
     have HX:=yh (And.intro hi1 (And.intro q1 (And.intro hnm hB0)))
     clear hi1 q1 hnm hB0 hall hno hRw HI
     go_wp2
     obtain ⟨hi1,q1,hnm,hB0⟩:=HX.out
     refine Kag (fun W=>Below wr.heap.size wr W) (by kernel_rfl) hB0 (fun hS=>?_)
     refine tm 0 10 (v:=.slice (some ⟨bk,ok,none⟩) l.length c) rfl rfl rfl ?_;simp only [zP]
     refine tm 1 11 (v:=.int .i64 (j : Int)) rfl rfl rfl ?_;simp only [zP]
     refine tk 2 12 (v:=.pointer (some ⟨bk,ok + j,none⟩)) rfl rfl (fun W hW=>Kai rfl rfl rfl (hi1 W)) ?_;simp only [zP]
     refine tk 3 13 (v:=.string (strB s1)) rfl rfl (fun W hW=>Kac rfl rfl (Kaf (w:=W) Tryz.underlying9 rfl (Kad hW (ltOf q1) q1))) ?_;simp only [zP]
     refine Kan 4 14 rfl rfl (by kernel_rfl) rfl (Kam [.string (strB s1)] rfl rfl Tryz.func35 (by kernel_rfl) (by kernel_rfl)) ?_
     refine (hnm _).mono ?_
     rintro e W4 ⟨rfl,rfl⟩
     have hS4:=hS
     refine ⟨_,rfl,.inr hS4,?_⟩;simp only [zP]
     refine tk 5 15 (v:=.bool true) rfl rfl (fun W hW=>Kap (b:=false) rfl rfl) ?_;simp only [zP]
     refine tm 6 16 (v:=.bool true) rfl rfl rfl ?_;simp only [zP]
     refine tx 7 17 ?_;simp only [zP]
     refine tx 8 18 ?_;simp only [zP]
     refine tx 9 19 ?_;simp only [zP]
     refine tx 10 20 ?_;simp only [zP]
     refine tx 11 21 ?_;simp only [zP]
     refine tx 12 22 ?_;simp only [zP]
     refine tx 13 23 ?_;simp only [zP]
     refine tx 14 24 ?_;simp only [zP]
     refine tx 15 25 ?_;simp only [zP]
     refine tx 16 26 ?_;simp only [zP]
     refine tx 17 27 ?_;simp only [zP]
     refine tx 18 28 ?_;simp only [zP]
     refine Kas 19 29 rfl rfl (by kernel_rfl) rfl ?_ (.inr (by assumption));simp only [zP]
     refine tx 20 30 ?_;simp only [zP]
     refine tx 21 31 ?_;simp only [zP]
     refine tk 22 32 (v:=.bool true) rfl rfl (fun W hW=>rfl) ?_;simp only [zP]
     refine done (by kernel_rfl) ?_ _
     have HB:=yh hS4
     clear hi1 q1 hnm hB0 hS hS4 HX
     go_wp2
     go_ret
     exact ⟨Kak HF.out.1.symm,Kaa HF.out.2 HB.out⟩
   | true =>
     have HA:=yh (hall hok)
     simp only [hok] at hnm
     by_cases h0 : j = 0
     ·subst h0
      have HN:=yh (risesB_one hlt)
      have hgt : ∀ W : World,(binOp .gtr 3 (.int .i64 ((0 : Nat) : Int)) (.int .i64 0)).run Tryz.prog W = .ok (.bool false) W:=fun W=>by simp [go_sem]
      have HB1:=yh HI.out.2.2
      generalize l[0] = s1 at *
      have HX:=yh (And.intro hi1 (And.intro q1 (And.intro hnm (And.intro hB0 hgt))))
      clear hi1 q1 hnm hB0 hgt hall hno hRw HI hok
      go_wp2
      obtain ⟨hi1,q1,hnm,hB0,hgt⟩:=HX.out
      refine Kag (fun W=>Below wr.heap.size wr W) (by kernel_rfl) hB0 (fun hS=>?_)
      refine tm 0 10 (v:=.slice (some ⟨bk,ok,none⟩) l.length c) rfl rfl rfl ?_;simp only [zP]
      refine tm 1 11 (v:=.int .i64 ((0 : Nat) : Int)) rfl rfl rfl ?_;simp only [zP]
      refine tk 2 12 (v:=.pointer (some ⟨bk,ok + 0,none⟩)) rfl rfl (fun W hW=>Kai rfl rfl rfl (hi1 W)) ?_;simp only [zP]
      refine tk 3 13 (v:=.string (strB s1)) rfl rfl (fun W hW=>Kac rfl rfl (Kaf (w:=W) Tryz.underlying9 rfl (Kad hW (ltOf q1) q1))) ?_;simp only [zP]
      refine Kan 4 14 rfl rfl (by kernel_rfl) rfl (Kam [.string (strB s1)] rfl rfl Tryz.func35 (by kernel_rfl) (by kernel_rfl)) ?_
      refine (hnm _).mono ?_
      rintro e W4 ⟨rfl,rfl⟩
      have hS4:=hS
      refine ⟨_,rfl,.inr hS4,?_⟩;simp only [zP]
      refine tk 5 15 (v:=.bool false) rfl rfl (fun W hW=>Kap (b:=true) rfl rfl) ?_;simp only [zP]
      refine tm 6 16 (v:=.bool false) rfl rfl rfl ?_;simp only [zP]
      refine tm 7 17 (v:=.int .i64 ((0 : Nat) : Int)) rfl rfl rfl ?_;simp only [zP]
      refine tk 8 18 (v:=.bool false) rfl rfl (fun W hW=>Kal rfl rfl rfl (hgt W)) ?_;simp only [zP]
      refine tm 9 19 (v:=.bool false) rfl rfl rfl ?_;simp only [zP]
      refine tx 10 20 ?_;simp only [zP]
      refine tx 11 21 ?_;simp only [zP]
      refine tx 12 22 ?_;simp only [zP]
      refine tx 13 23 ?_;simp only [zP]
      refine tx 14 24 ?_;simp only [zP]
      refine tx 15 25 ?_;simp only [zP]
      refine tx 16 26 ?_;simp only [zP]
      refine tx 17 27 ?_;simp only [zP]
      refine tx 18 28 ?_;simp only [zP]
      refine Kas 19 29 rfl rfl (by kernel_rfl) rfl ?_ (.inr (by assumption));simp only [zP]
      refine tx 20 30 ?_;simp only [zP]
      refine tk 21 31 (v:=.bool false) rfl rfl (fun W hW=>rfl) ?_;simp only [zP]
      refine tk 22 32 (v:=.bool false) rfl rfl (fun W hW=>rfl) ?_;simp only [zP]
      refine done (by kernel_rfl) ?_ _
      have HB:=yh (Kaa HB1.out hS4)
      clear hi1 q1 hnm hB0 hgt hS hS4 HX
      go_wp2
      go_roundw
      case rel=>exact ⟨1,hlt1,by go_num,yh ⟨HA.out,HN.out,HB.out⟩⟩
      case measure=>simp [intOf];omega
     ·have h0' : 0 < j:=Nat.pos_of_ne_zero h0
      obtain ⟨bk2,ok2,e2,q0,hl0⟩:=hRw.get (show j - 1 < l.length by omega)
      cases e2
      have hi0 : ∀ W' : World,(Instr.indexAt 26 (.slice (some ⟨bk,ok,none⟩) l.length c) (.int .i64 ((j - 1 : Nat) : Int))).run Tryz.prog W' = .ok (.pointer (some ⟨bk,ok + (j - 1),none⟩)) W':=fun W'=>ia_text (by omega) W'
      have hgt : ∀ W : World,(binOp .gtr 3 (.int .i64 (j : Int)) (.int .i64 0)).run Tryz.prog W = .ok (.bool true) W:=fun W=>by
       have e : decide ((0 : Int) < (j : Int)) = true:=by simp;omega
       simp [go_sem,h0']
      have hsub : ∀ W : World,(binOp .sub 3 (.int .i64 (j : Int)) (.int .i64 1)).run Tryz.prog W = .ok (.int .i64 ((j - 1 : Nat) : Int)) W:=fun W=>by
       have e1 : (j : Int) = ((j - 1 : Nat) : Int) + 1:=by omega
       rw [e1]
       exact sub_one (by omega) W
      have hnr:=risesB_no h0' hlt
      have hmr:=risesB_more h0' hlt HI.out.2.1
      have hge:=fun W=>geq_zero (cmpB l[j - 1] l[j]) W
      simp only [cmp_geq] at hge
      have HNR:=yh (And.intro hnr hmr)
      have HB1:=yh HI.out.2.2
      generalize l[j - 1] = s0 at *
      generalize l[j] = s1 at *
      have HX:=yh (And.intro hi1 (And.intro q1 (And.intro hnm (And.intro hB0 (And.intro hgt (And.intro hi0 (And.intro q0 (And.intro hl0 (And.intro hl1 (And.intro hsub hge))))))))))
      clear hi1 q1 hnm hB0 hgt hi0 q0 hl0 hl1 hsub hge hall hno hRw HI hok h0 hnr hmr
      cases hlb : ltB s0 s1 with
      | true =>
        have HN:=yh (HNR.out.2 hlb)
        go_wp2
        obtain ⟨hi1,q1,hnm,hB0,hgt,hi0,q0,hl0,hl1,hsub,hge⟩:=HX.out
        refine Kag (fun W=>Below wr.heap.size wr W) (by kernel_rfl) hB0 (fun hS=>?_)
        refine tm 0 10 (v:=.slice (some ⟨bk,ok,none⟩) l.length c) rfl rfl rfl ?_;simp only [zP]
        refine tm 1 11 (v:=.int .i64 (j : Int)) rfl rfl rfl ?_;simp only [zP]
        refine tk 2 12 (v:=.pointer (some ⟨bk,ok + j,none⟩)) rfl rfl (fun W hW=>Kai rfl rfl rfl (hi1 W)) ?_;simp only [zP]
        refine tk 3 13 (v:=.string (strB s1)) rfl rfl (fun W hW=>Kac rfl rfl (Kaf (w:=W) Tryz.underlying9 rfl (Kad hW (ltOf q1) q1))) ?_;simp only [zP]
        refine Kan 4 14 rfl rfl (by kernel_rfl) rfl (Kam [.string (strB s1)] rfl rfl Tryz.func35 (by kernel_rfl) (by kernel_rfl)) ?_
        refine (hnm _).mono ?_
        rintro e W4 ⟨rfl,rfl⟩
        have hS4:=hS
        refine ⟨_,rfl,.inr hS4,?_⟩;simp only [zP]
        refine tk 5 15 (v:=.bool false) rfl rfl (fun W hW=>Kap (b:=true) rfl rfl) ?_;simp only [zP]
        refine tm 6 16 (v:=.bool false) rfl rfl rfl ?_;simp only [zP]
        refine tm 7 17 (v:=.int .i64 (j : Int)) rfl rfl rfl ?_;simp only [zP]
        refine tk 8 18 (v:=.bool true) rfl rfl (fun W hW=>Kal rfl rfl rfl (hgt W)) ?_;simp only [zP]
        refine tm 9 19 (v:=.bool true) rfl rfl rfl ?_;simp only [zP]
        refine tm 10 20 (v:=.slice (some ⟨bk,ok,none⟩) l.length c) rfl rfl rfl ?_;simp only [zP]
        refine tm 11 21 (v:=.int .i64 (j : Int)) rfl rfl rfl ?_;simp only [zP]
        refine tk 12 22 (v:=.int .i64 ((j - 1 : Nat) : Int)) rfl rfl (fun W hW=>Kal rfl rfl rfl (hsub W)) ?_;simp only [zP]
        refine tk 13 23 (v:=.pointer (some ⟨bk,ok + (j - 1),none⟩)) rfl rfl (fun W hW=>Kai rfl rfl rfl (hi0 W)) ?_;simp only [zP]
        refine tk 14 24 (v:=.string (strB s0)) rfl rfl (fun W hW=>Kac rfl rfl (Kaf (w:=W) Tryz.underlying9 rfl (Kad hW (ltOf q0) q0))) ?_;simp only [zP]
        refine tm 15 25 (v:=.slice (some ⟨bk,ok,none⟩) l.length c) rfl rfl rfl ?_;simp only [zP]
        refine tm 16 26 (v:=.int .i64 (j : Int)) rfl rfl rfl ?_;simp only [zP]
        refine tk 17 27 (v:=.pointer (some ⟨bk,ok + j,none⟩)) rfl rfl (fun W hW=>Kai rfl rfl rfl (hi1 W)) ?_;simp only [zP]
        refine tk 18 28 (v:=.string (strB s1)) rfl rfl (fun W hW=>Kac rfl rfl (Kaf (w:=W) Tryz.underlying9 rfl (Kad hW (ltOf q1) q1))) ?_;simp only [zP]
        refine Kan 19 29 rfl rfl (by kernel_rfl) rfl (Kam [.string (strB s0),.string (strB s1)] rfl rfl Tryz.func93 (by kernel_rfl) (by kernel_rfl)) ?_
        refine (texts_any s0 s1 hl0 hl1 _).mono ?_
        rintro e W19 ⟨rfl,hb19⟩
        have hS19:=Kaa hS4 hb19
        refine ⟨_,rfl,.inr hS19,?_⟩;simp only [zP]
        refine tk 20 30 (v:=.bool (!(ltB s0 s1))) rfl rfl (fun W hW=>Kal rfl rfl rfl (hge W)) ?_;simp only [zP]
        refine tk 21 31 (v:=.bool (!(ltB s0 s1))) rfl rfl (fun W hW=>rfl) ?_;simp only [zP]
        refine tk 22 32 (v:=.bool (!(ltB s0 s1))) rfl rfl (fun W hW=>rfl) ?_;simp only [zP]
        refine done (by kernel_rfl) ?_ _
        have HB:=yh (Kaa HB1.out hS19)
        clear hi1 q1 hnm hB0 hgt hi0 q0 hl0 hl1 hsub hge hS hS4 hS19 hb19 HX
        simp only [hlb,Bool.not_true]
        go_wp2
        go_roundw
        case rel=>exact ⟨j + 1,hlt1,by go_num,yh ⟨HA.out,HN.out,HB.out⟩⟩
        case measure=>simp [intOf];omega
      | false =>
        have HN:=yh (HNR.out.1 hlb)
        go_wp2
        obtain ⟨hi1,q1,hnm,hB0,hgt,hi0,q0,hl0,hl1,hsub,hge⟩:=HX.out
        refine Kag (fun W=>Below wr.heap.size wr W) (by kernel_rfl) hB0 (fun hS=>?_)
        refine tm 0 10 (v:=.slice (some ⟨bk,ok,none⟩) l.length c) rfl rfl rfl ?_;simp only [zP]
        refine tm 1 11 (v:=.int .i64 (j : Int)) rfl rfl rfl ?_;simp only [zP]
        refine tk 2 12 (v:=.pointer (some ⟨bk,ok + j,none⟩)) rfl rfl (fun W hW=>Kai rfl rfl rfl (hi1 W)) ?_;simp only [zP]
        refine tk 3 13 (v:=.string (strB s1)) rfl rfl (fun W hW=>Kac rfl rfl (Kaf (w:=W) Tryz.underlying9 rfl (Kad hW (ltOf q1) q1))) ?_;simp only [zP]
        refine Kan 4 14 rfl rfl (by kernel_rfl) rfl (Kam [.string (strB s1)] rfl rfl Tryz.func35 (by kernel_rfl) (by kernel_rfl)) ?_
        refine (hnm _).mono ?_
        rintro e W4 ⟨rfl,rfl⟩
        have hS4:=hS
        refine ⟨_,rfl,.inr hS4,?_⟩;simp only [zP]
        refine tk 5 15 (v:=.bool false) rfl rfl (fun W hW=>Kap (b:=true) rfl rfl) ?_;simp only [zP]
        refine tm 6 16 (v:=.bool false) rfl rfl rfl ?_;simp only [zP]
        refine tm 7 17 (v:=.int .i64 (j : Int)) rfl rfl rfl ?_;simp only [zP]
        refine tk 8 18 (v:=.bool true) rfl rfl (fun W hW=>Kal rfl rfl rfl (hgt W)) ?_;simp only [zP]
        refine tm 9 19 (v:=.bool true) rfl rfl rfl ?_;simp only [zP]
        refine tm 10 20 (v:=.slice (some ⟨bk,ok,none⟩) l.length c) rfl rfl rfl ?_;simp only [zP]
        refine tm 11 21 (v:=.int .i64 (j : Int)) rfl rfl rfl ?_;simp only [zP]
        refine tk 12 22 (v:=.int .i64 ((j - 1 : Nat) : Int)) rfl rfl (fun W hW=>Kal rfl rfl rfl (hsub W)) ?_;simp only [zP]
        refine tk 13 23 (v:=.pointer (some ⟨bk,ok + (j - 1),none⟩)) rfl rfl (fun W hW=>Kai rfl rfl rfl (hi0 W)) ?_;simp only [zP]
        refine tk 14 24 (v:=.string (strB s0)) rfl rfl (fun W hW=>Kac rfl rfl (Kaf (w:=W) Tryz.underlying9 rfl (Kad hW (ltOf q0) q0))) ?_;simp only [zP]
        refine tm 15 25 (v:=.slice (some ⟨bk,ok,none⟩) l.length c) rfl rfl rfl ?_;simp only [zP]
        refine tm 16 26 (v:=.int .i64 (j : Int)) rfl rfl rfl ?_;simp only [zP]
        refine tk 17 27 (v:=.pointer (some ⟨bk,ok + j,none⟩)) rfl rfl (fun W hW=>Kai rfl rfl rfl (hi1 W)) ?_;simp only [zP]
        refine tk 18 28 (v:=.string (strB s1)) rfl rfl (fun W hW=>Kac rfl rfl (Kaf (w:=W) Tryz.underlying9 rfl (Kad hW (ltOf q1) q1))) ?_;simp only [zP]
        refine Kan 19 29 rfl rfl (by kernel_rfl) rfl (Kam [.string (strB s0),.string (strB s1)] rfl rfl Tryz.func93 (by kernel_rfl) (by kernel_rfl)) ?_
        refine (texts_any s0 s1 hl0 hl1 _).mono ?_
        rintro e W19 ⟨rfl,hb19⟩
        have hS19:=Kaa hS4 hb19
        refine ⟨_,rfl,.inr hS19,?_⟩;simp only [zP]
        refine tk 20 30 (v:=.bool (!(ltB s0 s1))) rfl rfl (fun W hW=>Kal rfl rfl rfl (hge W)) ?_;simp only [zP]
        refine tk 21 31 (v:=.bool (!(ltB s0 s1))) rfl rfl (fun W hW=>rfl) ?_;simp only [zP]
        refine tk 22 32 (v:=.bool (!(ltB s0 s1))) rfl rfl (fun W hW=>rfl) ?_;simp only [zP]
        refine done (by kernel_rfl) ?_ _
        have HB:=yh (Kaa HB1.out hS19)
        clear hi1 q1 hnm hB0 hgt hi0 q0 hl0 hl1 hsub hge hS hS4 hS19 hb19 HX
        simp only [hlb,Bool.not_false]
        go_wp2
        go_ret
        exact ⟨Kak (by unfold Kdp;rw [HN.out,Bool.false_and]),HB.out⟩
  ·obtain rfl : j = l.length:=by omega
   have h1:=HI.out.1
   have h2:=HI.out.2.1
   rw [List.take_length] at h1 h2
   have HF:=yh (And.intro (show Kdp l = true by unfold Kdp;rw [h1,h2];rfl) HI.out.2.2)
   clear HI h1 h2
   go_wp2
   go_ret
   exact ⟨Kak HF.out.1.symm,HF.out.2⟩
theorem refstor_any {v : V} {w : World} {x : Array Value} (hx : VRd w v x) (ht : totV v ≤ 1099511627776) : Calls Tryz.prog 94 #[.agg x] w fun e w'=>e = .returned (.bool (okSt v)) ∧ Below w.heap.size w w':=by
 have hb1:=Kah (w:=w) (.cells x 31)
 have hx1:=heap_alloc_new w (.cells x 31)
 have HC:=yh (checkR_any ht (hx.below hb1))
 have HST:=yh (fun (ho : okV v = true) W (g : Below (w.alloc (.cells x 31)).heap.size (w.alloc (.cells x 31)) W)=>storR_any ((hx.below hb1).below g) ho)
 have HX:=yh (And.intro hb1 hx1)
 have hbx : ∀ W : World,W.heap[w.heap.size]? = some (.cells x 31 (0,0)) → (loadVar 31 ⟨w.heap.size,0,none⟩).run Tryz.prog W = .ok (.agg x) W:=fun W hW=>Kds.get (P:=Tryz.prog) (Kdv.size hx) hW
 have HL1:=yh (hbx _ hx1)
 have HLD:=yh hbx
 have hS:=(Kdv.ones hx)
 have hsz:=Kdv.size hx
 cases hok : decide (Kcv Lib.validD v = 0) with
 | false =>
   have hne : ¬ Kcv Lib.validD v = 0:=by simpa using hok
   have hov : okV v = false:=by unfold okV;rw [beq_eq_false_iff_ne];exact hne
   have HF:=yh (show okSt v = false by unfold okSt;rw [hov];rfl)
   generalize Kcv Lib.validD v = ck at *
   clear hb1 hx1 hbx hS hx ht hok hov HST HLD
   go_enter Tryz.func94,Tryz.ntmps94
   go_wp2_with (first
    | ((with_reducible apply Kao);exact HL1.out;exact rfl;clear HL1)
    | (go_at_call 83;refine HC.out.mono ?_;rintro e W2 ⟨rfl,hb⟩;have HB:=yh (Kaa HX.out.1 hb);clear hb))
   go_ret
   exact ⟨Kak HF.out.symm,HB.out⟩
 | true =>
   have he : Kcv Lib.validD v = 0:=by simpa using hok
   have hov : okV v = true:=by unfold okV;rw [he];rfl
   have HF:=yh (show okSt v = storB v by unfold okSt;rw [hov];rfl)
   rw [he] at HC
   have HST2:=yh (HST.out hov)
   generalize storB v = sb at *
   clear hb1 hx1 hbx hS hx ht hok hov HST he
   go_enter Tryz.func94,Tryz.ntmps94
   go_wp2_with (first
    | ((with_reducible apply Kao);exact HL1.out;exact rfl;clear HL1)
    | ((with_reducible apply Kbl);exact HL2.out;exact rfl;exact rfl;clear HL2)
    | (go_at_call 83
       (
        refine HC.out.mono ?_
        rintro e W2 ⟨rfl,hb⟩
        have HB:=yh (Kaa HX.out.1 hb)
        have HL2:=yh (HLD.out W2 (Kaj hb (by simp) HX.out.2))
        have HS2:=yh (HST2.out W2 hb)
        clear hb))
    | (go_at_call 136;refine HS2.out.mono ?_;rintro e W3 ⟨rfl,hb⟩;have HB3:=yh (Kaa HB.out hb);clear hb))
   go_ret
   exact ⟨Kak HF.out.symm,HB3.out⟩
theorem Ked (b o : Nat) (W : World) : (Instr.fieldAt 47 (.pointer (some ⟨b,o,none⟩)) 0).run Tryz.prog W = .ok (.pointer (some ⟨b,o,none⟩)) W:=by simp [go_sem]
theorem fa_pr1 (b o : Nat) (W : World) : (Instr.fieldAt 47 (.pointer (some ⟨b,o,none⟩)) 1).run Tryz.prog W = .ok (.pointer (some ⟨b,o + 1,none⟩)) W:=by simp [go_sem]
theorem ia_prop {b o n len c : Nat} (h : n < len) (W : World) : (Instr.indexAt 27 (.slice (some ⟨b,o,none⟩) len c) (.int .i64 (n : Int))).run Tryz.prog W = .ok (.pointer (some ⟨b,o + n * 7,none⟩)) W:=by simp [go_sem,h]
theorem ia_node {b o n len c : Nat} (h : n < len) (W : World) : (Instr.indexAt 22 (.slice (some ⟨b,o,none⟩) len c) (.int .i64 (n : Int))).run Tryz.prog W = .ok (.pointer (some ⟨b,o + n * 3,none⟩)) W:=by simp [go_sem,h]
theorem ia_rel {b o n len c : Nat} (h : n < len) (W : World) : (Instr.indexAt 23 (.slice (some ⟨b,o,none⟩) len c) (.int .i64 (n : Int))).run Tryz.prog W = .ok (.pointer (some ⟨b,o + n * 5,none⟩)) W:=by simp [go_sem,h]
theorem sub_nat {j : Nat} (h0 : 0 < j) (hj : j ≤ 140737488355328) (W : World) : (binOp .sub 3 (.int .i64 (j : Int)) (.int .i64 1)).run Tryz.prog W = .ok (.int .i64 ((j - 1 : Nat) : Int)) W:=by
 have e1 : (j : Int) = ((j - 1 : Nat) : Int) + 1:=by omega
 rw [e1]
 exact sub_one (by omega) W
theorem gtr_nat {j : Nat} (W : World) : (binOp .gtr 3 (.int .i64 (j : Int)) (.int .i64 0)).run Tryz.prog W = .ok (.bool (decide (0 < j))) W:=by
 have e : decide ((0 : Int) < (j : Int)) = decide (0 < j):=by rw [Bool.eq_iff_iff];simp
 simp [go_sem]
theorem Kef {w : World} {b o : Nat} {p : PropD} {cs : Array Value} (hv : PRd w p cs) (hc : ∀ (i : Nat) (u : Value),cs[i]? = some u → w.cell? ⟨b,o + i,none⟩ = some u) :
 w.cell? ⟨b,o,none⟩ = some (.string (strB p.key)) ∧ p.key.length ≤ 140737488355328 ∧ ∃ y,VRd w p.val y ∧ ∀ (i : Nat) (u : Value),y[i]? = some u → w.cell? ⟨b,o + 1 + i,none⟩ = some u:=by
 obtain ⟨y,rfl,h1,h2⟩:=hv
 refine ⟨hc 0 _ (by rw [Array.getElem?_append_left (by simp)];rfl),h1,y,h2,fun i u hu=>?_⟩
 have:=hc (1 + i) u (by rw [Array.getElem?_append_right (by simp)];simpa using hu)
 rw [← Nat.add_assoc] at this
 exact this
theorem refprops_any {w : World} {p : Option Addr} {c : Nat} {l : List PropD} (h : GRd PRd 7 w p c l) (ht : ∀ x ∈ l,totV x.val ≤ 1099511627776) : Calls Tryz.prog 34 #[.slice p l.length c] w fun e w'=>e = .returned (.bool (okPs l)) ∧ Below w.heap.size w w':=by
 have z1 : (l.length : Int) ≤ 140737488355328:=by have:=h.1.2.1;omega
 have H:=yh (And.intro h ht)
 clear h ht
 go_enter Tryz.func34,Tryz.ntmps34
 go_wp2
 go_loopw [3] (fun i W=>∃ j : Nat,j ≤ l.length ∧ i = .int .i64 (j : Int) ∧ Hid ((l.take j).all okP = true ∧ Kav ((l.map PropD.key).take j) = true ∧ Below w.heap.size w W)) (fun i _=>l.length - (intOf i).toNat)
 case atStart=>exact ⟨0,Nat.zero_le _,rfl,yh ⟨by simp,by simp [Kav],Below.refl _ _⟩⟩
 case round =>
  obtain ⟨j,hj,rfl,HI⟩:=hrel
  by_cases hlt : j < l.length
  ·have hlt1 : j + 1 ≤ l.length:=hlt
   have hRw:=H.out.1.below (fun h=>h.below HI.out.2.2) HI.out.2.2
   have htv:=H.out.2 l[j] (List.getElem_mem hlt)
   obtain ⟨bk,ok,cs,rfl,hcs,hcc,hv⟩:=hRw.get hlt
   obtain ⟨q1,hl1,y1,hv1,r1⟩:=Kef hv hcc
   have hy1:=Kdv.size hv1
   have hi1 : ∀ W' : World,(Instr.indexAt 27 (.slice (some ⟨bk,ok,none⟩) l.length c) (.int .i64 (j : Int))).run Tryz.prog W' = .ok (.pointer (some ⟨bk,ok + j * 7,none⟩)) W':=fun W'=>ia_prop hlt W'
   have hall:=Kek (f:=okP) hlt HI.out.1
   have hno:=okPs_no hlt
   have hop : okP l[j] = (okNm l[j].key && okSt l[j].val):=rfl
   rw [hop] at hall hno
   have hnm:=fun W=>refname_any (w:=W) l[j].key hl1
   have hst:=fun W (g : Below wr.heap.size wr W)=>refstor_any (w:=W) (hv1.below g) htv
   have hB0 : Below wr.heap.size wr wr.drew:=(Below.refl _ wr).drew
   have hk1 : (l.map PropD.key)[j]'(by simpa using hlt) = l[j].key:=List.getElem_map ..
   have hnr:=fun (h0 : 0 < j) (h : ltB (l[j - 1]'(by omega)).key l[j].key = false)=>risesB_no (l:=l.map PropD.key) h0 (by simpa using hlt) (by rw [List.getElem_map,List.getElem_map];exact h)
   have hmr:=fun (h0 : 0 < j) (h : ltB (l[j - 1]'(by omega)).key l[j].key = true)=>risesB_more (l:=l.map PropD.key) h0 (by simpa using hlt) HI.out.2.1 (by rw [List.getElem_map,List.getElem_map];exact h)
   clear hcs hcc hv hk1 hop
   cases hok : okNm l[j].key with
   | false =>
     have HF:=yh (And.intro (hno (by rw [hok];rfl)) HI.out.2.2)
     simp only [hok] at hnm
     clear hnr hmr
     generalize l[j].key = s1 at *
     have HX:=yh (And.intro hi1 (And.intro q1 (And.intro hnm hB0)))
     clear hi1 q1 hnm hB0 hall hno hRw HI hst hv1 r1 htv
     go_wp2
     obtain ⟨hi1,q1,hnm,hB0⟩:=HX.out
     refine Kag (fun W=>Below wr.heap.size wr W) (by kernel_rfl) hB0 (fun hS=>?_)
     refine tm 0 10 (v:=.slice (some ⟨bk,ok,none⟩) l.length c) rfl rfl rfl ?_;simp only [zP]
     refine tm 1 11 (v:=.int .i64 (j : Int)) rfl rfl rfl ?_;simp only [zP]
     refine tk 2 12 (v:=.pointer (some ⟨bk,ok + j * 7,none⟩)) rfl rfl (fun W hW=>Kai rfl rfl rfl (hi1 W)) ?_;simp only [zP]
     refine tk 3 13 (v:=.pointer (some ⟨bk,ok + j * 7,none⟩)) rfl rfl (fun W hW=>Kab rfl rfl (Ked _ _ W)) ?_;simp only [zP]
     refine tk 4 14 (v:=.string (strB s1)) rfl rfl (fun W hW=>Kac rfl rfl (Kaf (w:=W) Tryz.underlying9 rfl (Kad hW (ltOf q1) q1))) ?_;simp only [zP]
     refine Kan 5 15 rfl rfl (by kernel_rfl) rfl (Kam [.string (strB s1)] rfl rfl Tryz.func35 (by kernel_rfl) (by kernel_rfl)) ?_
     refine (hnm _).mono ?_
     rintro e W5 ⟨rfl,rfl⟩
     have hS5:=hS
     refine ⟨_,rfl,.inr hS5,?_⟩;simp only [zP]
     refine tk 6 16 (v:=.bool true) rfl rfl (fun W hW=>Kap (b:=false) rfl rfl) ?_;simp only [zP]
     refine tm 7 17 (v:=.bool true) rfl rfl rfl ?_;simp only [zP]
     refine tx 8 18 ?_;simp only [zP]
     refine tx 9 19 ?_;simp only [zP]
     refine tx 10 20 ?_;simp only [zP]
     refine tx 11 21 ?_;simp only [zP]
     refine tx 12 22 ?_;simp only [zP]
     refine Kas 13 23 rfl rfl (by kernel_rfl) rfl ?_ (.inr (by assumption));simp only [zP]
     refine tx 14 24 ?_;simp only [zP]
     refine tk 15 25 (v:=.bool true) rfl rfl (fun W hW=>rfl) ?_;simp only [zP]
     refine tm 16 26 (v:=.bool true) rfl rfl rfl ?_;simp only [zP]
     refine tx 17 27 ?_;simp only [zP]
     refine tx 18 28 ?_;simp only [zP]
     refine tx 19 29 ?_;simp only [zP]
     refine tx 20 30 ?_;simp only [zP]
     refine tx 21 31 ?_;simp only [zP]
     refine tx 22 32 ?_;simp only [zP]
     refine tx 23 33 ?_;simp only [zP]
     refine tx 24 34 ?_;simp only [zP]
     refine tx 25 35 ?_;simp only [zP]
     refine tx 26 36 ?_;simp only [zP]
     refine tx 27 37 ?_;simp only [zP]
     refine tx 28 38 ?_;simp only [zP]
     refine tx 29 39 ?_;simp only [zP]
     refine tx 30 40 ?_;simp only [zP]
     refine Kas 31 41 rfl rfl (by kernel_rfl) rfl ?_ (.inr (by assumption));simp only [zP]
     refine tx 32 42 ?_;simp only [zP]
     refine tx 33 43 ?_;simp only [zP]
     refine tk 34 44 (v:=.bool true) rfl rfl (fun W hW=>rfl) ?_;simp only [zP]
     refine done (by kernel_rfl) ?_ _
     have HB:=yh hS5
     clear hi1 q1 hnm hB0 hS hS5 HX
     go_wp2
     go_ret
     exact ⟨Kak HF.out.1.symm,Kaa HF.out.2 HB.out⟩
   | true =>
     simp only [hok] at hnm
     cases hos : okSt l[j].val with
     | false =>
       have HF:=yh (And.intro (hno (by rw [hok,hos];rfl)) HI.out.2.2)
       simp only [hos] at hst
       clear hnr hmr
       generalize l[j].key = s1 at *
       have HX:=yh (And.intro hi1 (And.intro q1 (And.intro hnm (And.intro hB0 (And.intro hst (And.intro hy1 r1))))))
       clear hi1 q1 hnm hB0 hall hno hRw HI hst hv1 r1 htv hos hy1
       go_wp2
       obtain ⟨hi1,q1,hnm,hB0,hst,hy1,r1⟩:=HX.out
       refine Kag (fun W=>Below wr.heap.size wr W) (by kernel_rfl) hB0 (fun hS=>?_)
       refine tm 0 10 (v:=.slice (some ⟨bk,ok,none⟩) l.length c) rfl rfl rfl ?_;simp only [zP]
       refine tm 1 11 (v:=.int .i64 (j : Int)) rfl rfl rfl ?_;simp only [zP]
       refine tk 2 12 (v:=.pointer (some ⟨bk,ok + j * 7,none⟩)) rfl rfl (fun W hW=>Kai rfl rfl rfl (hi1 W)) ?_;simp only [zP]
       refine tk 3 13 (v:=.pointer (some ⟨bk,ok + j * 7,none⟩)) rfl rfl (fun W hW=>Kab rfl rfl (Ked _ _ W)) ?_;simp only [zP]
       refine tk 4 14 (v:=.string (strB s1)) rfl rfl (fun W hW=>Kac rfl rfl (Kaf (w:=W) Tryz.underlying9 rfl (Kad hW (ltOf q1) q1))) ?_;simp only [zP]
       refine Kan 5 15 rfl rfl (by kernel_rfl) rfl (Kam [.string (strB s1)] rfl rfl Tryz.func35 (by kernel_rfl) (by kernel_rfl)) ?_
       refine (hnm _).mono ?_
       rintro e W5 ⟨rfl,rfl⟩
       have hS5:=hS
       refine ⟨_,rfl,.inr hS5,?_⟩;simp only [zP]
       refine tk 6 16 (v:=.bool false) rfl rfl (fun W hW=>Kap (b:=true) rfl rfl) ?_;simp only [zP]
       refine tm 7 17 (v:=.bool false) rfl rfl rfl ?_;simp only [zP]
       refine tm 8 18 (v:=.slice (some ⟨bk,ok,none⟩) l.length c) rfl rfl rfl ?_;simp only [zP]
       refine tm 9 19 (v:=.int .i64 (j : Int)) rfl rfl rfl ?_;simp only [zP]
       refine tk 10 20 (v:=.pointer (some ⟨bk,ok + j * 7,none⟩)) rfl rfl (fun W hW=>Kai rfl rfl rfl (hi1 W)) ?_;simp only [zP]
       refine tk 11 21 (v:=.pointer (some ⟨bk,ok + j * 7 + 1,none⟩)) rfl rfl (fun W hW=>Kab rfl rfl (fa_pr1 _ _ W)) ?_;simp only [zP]
       refine tk 12 22 (v:=.agg y1) rfl rfl (fun W hW=>Kac rfl rfl (StT.load (P:=Tryz.prog) (W:=W) Kds hy1 fun i u hu=>Kad hW (ltOf (r1 i u hu)) (r1 i u hu))) ?_;simp only [zP]
       refine Kan 13 23 rfl rfl (by kernel_rfl) rfl (Kam [.agg y1] rfl rfl Tryz.func94 (by kernel_rfl) (by kernel_rfl)) ?_
       refine (hst _ hS5).mono ?_
       rintro e W13 ⟨rfl,hb13⟩
       have hS13:=Kaa hS5 hb13
       refine ⟨_,rfl,.inr hS13,?_⟩;simp only [zP]
       refine tk 14 24 (v:=.bool true) rfl rfl (fun W hW=>Kap (b:=false) rfl rfl) ?_;simp only [zP]
       refine tk 15 25 (v:=.bool true) rfl rfl (fun W hW=>rfl) ?_;simp only [zP]
       refine tm 16 26 (v:=.bool true) rfl rfl rfl ?_;simp only [zP]
       refine tx 17 27 ?_;simp only [zP]
       refine tx 18 28 ?_;simp only [zP]
       refine tx 19 29 ?_;simp only [zP]
       refine tx 20 30 ?_;simp only [zP]
       refine tx 21 31 ?_;simp only [zP]
       refine tx 22 32 ?_;simp only [zP]
       refine tx 23 33 ?_;simp only [zP]
       refine tx 24 34 ?_;simp only [zP]
       refine tx 25 35 ?_;simp only [zP]
       refine tx 26 36 ?_;simp only [zP]
       refine tx 27 37 ?_;simp only [zP]
       refine tx 28 38 ?_;simp only [zP]
       refine tx 29 39 ?_;simp only [zP]
       refine tx 30 40 ?_;simp only [zP]
       refine Kas 31 41 rfl rfl (by kernel_rfl) rfl ?_ (.inr (by assumption));simp only [zP]
       refine tx 32 42 ?_;simp only [zP]
       refine tx 33 43 ?_;simp only [zP]
       refine tk 34 44 (v:=.bool true) rfl rfl (fun W hW=>rfl) ?_;simp only [zP]
       refine done (by kernel_rfl) ?_ _
       have HB:=yh hS13
       clear hi1 q1 hnm hB0 hS hS5 hS13 hb13 hst hy1 r1 HX
       go_wp2
       go_ret
       exact ⟨Kak HF.out.1.symm,Kaa HF.out.2 HB.out⟩
     | true =>
       have HA:=yh (hall (by rw [hok,hos];rfl))
       simp only [hos] at hst
       have hgt:=gtr_nat (j:=j)
       by_cases h0 : j = 0
       ·subst h0
        have HN:=yh (risesB_one (l:=l.map PropD.key) (by simpa using hlt))
        have HB1:=yh HI.out.2.2
        clear hnr hmr
        have hgt : ∀ W : World,(binOp .gtr 3 (.int .i64 ((0 : Nat) : Int)) (.int .i64 0)).run Tryz.prog W = .ok (.bool false) W:=fun W=>by simp [go_sem]
        generalize l[0].key = s1 at *
        have HX:=yh (And.intro hi1 (And.intro q1 (And.intro hnm (And.intro hB0 (And.intro hst (And.intro hy1 (And.intro r1 hgt)))))))
        clear hi1 q1 hnm hB0 hall hno hRw HI hst hv1 r1 htv hos hy1 hgt hok
        go_wp2
        obtain ⟨hi1,q1,hnm,hB0,hst,hy1,r1,hgt⟩:=HX.out
        refine Kag (fun W=>Below wr.heap.size wr W) (by kernel_rfl) hB0 (fun hS=>?_)
        refine tm 0 10 (v:=.slice (some ⟨bk,ok,none⟩) l.length c) rfl rfl rfl ?_;simp only [zP]
        refine tm 1 11 (v:=.int .i64 ((0 : Nat) : Int)) rfl rfl rfl ?_;simp only [zP]
        refine tk 2 12 (v:=.pointer (some ⟨bk,ok + 0 * 7,none⟩)) rfl rfl (fun W hW=>Kai rfl rfl rfl (hi1 W)) ?_;simp only [zP]
        refine tk 3 13 (v:=.pointer (some ⟨bk,ok + 0 * 7,none⟩)) rfl rfl (fun W hW=>Kab rfl rfl (Ked _ _ W)) ?_;simp only [zP]
        refine tk 4 14 (v:=.string (strB s1)) rfl rfl (fun W hW=>Kac rfl rfl (Kaf (w:=W) Tryz.underlying9 rfl (Kad hW (ltOf q1) q1))) ?_;simp only [zP]
        refine Kan 5 15 rfl rfl (by kernel_rfl) rfl (Kam [.string (strB s1)] rfl rfl Tryz.func35 (by kernel_rfl) (by kernel_rfl)) ?_
        refine (hnm _).mono ?_
        rintro e W5 ⟨rfl,rfl⟩
        have hS5:=hS
        refine ⟨_,rfl,.inr hS5,?_⟩;simp only [zP]
        refine tk 6 16 (v:=.bool false) rfl rfl (fun W hW=>Kap (b:=true) rfl rfl) ?_;simp only [zP]
        refine tm 7 17 (v:=.bool false) rfl rfl rfl ?_;simp only [zP]
        refine tm 8 18 (v:=.slice (some ⟨bk,ok,none⟩) l.length c) rfl rfl rfl ?_;simp only [zP]
        refine tm 9 19 (v:=.int .i64 ((0 : Nat) : Int)) rfl rfl rfl ?_;simp only [zP]
        refine tk 10 20 (v:=.pointer (some ⟨bk,ok + 0 * 7,none⟩)) rfl rfl (fun W hW=>Kai rfl rfl rfl (hi1 W)) ?_;simp only [zP]
        refine tk 11 21 (v:=.pointer (some ⟨bk,ok + 0 * 7 + 1,none⟩)) rfl rfl (fun W hW=>Kab rfl rfl (fa_pr1 _ _ W)) ?_;simp only [zP]
        refine tk 12 22 (v:=.agg y1) rfl rfl (fun W hW=>Kac rfl rfl (StT.load (P:=Tryz.prog) (W:=W) Kds hy1 fun i u hu=>Kad hW (ltOf (r1 i u hu)) (r1 i u hu))) ?_;simp only [zP]
        refine Kan 13 23 rfl rfl (by kernel_rfl) rfl (Kam [.agg y1] rfl rfl Tryz.func94 (by kernel_rfl) (by kernel_rfl)) ?_
        refine (hst _ hS5).mono ?_
        rintro e W13 ⟨rfl,hb13⟩
        have hS13:=Kaa hS5 hb13
        refine ⟨_,rfl,.inr hS13,?_⟩;simp only [zP]
        refine tk 14 24 (v:=.bool false) rfl rfl (fun W hW=>Kap (b:=true) rfl rfl) ?_;simp only [zP]
        refine tk 15 25 (v:=.bool false) rfl rfl (fun W hW=>rfl) ?_;simp only [zP]
        refine tm 16 26 (v:=.bool false) rfl rfl rfl ?_;simp only [zP]
        refine tm 17 27 (v:=.int .i64 ((0 : Nat) : Int)) rfl rfl rfl ?_;simp only [zP]
        refine tk 18 28 (v:=.bool false) rfl rfl (fun W hW=>Kal rfl rfl rfl (hgt W)) ?_;simp only [zP]
        refine tm 19 29 (v:=.bool false) rfl rfl rfl ?_;simp only [zP]
        refine tx 20 30 ?_;simp only [zP]
        refine tx 21 31 ?_;simp only [zP]
        refine tx 22 32 ?_;simp only [zP]
        refine tx 23 33 ?_;simp only [zP]
        refine tx 24 34 ?_;simp only [zP]
        refine tx 25 35 ?_;simp only [zP]
        refine tx 26 36 ?_;simp only [zP]
        refine tx 27 37 ?_;simp only [zP]
        refine tx 28 38 ?_;simp only [zP]
        refine tx 29 39 ?_;simp only [zP]
        refine tx 30 40 ?_;simp only [zP]
        refine Kas 31 41 rfl rfl (by kernel_rfl) rfl ?_ (.inr (by assumption));simp only [zP]
        refine tx 32 42 ?_;simp only [zP]
        refine tk 33 43 (v:=.bool false) rfl rfl (fun W hW=>rfl) ?_;simp only [zP]
        refine tk 34 44 (v:=.bool false) rfl rfl (fun W hW=>rfl) ?_;simp only [zP]
        refine done (by kernel_rfl) ?_ _
        have HB:=yh (Kaa HB1.out hS13)
        clear hi1 q1 hnm hB0 hS hS5 hS13 hb13 hst hy1 r1 hgt HX
        go_wp2
        go_roundw
        case rel=>exact ⟨1,hlt1,by go_num,yh ⟨HA.out,HN.out,HB.out⟩⟩
        case measure=>simp [intOf];omega
       ·have h0' : 0 < j:=Nat.pos_of_ne_zero h0
        obtain ⟨bk2,ok2,cs0,e2,hcs0,hcc0,hv0⟩:=hRw.get (show j - 1 < l.length by omega)
        cases e2
        obtain ⟨q0,hl0,_,_,_⟩:=Kef hv0 hcc0
        have hi0 : ∀ W' : World,(Instr.indexAt 27 (.slice (some ⟨bk,ok,none⟩) l.length c) (.int .i64 ((j - 1 : Nat) : Int))).run Tryz.prog W' = .ok (.pointer (some ⟨bk,ok + (j - 1) * 7,none⟩)) W':=fun W'=>ia_prop (by omega) W'
        have hgt : ∀ W : World,(binOp .gtr 3 (.int .i64 (j : Int)) (.int .i64 0)).run Tryz.prog W = .ok (.bool true) W:=fun W=>by rw [gtr_nat];simp [h0']
        have hsub:=sub_nat h0' (show j ≤ 140737488355328 by omega)
        have hge:=fun W=>geq_zero (cmpB (l[j - 1]'(by omega)).key l[j].key) W
        simp only [cmp_geq] at hge
        have HNR:=yh (And.intro (hnr h0') (hmr h0'))
        have HB1:=yh HI.out.2.2
        generalize (l[j - 1]'(by omega)).key = s0 at *
        generalize l[j].key = s1 at *
        have HX:=yh (And.intro hi1 (And.intro q1 (And.intro hnm (And.intro hB0 (And.intro hgt (And.intro hi0 (And.intro q0 (And.intro hl0 (And.intro hl1 (And.intro hsub (And.intro hge (And.intro hst (And.intro hy1 r1)))))))))))))
        clear hi1 q1 hnm hB0 hgt hi0 q0 hl0 hl1 hsub hge hall hno hRw HI hok h0 hnr hmr hst hv1 r1 htv hos hy1 hcs0 hcc0 hv0
        cases hlb : ltB s0 s1 with
        | true =>
          have HN:=yh (HNR.out.2 hlb)
          go_wp2
          obtain ⟨hi1,q1,hnm,hB0,hgt,hi0,q0,hl0,hl1,hsub,hge,hst,hy1,r1⟩:=HX.out
          refine Kag (fun W=>Below wr.heap.size wr W) (by kernel_rfl) hB0 (fun hS=>?_)
          refine tm 0 10 (v:=.slice (some ⟨bk,ok,none⟩) l.length c) rfl rfl rfl ?_;simp only [zP]
          refine tm 1 11 (v:=.int .i64 (j : Int)) rfl rfl rfl ?_;simp only [zP]
          refine tk 2 12 (v:=.pointer (some ⟨bk,ok + j * 7,none⟩)) rfl rfl (fun W hW=>Kai rfl rfl rfl (hi1 W)) ?_;simp only [zP]
          refine tk 3 13 (v:=.pointer (some ⟨bk,ok + j * 7,none⟩)) rfl rfl (fun W hW=>Kab rfl rfl (Ked _ _ W)) ?_;simp only [zP]
          refine tk 4 14 (v:=.string (strB s1)) rfl rfl (fun W hW=>Kac rfl rfl (Kaf (w:=W) Tryz.underlying9 rfl (Kad hW (ltOf q1) q1))) ?_;simp only [zP]
          refine Kan 5 15 rfl rfl (by kernel_rfl) rfl (Kam [.string (strB s1)] rfl rfl Tryz.func35 (by kernel_rfl) (by kernel_rfl)) ?_
          refine (hnm _).mono ?_
          rintro e W5 ⟨rfl,rfl⟩
          have hS5:=hS
          refine ⟨_,rfl,.inr hS5,?_⟩;simp only [zP]
          refine tk 6 16 (v:=.bool false) rfl rfl (fun W hW=>Kap (b:=true) rfl rfl) ?_;simp only [zP]
          refine tm 7 17 (v:=.bool false) rfl rfl rfl ?_;simp only [zP]
          refine tm 8 18 (v:=.slice (some ⟨bk,ok,none⟩) l.length c) rfl rfl rfl ?_;simp only [zP]
          refine tm 9 19 (v:=.int .i64 (j : Int)) rfl rfl rfl ?_;simp only [zP]
          refine tk 10 20 (v:=.pointer (some ⟨bk,ok + j * 7,none⟩)) rfl rfl (fun W hW=>Kai rfl rfl rfl (hi1 W)) ?_;simp only [zP]
          refine tk 11 21 (v:=.pointer (some ⟨bk,ok + j * 7 + 1,none⟩)) rfl rfl (fun W hW=>Kab rfl rfl (fa_pr1 _ _ W)) ?_;simp only [zP]
          refine tk 12 22 (v:=.agg y1) rfl rfl (fun W hW=>Kac rfl rfl (StT.load (P:=Tryz.prog) (W:=W) Kds hy1 fun i u hu=>Kad hW (ltOf (r1 i u hu)) (r1 i u hu))) ?_;simp only [zP]
          refine Kan 13 23 rfl rfl (by kernel_rfl) rfl (Kam [.agg y1] rfl rfl Tryz.func94 (by kernel_rfl) (by kernel_rfl)) ?_
          refine (hst _ hS5).mono ?_
          rintro e W13 ⟨rfl,hb13⟩
          have hS13:=Kaa hS5 hb13
          refine ⟨_,rfl,.inr hS13,?_⟩;simp only [zP]
          refine tk 14 24 (v:=.bool false) rfl rfl (fun W hW=>Kap (b:=true) rfl rfl) ?_;simp only [zP]
          refine tk 15 25 (v:=.bool false) rfl rfl (fun W hW=>rfl) ?_;simp only [zP]
          refine tm 16 26 (v:=.bool false) rfl rfl rfl ?_;simp only [zP]
          refine tm 17 27 (v:=.int .i64 (j : Int)) rfl rfl rfl ?_;simp only [zP]
          refine tk 18 28 (v:=.bool true) rfl rfl (fun W hW=>Kal rfl rfl rfl (hgt W)) ?_;simp only [zP]
          refine tm 19 29 (v:=.bool true) rfl rfl rfl ?_;simp only [zP]
          refine tm 20 30 (v:=.slice (some ⟨bk,ok,none⟩) l.length c) rfl rfl rfl ?_;simp only [zP]
          refine tm 21 31 (v:=.int .i64 (j : Int)) rfl rfl rfl ?_;simp only [zP]
          refine tk 22 32 (v:=.int .i64 ((j - 1 : Nat) : Int)) rfl rfl (fun W hW=>Kal rfl rfl rfl (hsub W)) ?_;simp only [zP]
          refine tk 23 33 (v:=.pointer (some ⟨bk,ok + (j - 1) * 7,none⟩)) rfl rfl (fun W hW=>Kai rfl rfl rfl (hi0 W)) ?_;simp only [zP]
          refine tk 24 34 (v:=.pointer (some ⟨bk,ok + (j - 1) * 7,none⟩)) rfl rfl (fun W hW=>Kab rfl rfl (Ked _ _ W)) ?_;simp only [zP]
          refine tk 25 35 (v:=.string (strB s0)) rfl rfl (fun W hW=>Kac rfl rfl (Kaf (w:=W) Tryz.underlying9 rfl (Kad hW (ltOf q0) q0))) ?_;simp only [zP]
          refine tm 26 36 (v:=.slice (some ⟨bk,ok,none⟩) l.length c) rfl rfl rfl ?_;simp only [zP]
          refine tm 27 37 (v:=.int .i64 (j : Int)) rfl rfl rfl ?_;simp only [zP]
          refine tk 28 38 (v:=.pointer (some ⟨bk,ok + j * 7,none⟩)) rfl rfl (fun W hW=>Kai rfl rfl rfl (hi1 W)) ?_;simp only [zP]
          refine tk 29 39 (v:=.pointer (some ⟨bk,ok + j * 7,none⟩)) rfl rfl (fun W hW=>Kab rfl rfl (Ked _ _ W)) ?_;simp only [zP]
          refine tk 30 40 (v:=.string (strB s1)) rfl rfl (fun W hW=>Kac rfl rfl (Kaf (w:=W) Tryz.underlying9 rfl (Kad hW (ltOf q1) q1))) ?_;simp only [zP]
          refine Kan 31 41 rfl rfl (by kernel_rfl) rfl (Kam [.string (strB s0),.string (strB s1)] rfl rfl Tryz.func93 (by kernel_rfl) (by kernel_rfl)) ?_
          refine (texts_any s0 s1 hl0 hl1 _).mono ?_
          rintro e W31 ⟨rfl,hb31⟩
          have hS31:=Kaa hS13 hb31
          refine ⟨_,rfl,.inr hS31,?_⟩;simp only [zP]
          refine tk 32 42 (v:=.bool (!(ltB s0 s1))) rfl rfl (fun W hW=>Kal rfl rfl rfl (hge W)) ?_;simp only [zP]
          refine tk 33 43 (v:=.bool (!(ltB s0 s1))) rfl rfl (fun W hW=>rfl) ?_;simp only [zP]
          refine tk 34 44 (v:=.bool (!(ltB s0 s1))) rfl rfl (fun W hW=>rfl) ?_;simp only [zP]
          refine done (by kernel_rfl) ?_ _
          have HB:=yh (Kaa HB1.out hS31)
          clear hi1 q1 hnm hB0 hgt hi0 q0 hl0 hl1 hsub hge hst hy1 r1 hS hS5 hS13 hS31 hb13 hb31 HX
          simp only [hlb,Bool.not_true]
          go_wp2
          go_roundw
          case rel=>exact ⟨j + 1,hlt1,by go_num,yh ⟨HA.out,HN.out,HB.out⟩⟩
          case measure=>simp [intOf];omega
        | false =>
          have HN:=yh (HNR.out.1 hlb)
          go_wp2
          obtain ⟨hi1,q1,hnm,hB0,hgt,hi0,q0,hl0,hl1,hsub,hge,hst,hy1,r1⟩:=HX.out
          refine Kag (fun W=>Below wr.heap.size wr W) (by kernel_rfl) hB0 (fun hS=>?_)
          refine tm 0 10 (v:=.slice (some ⟨bk,ok,none⟩) l.length c) rfl rfl rfl ?_;simp only [zP]
          refine tm 1 11 (v:=.int .i64 (j : Int)) rfl rfl rfl ?_;simp only [zP]
          refine tk 2 12 (v:=.pointer (some ⟨bk,ok + j * 7,none⟩)) rfl rfl (fun W hW=>Kai rfl rfl rfl (hi1 W)) ?_;simp only [zP]
          refine tk 3 13 (v:=.pointer (some ⟨bk,ok + j * 7,none⟩)) rfl rfl (fun W hW=>Kab rfl rfl (Ked _ _ W)) ?_;simp only [zP]
          refine tk 4 14 (v:=.string (strB s1)) rfl rfl (fun W hW=>Kac rfl rfl (Kaf (w:=W) Tryz.underlying9 rfl (Kad hW (ltOf q1) q1))) ?_;simp only [zP]
          refine Kan 5 15 rfl rfl (by kernel_rfl) rfl (Kam [.string (strB s1)] rfl rfl Tryz.func35 (by kernel_rfl) (by kernel_rfl)) ?_
          refine (hnm _).mono ?_
          rintro e W5 ⟨rfl,rfl⟩
          have hS5:=hS
          refine ⟨_,rfl,.inr hS5,?_⟩;simp only [zP]
          refine tk 6 16 (v:=.bool false) rfl rfl (fun W hW=>Kap (b:=true) rfl rfl) ?_;simp only [zP]
          refine tm 7 17 (v:=.bool false) rfl rfl rfl ?_;simp only [zP]
          refine tm 8 18 (v:=.slice (some ⟨bk,ok,none⟩) l.length c) rfl rfl rfl ?_;simp only [zP]
          refine tm 9 19 (v:=.int .i64 (j : Int)) rfl rfl rfl ?_;simp only [zP]
          refine tk 10 20 (v:=.pointer (some ⟨bk,ok + j * 7,none⟩)) rfl rfl (fun W hW=>Kai rfl rfl rfl (hi1 W)) ?_;simp only [zP]
          refine tk 11 21 (v:=.pointer (some ⟨bk,ok + j * 7 + 1,none⟩)) rfl rfl (fun W hW=>Kab rfl rfl (fa_pr1 _ _ W)) ?_;simp only [zP]
          refine tk 12 22 (v:=.agg y1) rfl rfl (fun W hW=>Kac rfl rfl (StT.load (P:=Tryz.prog) (W:=W) Kds hy1 fun i u hu=>Kad hW (ltOf (r1 i u hu)) (r1 i u hu))) ?_;simp only [zP]
          refine Kan 13 23 rfl rfl (by kernel_rfl) rfl (Kam [.agg y1] rfl rfl Tryz.func94 (by kernel_rfl) (by kernel_rfl)) ?_
          refine (hst _ hS5).mono ?_
          rintro e W13 ⟨rfl,hb13⟩
          have hS13:=Kaa hS5 hb13
          refine ⟨_,rfl,.inr hS13,?_⟩;simp only [zP]
          refine tk 14 24 (v:=.bool false) rfl rfl (fun W hW=>Kap (b:=true) rfl rfl) ?_;simp only [zP]
          refine tk 15 25 (v:=.bool false) rfl rfl (fun W hW=>rfl) ?_;simp only [zP]
          refine tm 16 26 (v:=.bool false) rfl rfl rfl ?_;simp only [zP]
          refine tm 17 27 (v:=.int .i64 (j : Int)) rfl rfl rfl ?_;simp only [zP]
          refine tk 18 28 (v:=.bool true) rfl rfl (fun W hW=>Kal rfl rfl rfl (hgt W)) ?_;simp only [zP]
          refine tm 19 29 (v:=.bool true) rfl rfl rfl ?_;simp only [zP]
          refine tm 20 30 (v:=.slice (some ⟨bk,ok,none⟩) l.length c) rfl rfl rfl ?_;simp only [zP]
          refine tm 21 31 (v:=.int .i64 (j : Int)) rfl rfl rfl ?_;simp only [zP]
          refine tk 22 32 (v:=.int .i64 ((j - 1 : Nat) : Int)) rfl rfl (fun W hW=>Kal rfl rfl rfl (hsub W)) ?_;simp only [zP]
          refine tk 23 33 (v:=.pointer (some ⟨bk,ok + (j - 1) * 7,none⟩)) rfl rfl (fun W hW=>Kai rfl rfl rfl (hi0 W)) ?_;simp only [zP]
          refine tk 24 34 (v:=.pointer (some ⟨bk,ok + (j - 1) * 7,none⟩)) rfl rfl (fun W hW=>Kab rfl rfl (Ked _ _ W)) ?_;simp only [zP]
          refine tk 25 35 (v:=.string (strB s0)) rfl rfl (fun W hW=>Kac rfl rfl (Kaf (w:=W) Tryz.underlying9 rfl (Kad hW (ltOf q0) q0))) ?_;simp only [zP]
          refine tm 26 36 (v:=.slice (some ⟨bk,ok,none⟩) l.length c) rfl rfl rfl ?_;simp only [zP]
          refine tm 27 37 (v:=.int .i64 (j : Int)) rfl rfl rfl ?_;simp only [zP]
          refine tk 28 38 (v:=.pointer (some ⟨bk,ok + j * 7,none⟩)) rfl rfl (fun W hW=>Kai rfl rfl rfl (hi1 W)) ?_;simp only [zP]
          refine tk 29 39 (v:=.pointer (some ⟨bk,ok + j * 7,none⟩)) rfl rfl (fun W hW=>Kab rfl rfl (Ked _ _ W)) ?_;simp only [zP]
          refine tk 30 40 (v:=.string (strB s1)) rfl rfl (fun W hW=>Kac rfl rfl (Kaf (w:=W) Tryz.underlying9 rfl (Kad hW (ltOf q1) q1))) ?_;simp only [zP]
          refine Kan 31 41 rfl rfl (by kernel_rfl) rfl (Kam [.string (strB s0),.string (strB s1)] rfl rfl Tryz.func93 (by kernel_rfl) (by kernel_rfl)) ?_
          refine (texts_any s0 s1 hl0 hl1 _).mono ?_
          rintro e W31 ⟨rfl,hb31⟩
          have hS31:=Kaa hS13 hb31
          refine ⟨_,rfl,.inr hS31,?_⟩;simp only [zP]
          refine tk 32 42 (v:=.bool (!(ltB s0 s1))) rfl rfl (fun W hW=>Kal rfl rfl rfl (hge W)) ?_;simp only [zP]
          refine tk 33 43 (v:=.bool (!(ltB s0 s1))) rfl rfl (fun W hW=>rfl) ?_;simp only [zP]
          refine tk 34 44 (v:=.bool (!(ltB s0 s1))) rfl rfl (fun W hW=>rfl) ?_;simp only [zP]
          refine done (by kernel_rfl) ?_ _
          have HB:=yh (Kaa HB1.out hS31)
          clear hi1 q1 hnm hB0 hgt hi0 q0 hl0 hl1 hsub hge hst hy1 r1 hS hS5 hS13 hS31 hb13 hb31 HX
          simp only [hlb,Bool.not_false]
          go_wp2
          go_ret
          exact ⟨Kak (by rw [okPs_eq,HN.out,Bool.and_false]),HB.out⟩
  ·obtain rfl : j = l.length:=by omega
   have h1:=HI.out.1
   have h2:=HI.out.2.1
   rw [List.take_length] at h1
   rw [List.take_of_length_le (by simp)] at h2
   have HF:=yh (And.intro (show okPs l = true by rw [okPs_eq,h1,h2];rfl) HI.out.2.2)
   clear HI h1 h2
   go_wp2
   go_ret
   exact ⟨Kak HF.out.1.symm,HF.out.2⟩
def Kcj (l : List Int) (x : Int) : Int:=match l.findIdx? (· == x) with
 | some i=>(i : Int)
 | none=>-1
theorem findAt_hit {l : List Int} {x : Int} {j : Nat} (hj : j < l.length) (h1 : x ∉ l.take j) (h2 : l[j] = x) : Kcj l x = (j : Int):=by
 unfold Kcj
 have : l.findIdx? (· == x) = some j:=by
  rw [List.findIdx?_eq_some_iff_getElem]
  refine ⟨hj,by simp [h2],fun i hi=>?_⟩
  have : l[i] ≠ x:=fun e=>h1 (by rw [List.mem_take_iff_getElem];exact ⟨i,by omega,e⟩)
  simp [this]
 rw [this]
theorem findAt_none {l : List Int} {x : Int} (h : x ∉ l) : Kcj l x = -1:=by
 unfold Kcj
 have : l.findIdx? (· == x) = none:=by
  rw [List.findIdx?_eq_none_iff]
  intro y hy
  have : y ≠ x:=fun e=>h (by rw [← e];exact hy)
  simp [this]
 rw [this]
theorem Kd8 (l : List Int) (x : Int) : decide (Kcj l x < 0) = !(l.any (· == x)):=by
 by_cases h : x ∈ l
 ·have h1 : l.any (· == x) = true:=by rw [List.any_eq_true];exact ⟨x,h,by simp⟩
  rw [h1]
  unfold Kcj
  cases e : l.findIdx? (· == x) with
  | none =>
    rw [List.findIdx?_eq_none_iff] at e
    have:=e x h
    simp at this
  | some i=>simp
 ·have h1 : l.any (· == x) = false:=by
   rw [List.any_eq_false]
   intro y hy e
   have e : y = x:=by simpa using e
   exact h (by rw [← e];exact hy)
  rw [h1,findAt_none h]
  rfl
theorem findAt_some {l : List Int} {x : Int} (h : 0 ≤ Kcj l x) : ∃ (j : Nat) (hj : j < l.length),Kcj l x = (j : Int) ∧ l[j] = x:=by
 unfold Kcj at h ⊢
 cases e : l.findIdx? (· == x) with
 | none=>rw [e] at h;simp at h
 | some i =>
   rw [List.findIdx?_eq_some_iff_getElem] at e
   obtain ⟨hi,h1,_⟩:=e
   exact ⟨i,hi,rfl,by simpa using h1⟩
theorem take_no {l : List Int} {x : Int} {j : Nat} (hj : j < l.length) (h1 : x ∉ l.take j) (h2 : l[j] ≠ x) : x ∉ l.take (j + 1):=by
 rw [List.take_succ_eq_append_getElem hj,List.mem_append,List.mem_singleton]
 rintro (h | h)
 ·exact h1 h
 ·exact h2 h.symm
theorem Keq {w : World} {g : GraphD} {x : Array Value} (h : GrRd w g x) (i : Int) : Calls Tryz.prog 36 #[.agg x,.int .i64 i] w fun e w'=>e = .returned (.int .i64 (Kcj (g.nodes.map NodeD.id) i)) ∧ Below w.heap.size w w':=by
 obtain ⟨pn,cn,pr,cr,rfl,hn,hr⟩:=h
 have hb1:=Kah (w:=w) (.cells #[.slice pn g.nodes.length cn,.slice pr g.rels.length cr,.int .i64 g.nextNode,.int .i64 g.nextRel] 25)
 have hx1:=heap_alloc_new w (.cells #[.slice pn g.nodes.length cn,.slice pr g.rels.length cr,.int .i64 g.nextNode,.int .i64 g.nextRel] 25)
 have p0 : (w.alloc (.cells #[.slice pn g.nodes.length cn,.slice pr g.rels.length cr,.int .i64 g.nextNode,.int .i64 g.nextRel] 25)).cell? ⟨w.heap.size,0,none⟩ = some (.slice pn g.nodes.length cn):=Kae (o:=0) hx1 rfl
 have hl:=hn.below (fun h=>h.below hb1) hb1
 have z1 : (g.nodes.length : Int) ≤ 140737488355328:=by have:=hl.1.2.1;omega
 have H:=yh (And.intro hl hb1)
 clear hn hr hb1 hx1 hl
 go_enter Tryz.func36,Tryz.ntmps36
 go_wp2
 generalize w.alloc (.cells #[.slice pn g.nodes.length cn,.slice pr g.rels.length cr,.int .i64 g.nextNode,.int .i64 g.nextRel] 25) = w1 at *
 go_loopw [5] (fun k W=>∃ j : Nat,j ≤ g.nodes.length ∧ k = .int .i64 (j : Int) ∧ Hid (i ∉ (g.nodes.map NodeD.id).take j) ∧ W = w1) (fun k _=>g.nodes.length - (intOf k).toNat)
 case atStart=>exact ⟨0,Nat.zero_le _,rfl,yh (by simp),rfl⟩
 case round =>
  obtain ⟨j,hj,rfl,HI,rfl⟩:=hrel
  by_cases hlt : j < g.nodes.length
  ·have hlt1 : j + 1 ≤ g.nodes.length:=hlt
   obtain ⟨bk,ok,cs,hp,hcs,hcc,hv⟩:=H.out.1.get hlt
   have q1 : wr.cell? ⟨bk,ok + j * 3,none⟩ = some (.int .i64 g.nodes[j].id):=hcc 0 _ (by obtain ⟨_,_,_,_,e,_⟩:=hv;rw [e];rfl)
   have hm : (g.nodes.map NodeD.id)[j]'(by simpa using hlt) = g.nodes[j].id:=List.getElem_map ..
   have hhit:=findAt_hit (l:=g.nodes.map NodeD.id) (x:=i) (j:=j) (by simpa using hlt) HI.out
   have hmiss:=take_no (l:=g.nodes.map NodeD.id) (x:=i) (j:=j) (by simpa using hlt) HI.out
   rw [hm] at hhit hmiss
   have HM:=yh (And.intro hhit hmiss)
   clear hm hhit hmiss hv hcc hcs
   generalize g.nodes[j].id = id at *
   subst hp
   by_cases he : id = i
   ·have HF:=yh (HM.out.1 he)
    subst he
    clear HM
    go_wp2
    go_ret
    exact ⟨Ka6 HF.out.symm,H.out.2⟩
   ·have HN:=yh (HM.out.2 he)
    have heq : (id == i) = false:=by rw [beq_eq_false_iff_ne];exact he
    clear HM
    go_wp2
    go_roundw
    case rel=>exact ⟨j + 1,hlt1,by go_num,HN,trivial⟩
    case measure=>simp [intOf];omega
  ·obtain rfl : j = g.nodes.length:=by omega
   have hq:=HI.out
   rw [List.take_of_length_le (by simp)] at hq
   have HF:=yh (findAt_none hq)
   clear hq
   go_wp2
   go_ret
   exact ⟨Ka6 HF.out.symm,H.out.2⟩
theorem reffindr_any {w : World} {g : GraphD} {x : Array Value} (h : GrRd w g x) (i : Int) : Calls Tryz.prog 69 #[.agg x,.int .i64 i] w fun e w'=>e = .returned (.int .i64 (Kcj (g.rels.map RelD.id) i)) ∧ Below w.heap.size w w':=by
 obtain ⟨pn,cn,pr,cr,rfl,hn,hr⟩:=h
 have hb1:=Kah (w:=w) (.cells #[.slice pn g.nodes.length cn,.slice pr g.rels.length cr,.int .i64 g.nextNode,.int .i64 g.nextRel] 25)
 have hx1:=heap_alloc_new w (.cells #[.slice pn g.nodes.length cn,.slice pr g.rels.length cr,.int .i64 g.nextNode,.int .i64 g.nextRel] 25)
 have p0 : (w.alloc (.cells #[.slice pn g.nodes.length cn,.slice pr g.rels.length cr,.int .i64 g.nextNode,.int .i64 g.nextRel] 25)).cell? ⟨w.heap.size,1,none⟩ = some (.slice pr g.rels.length cr):=Kae (o:=1) hx1 rfl
 have hl:=hr.below (fun h=>h.below hb1) hb1
 have z1 : (g.rels.length : Int) ≤ 140737488355328:=by have:=hl.1.2.1;omega
 have H:=yh (And.intro hl hb1)
 clear hn hr hb1 hx1 hl
 go_enter Tryz.func69,Tryz.ntmps69
 go_wp2
 generalize w.alloc (.cells #[.slice pn g.nodes.length cn,.slice pr g.rels.length cr,.int .i64 g.nextNode,.int .i64 g.nextRel] 25) = w1 at *
 go_loopw [5] (fun k W=>∃ j : Nat,j ≤ g.rels.length ∧ k = .int .i64 (j : Int) ∧ Hid (i ∉ (g.rels.map RelD.id).take j) ∧ W = w1) (fun k _=>g.rels.length - (intOf k).toNat)
 case atStart=>exact ⟨0,Nat.zero_le _,rfl,yh (by simp),rfl⟩
 case round =>
  obtain ⟨j,hj,rfl,HI,rfl⟩:=hrel
  by_cases hlt : j < g.rels.length
  ·have hlt1 : j + 1 ≤ g.rels.length:=hlt
   obtain ⟨bk,ok,cs,hp,hcs,hcc,hv⟩:=H.out.1.get hlt
   have q1 : wr.cell? ⟨bk,ok + j * 5,none⟩ = some (.int .i64 g.rels[j].id):=hcc 0 _ (by obtain ⟨_,_,e,_⟩:=hv;rw [e];rfl)
   have hm : (g.rels.map RelD.id)[j]'(by simpa using hlt) = g.rels[j].id:=List.getElem_map ..
   have hhit:=findAt_hit (l:=g.rels.map RelD.id) (x:=i) (j:=j) (by simpa using hlt) HI.out
   have hmiss:=take_no (l:=g.rels.map RelD.id) (x:=i) (j:=j) (by simpa using hlt) HI.out
   rw [hm] at hhit hmiss
   have HM:=yh (And.intro hhit hmiss)
   clear hm hhit hmiss hv hcc hcs
   generalize g.rels[j].id = id at *
   subst hp
   by_cases he : id = i
   ·have HF:=yh (HM.out.1 he)
    subst he
    clear HM
    go_wp2
    go_ret
    exact ⟨Ka6 HF.out.symm,H.out.2⟩
   ·have HN:=yh (HM.out.2 he)
    have heq : (id == i) = false:=by rw [beq_eq_false_iff_ne];exact he
    clear HM
    go_wp2
    go_roundw
    case rel=>exact ⟨j + 1,hlt1,by go_num,HN,trivial⟩
    case measure=>simp [intOf];omega
  ·obtain rfl : j = g.rels.length:=by omega
   have hq:=HI.out
   rw [List.take_of_length_le (by simp)] at hq
   have HF:=yh (findAt_none hq)
   clear hq
   go_wp2
   go_ret
   exact ⟨Ka6 HF.out.symm,H.out.2⟩
theorem fa_gr (i : Nat) (h : i < 4) (b : Nat) (W : World) : (Instr.fieldAt 25 (.pointer (some ⟨b,0,none⟩)) i).run Tryz.prog W = .ok (.pointer (some ⟨b,i,none⟩)) W:=by
 match i,h with
 | 0,_=>simp [go_sem]
 | 1,_=>simp [go_sem]
 | 2,_=>simp [go_sem]
 | 3,_=>simp [go_sem]
theorem fa_nd (i : Nat) (h : i < 3) (b : Nat) (W : World) : (Instr.fieldAt 45 (.pointer (some ⟨b,0,none⟩)) i).run Tryz.prog W = .ok (.pointer (some ⟨b,i,none⟩)) W:=by
 match i,h with
 | 0,_=>simp [go_sem]
 | 1,_=>simp [go_sem]
 | 2,_=>simp [go_sem]
theorem fa_rl (i : Nat) (h : i < 5) (b : Nat) (W : World) : (Instr.fieldAt 49 (.pointer (some ⟨b,0,none⟩)) i).run Tryz.prog W = .ok (.pointer (some ⟨b,i,none⟩)) W:=by
 match i,h with
 | 0,_=>simp [go_sem]
 | 1,_=>simp [go_sem]
 | 2,_=>simp [go_sem]
 | 3,_=>simp [go_sem]
 | 4,_=>simp [go_sem]
theorem fa_ndO (b o : Nat) (W : World) : (Instr.fieldAt 45 (.pointer (some ⟨b,o,none⟩)) 0).run Tryz.prog W = .ok (.pointer (some ⟨b,o,none⟩)) W:=by simp [go_sem]
theorem fa_rlO (b o : Nat) (W : World) : (Instr.fieldAt 49 (.pointer (some ⟨b,o,none⟩)) 0).run Tryz.prog W = .ok (.pointer (some ⟨b,o,none⟩)) W:=by simp [go_sem]
theorem lss_i (n m : Int) (W : World) : (binOp .lss 2 (.int .i64 n) (.int .i64 m)).run Tryz.prog W = .ok (.bool (decide (n < m))) W:=by simp [go_sem]
theorem geq_i (n m : Int) (W : World) : (binOp .geq 2 (.int .i64 n) (.int .i64 m)).run Tryz.prog W = .ok (.bool (decide (m ≤ n))) W:=by simp [go_sem]
theorem lss_0 (n : Int) (W : World) : (binOp .lss 3 (.int .i64 n) (.int .i64 0)).run Tryz.prog W = .ok (.bool (decide (n < 0))) W:=by simp [go_sem]
def okNsP (g : GraphD) (j : Nat) : Bool:=((g.nodes.take j).all fun n=>okN n && decide (n.id < g.nextNode)) && Kbe ((g.nodes.take j).map NodeD.id)
def okRsP (g : GraphD) (j : Nat) : Bool:=((g.rels.take j).all fun r=>okR r && decide (r.id < g.nextRel) && hasN g r.src && hasN g r.dst) && Kbe ((g.rels.take j).map RelD.id)
theorem risesI_cut : ∀ (l m : List Int),Kbe (l ++ m) = true → Kbe l = true
 | [],m,_=>rfl
 | [a],m,_=>rfl
 | a :: b :: l,m,h=>by
   simp only [List.cons_append,Kbe,Bool.and_eq_true] at h ⊢
   exact ⟨h.1,risesI_cut (b :: l) m h.2⟩
theorem risesI_snoc : ∀ {l : List Int} {x : Int},Kbe (l ++ [x]) = (Kbe l && !(match l.getLast? with | some y=>decide (x ≤ y) | none=>false))
 | [],x=>rfl
 | [a],x=>by
   simp only [List.cons_append,List.nil_append,Kbe,List.getLast?_singleton,Bool.true_and,Bool.and_true]
   rw [Bool.eq_iff_iff];simp
 | a :: b :: l,x=>by
   have ih:=risesI_snoc (l:=b :: l) (x:=x)
   simp only [List.cons_append] at ih
   simp only [List.cons_append,Kbe,ih,List.getLast?_cons_cons,Bool.and_assoc]
theorem getLast_take {l : List Int} {j : Nat} (h0 : 0 < j) (hj : j ≤ l.length) : (l.take j).getLast? = some (l[j - 1]'(by omega)):=by
 rw [List.getLast?_eq_getElem?,List.length_take,List.getElem?_take]
 have e : min j l.length - 1 = j - 1:=by omega
 rw [e,if_pos (by omega),List.getElem?_eq_getElem (by omega)]
theorem okNsP_step {g : GraphD} {j : Nat} (hj : j < g.nodes.length) (b4 : Bool) (h4 : 0 < j → b4 = decide (g.nodes[j].id ≤ (g.nodes[j - 1]'(by omega)).id)) :
 okNsP g (j + 1) = (okNsP g j && (!(decide (g.nodes[j].id < 0)) && !(decide (g.nextNode ≤ g.nodes[j].id)) && !(decide (0 < j) && b4) && Kdp g.nodes[j].labels && okPs g.nodes[j].props)):=by
 unfold okNsP
 rw [List.take_succ_eq_append_getElem hj,List.all_append,List.map_append,List.map_cons,List.map_nil,risesI_snoc]
 have hl : (match ((g.nodes.take j).map NodeD.id).getLast? with | some y=>decide (g.nodes[j].id ≤ y) | none=>false) = (decide (0 < j) && b4):=by
  by_cases h0 : 0 < j
  ·rw [List.map_take,getLast_take h0 (by simp;omega),h4 h0]
   simp [h0]
  ·have : j = 0:=by omega
   subst this
   rfl
 rw [hl]
 have hn : ∀ n : NodeD,okN n = (!(decide (n.id < 0)) && Kdp n.labels && okPs n.props):=fun n=>by
  unfold okN Kdp
  have : decide (0 ≤ n.id) = !(decide (n.id < 0)):=by rw [Bool.eq_iff_iff];simp
  rw [this]
  cases decide (n.id < 0) <;> cases Kav n.labels <;> cases n.labels.all okNm <;> cases okPs n.props <;> rfl
 simp only [List.all_cons,List.all_nil,Bool.and_true,hn]
 have hlt : decide (g.nodes[j].id < g.nextNode) = !(decide (g.nextNode ≤ g.nodes[j].id)):=by rw [Bool.eq_iff_iff];simp
 rw [hlt]
 generalize (g.nodes.take j).all _ = a1
 generalize Kbe _ = a2
 generalize (decide (0 < j) && b4) = a3
 generalize decide (g.nodes[j].id < 0) = a4
 generalize decide (g.nextNode ≤ g.nodes[j].id) = a5
 generalize Kdp g.nodes[j].labels = a6
 generalize okPs g.nodes[j].props = a7
 cases a1 <;> cases a2 <;> cases a3 <;> cases a4 <;> cases a5 <;> cases a6 <;> cases a7 <;> rfl
theorem okRsP_step {g : GraphD} {j : Nat} (hj : j < g.rels.length) (b4 : Bool) (h4 : 0 < j → b4 = decide (g.rels[j].id ≤ (g.rels[j - 1]'(by omega)).id)) :
 okRsP g (j + 1) = (okRsP g j && (!(decide (g.rels[j].id < 0)) && !(decide (g.nextRel ≤ g.rels[j].id)) && !(decide (0 < j) && b4) && okNm g.rels[j].type && okPs g.rels[j].props && hasN g g.rels[j].src && hasN g g.rels[j].dst)):=by
 unfold okRsP
 rw [List.take_succ_eq_append_getElem hj,List.all_append,List.map_append,List.map_cons,List.map_nil,risesI_snoc]
 have hl : (match ((g.rels.take j).map RelD.id).getLast? with | some y=>decide (g.rels[j].id ≤ y) | none=>false) = (decide (0 < j) && b4):=by
  by_cases h0 : 0 < j
  ·rw [List.map_take,getLast_take h0 (by simp;omega),h4 h0]
   simp [h0]
  ·have : j = 0:=by omega
   subst this
   rfl
 rw [hl]
 have hn : ∀ n : RelD,okR n = (!(decide (n.id < 0)) && okNm n.type && okPs n.props):=fun n=>by
  unfold okR
  have : decide (0 ≤ n.id) = !(decide (n.id < 0)):=by rw [Bool.eq_iff_iff];simp
  rw [this]
 simp only [List.all_cons,List.all_nil,Bool.and_true,hn]
 have hlt : decide (g.rels[j].id < g.nextRel) = !(decide (g.nextRel ≤ g.rels[j].id)):=by rw [Bool.eq_iff_iff];simp
 rw [hlt]
 generalize (g.rels.take j).all _ = a1
 generalize Kbe _ = a2
 generalize (decide (0 < j) && b4) = a3
 generalize decide (g.rels[j].id < 0) = a4
 generalize decide (g.nextRel ≤ g.rels[j].id) = a5
 generalize okNm g.rels[j].type = a6
 generalize okPs g.rels[j].props = a7
 generalize hasN g g.rels[j].src = a8
 generalize hasN g g.rels[j].dst = a9
 cases a1 <;> cases a2 <;> cases a3 <;> cases a4 <;> cases a5 <;> cases a6 <;> cases a7 <;> cases a8 <;> cases a9 <;> rfl
theorem okNsP_no {g : GraphD} {j : Nat} (h : okNsP g j = false) : okG g = false:=by
 cases hg : okG g with
 | false=>rfl
 | true =>
   obtain ⟨_,k6,k7,_,_⟩:=(Kch g).1 hg
   have : okNsP g j = true:=by
    unfold okNsP
    rw [Bool.and_eq_true,List.all_eq_true]
    refine ⟨fun n hn=>by have:=k6 n (List.mem_of_mem_take hn);simp [this.1,this.2],?_⟩
    have e : g.nodes.map NodeD.id = (g.nodes.take j).map NodeD.id ++ (g.nodes.drop j).map NodeD.id:=by rw [← List.map_append,List.take_append_drop]
    rw [e] at k7
    exact risesI_cut _ _ k7
   rw [this] at h;cases h
theorem okRsP_no {g : GraphD} {j : Nat} (h : okRsP g j = false) : okG g = false:=by
 cases hg : okG g with
 | false=>rfl
 | true =>
   obtain ⟨_,_,_,k8,k9⟩:=(Kch g).1 hg
   have : okRsP g j = true:=by
    unfold okRsP
    rw [Bool.and_eq_true,List.all_eq_true]
    refine ⟨fun n hn=>by obtain ⟨a,b,c,d⟩:=k8 n (List.mem_of_mem_take hn);simp [a,b,c,d],?_⟩
    have e : g.rels.map RelD.id = (g.rels.take j).map RelD.id ++ (g.rels.drop j).map RelD.id:=by rw [← List.map_append,List.take_append_drop]
    rw [e] at k9
    exact risesI_cut _ _ k9
   rw [this] at h;cases h
theorem okG_all {g : GraphD} (h1 : okSz g = true) (h2 : okNsP g g.nodes.length = true) (h3 : okRsP g g.rels.length = true) : okG g = true:=by
 unfold okNsP at h2
 unfold okRsP at h3
 rw [List.take_length] at h2 h3
 unfold okG okNs okRs
 rw [h1,h2,h3]
 rfl
theorem okSz_no {g : GraphD} (h : okSz g = false) : okG g = false:=by unfold okG;rw [h];rfl
def GTot (g : GraphD) : Prop:=(∀ n ∈ g.nodes,∀ x ∈ n.props,totV x.val ≤ 1099511627776) ∧ ∀ r ∈ g.rels,∀ x ∈ r.props,totV x.val ≤ 1099511627776
theorem hasN_find (g : GraphD) (i : Int) : decide (Kcj (g.nodes.map NodeD.id) i < 0) = !(hasN g i):=by
 rw [Kd8,hasN_ids]
theorem Kde {w : World} {g : GraphD} {x : Array Value} (h : GrRd w g x) (ht : GTot g) : Calls Tryz.prog 11 #[.agg x] w fun e w'=>e = .returned (.bool (okG g)) ∧ Below w.heap.size w w':=by
 have hxs:=h
 obtain ⟨pn,cn,pr,cr,rfl,hn,hr⟩:=h
 have hb1:=Kah (w:=w) (.cells #[.slice pn g.nodes.length cn,.slice pr g.rels.length cr,.int .i64 g.nextNode,.int .i64 g.nextRel] 25)
 have hx1:=heap_alloc_new w (.cells #[.slice pn g.nodes.length cn,.slice pr g.rels.length cr,.int .i64 g.nextNode,.int .i64 g.nextRel] 25)
 have p0 : (w.alloc (.cells #[.slice pn g.nodes.length cn,.slice pr g.rels.length cr,.int .i64 g.nextNode,.int .i64 g.nextRel] 25)).cell? ⟨w.heap.size,0,none⟩ = some (.slice pn g.nodes.length cn):=Kae (o:=0) hx1 rfl
 have p1 : (w.alloc (.cells #[.slice pn g.nodes.length cn,.slice pr g.rels.length cr,.int .i64 g.nextNode,.int .i64 g.nextRel] 25)).cell? ⟨w.heap.size,1,none⟩ = some (.slice pr g.rels.length cr):=Kae (o:=1) hx1 rfl
 have p2 : (w.alloc (.cells #[.slice pn g.nodes.length cn,.slice pr g.rels.length cr,.int .i64 g.nextNode,.int .i64 g.nextRel] 25)).cell? ⟨w.heap.size,2,none⟩ = some (.int .i64 g.nextNode):=Kae (o:=2) hx1 rfl
 have p3 : (w.alloc (.cells #[.slice pn g.nodes.length cn,.slice pr g.rels.length cr,.int .i64 g.nextNode,.int .i64 g.nextRel] 25)).cell? ⟨w.heap.size,3,none⟩ = some (.int .i64 g.nextRel):=Kae (o:=3) hx1 rfl
 have hn1:=hn.below (fun h=>h.below hb1) hb1
 have hr1:=hr.below (fun h=>h.below hb1) hb1
 have z1 : (g.nodes.length : Int) ≤ 140737488355328:=by have:=hn.1.2.1;omega
 have z2 : (g.rels.length : Int) ≤ 140737488355328:=by have:=hr.1.2.1;omega
 have z3 : g.nodes.length ≤ 140737488355328 ∧ g.rels.length ≤ 140737488355328:=by omega
 have HX:=yh (And.intro hn1 (And.intro ht (And.intro hb1 (And.intro hr1 (And.intro p0 (And.intro p1 (And.intro p2 (And.intro p3 z3))))))))
 have HG:=yh (And.intro hx1 (And.intro (hxs.below hb1) (show (#[.slice pn g.nodes.length cn,.slice pr g.rels.length cr,.int .i64 g.nextNode,.int .i64 g.nextRel] : Array Value).size = 4 from rfl)))
 have hsz : okSz g = (decide (g.nodes.length + g.rels.length ≤ 65536) && decide (0 ≤ g.nextNode) && decide (g.nextNode ≤ 4611686018427387904) && decide (0 ≤ g.nextRel) && decide (g.nextRel ≤ 4611686018427387904)):=rfl
 have hw1 : IntKind.i64.wrap ((g.nodes.length : Int) + (g.rels.length : Int)) = (g.nodes.length : Int) + (g.rels.length : Int):=by rw [IntKind.wrap_i64];omega
 have HNO:=yh (okSz_no (g:=g))
 clear hn hr hb1 hx1 hn1 hr1 z3 hxs ht
 cases hok : okSz g with
 | false =>
   have HF:=yh (HNO.out hok)
   have q1 : (g.nodes.length : Int) + (g.rels.length : Int) ≤ 65536 → 0 ≤ g.nextNode → g.nextNode ≤ 4611686018427387904 → 0 ≤ g.nextRel → ¬ g.nextRel ≤ 4611686018427387904:=fun a b c d e=>by
    rw [hok] at hsz
    have a2 : g.nodes.length + g.rels.length ≤ 65536:=by omega
    simp [a2,b,c,d,e] at hsz
   have HQ:=yh q1
   clear q1 hok hsz HNO
   by_cases a1 : (g.nodes.length : Int) + (g.rels.length : Int) ≤ 65536
   ·by_cases a2 : 0 ≤ g.nextNode
    ·by_cases a3 : g.nextNode ≤ 4611686018427387904
     ·by_cases a4 : 0 ≤ g.nextRel
      ·have a5:=HQ.out a1 a2 a3 a4
       go_enter Tryz.func11,Tryz.ntmps11
       go_wp2
       go_ret
       exact ⟨Kak HF.out.symm,HX.out.2.2.1⟩
      ·go_enter Tryz.func11,Tryz.ntmps11
       go_wp2
       go_ret
       exact ⟨Kak HF.out.symm,HX.out.2.2.1⟩
     ·go_enter Tryz.func11,Tryz.ntmps11
      go_wp2
      go_ret
      exact ⟨Kak HF.out.symm,HX.out.2.2.1⟩
    ·go_enter Tryz.func11,Tryz.ntmps11
     go_wp2
     go_ret
     exact ⟨Kak HF.out.symm,HX.out.2.2.1⟩
   ·go_enter Tryz.func11,Tryz.ntmps11
    go_wp2
    go_ret
    exact ⟨Kak HF.out.symm,HX.out.2.2.1⟩
 | true =>
   have hpt:=hok
   rw [hsz] at hpt
   simp only [Bool.and_eq_true,decide_eq_true_eq] at hpt
   obtain ⟨⟨⟨⟨a1,a2⟩,a3⟩,a4⟩,a5⟩:=hpt
   have a1' : (g.nodes.length : Int) + (g.rels.length : Int) ≤ 65536:=by omega
   have HSZ:=yh hok
   clear hsz hok a1 HNO
   go_enter Tryz.func11,Tryz.ntmps11
   go_wp2
   generalize hwA : w.alloc (.cells #[.slice pn g.nodes.length cn,.slice pr g.rels.length cr,.int .i64 g.nextNode,.int .i64 g.nextRel] 25) = w1 at *
   clear hwA p0 p1 p2 p3 a1' a2 a3 a4 a5 hw1
   have hxg : ∃ xg : Array Value,xg = #[.slice pn g.nodes.length cn,.slice pr g.rels.length cr,.int .i64 g.nextNode,.int .i64 g.nextRel]:=⟨_,rfl⟩
   obtain ⟨xg,hxg⟩:=hxg
   rw [← hxg] at HG
   clear hxg
   have q0:=HX.out.2.2.2.2.1
   go_loopw [3] (fun i wr=>∃ j : Nat,j ≤ g.nodes.length ∧ i = .int .i64 (j : Int) ∧ Hid (okNsP g j = true ∧ Below w1.heap.size w1 wr)) (fun i _=>g.nodes.length - (intOf i).toNat)
   case atStart=>exact ⟨0,Nat.zero_le _,rfl,yh ⟨rfl,Below.refl _ _⟩⟩
   case round =>
    clear q0
    obtain ⟨j,hj,rfl,HJ⟩:=hrel
    by_cases hlt : j < g.nodes.length
    ·have hlt1:=Nat.succ_le_of_lt hlt
     have hbw : Below w1.heap.size w1 wr:=HJ.out.2
     obtain ⟨bk,ok,cs,rfl,hs,hc,hv⟩:=HX.out.1.get hlt
     have hvl:=hv
     have gw : wr.cell? ⟨w.heap.size,0,none⟩ = some (.slice (some ⟨bk,ok,none⟩) g.nodes.length cn):=Kad hbw (ltOf HX.out.2.2.2.2.1) HX.out.2.2.2.2.1 -- gw
     have hb9 : 0 < j → ∃ id0,w1.cell? ⟨bk,ok + (j - 1) * 3,none⟩ = some (.int .i64 id0) ∧ ∀ hh : j - 1 < g.nodes.length,g.nodes[j - 1].id = id0:=fun h0=>by
      obtain ⟨bk2,ok2,cs0,e2,hs0,hc0,hv0⟩:=HX.out.1.get (show j - 1 < g.nodes.length by omega)
      cases e2
      have hq0 : w1.cell? ⟨bk,ok + (j - 1) * 3,none⟩ = some (.int .i64 (g.nodes[j - 1]'(by omega)).id):=by
       obtain ⟨_,_,_,_,rfl,_⟩:=hv0
       exact hc0 0 _ rfl
      exact ⟨_,hq0,fun _=>rfl⟩
     obtain ⟨id0,hid0⟩ : ∃ id0,0 < j → w1.cell? ⟨bk,ok + (j - 1) * 3,none⟩ = some (.int .i64 id0) ∧ ∀ hh : j - 1 < g.nodes.length,g.nodes[j - 1].id = id0:=by
      by_cases h0 : 0 < j
      ·obtain ⟨a,b⟩:=hb9 h0;exact ⟨a,fun _=>b⟩
      ·exact ⟨0,fun h=>absurd h h0⟩
     have hst:=okNsP_step hlt (decide (g.nodes[j].id ≤ id0)) (fun h0=>by rw [(hid0 h0).2 (by omega)])
     have hno:=okNsP_no (g:=g) (j:=j + 1)
     have hok1:=HJ.out.1
     rw [hok1,Bool.true_and] at hst
     have htv:=HX.out.2.1.1 _ (List.getElem_mem hlt)
     obtain ⟨pl,cl,pp,cp,ecs,hls,hps⟩:=hv
     have hn1:=Kah (w:=wr) (.cells cs 45)
     have hx1:=heap_alloc_new wr (.cells cs 45)
     have HL1:=yh (StT.load (P:=Tryz.prog) (g:=bk) (o:=ok + j * 3) (W:=wr) Kay hs fun i u hu=>Kad hbw (ltOf (hc i u hu)) (hc i u hu))
     have HS1:=yh (StT.fresh Kay hs (Kb9.ones hvl) (W:=wr))
     have hbw1:=Kaa hbw hn1
     have c0 : (wr.alloc (.cells cs 45)).cell? ⟨wr.heap.size,0,none⟩ = some (.int .i64 g.nodes[j].id):=Kae (o:=0) hx1 (by rw [ecs];rfl)
     have c1 : (wr.alloc (.cells cs 45)).cell? ⟨wr.heap.size,1,none⟩ = some (.slice pl g.nodes[j].labels.length cl):=Kae (o:=1) hx1 (by rw [ecs];rfl)
     have c2 : (wr.alloc (.cells cs 45)).cell? ⟨wr.heap.size,2,none⟩ = some (.slice pp g.nodes[j].props.length cp):=Kae (o:=2) hx1 (by rw [ecs];rfl)
     have g0 : (wr.alloc (.cells cs 45)).cell? ⟨w.heap.size,0,none⟩ = some (.slice (some ⟨bk,ok,none⟩) g.nodes.length cn):=Kad hbw1 (ltOf HX.out.2.2.2.2.1) HX.out.2.2.2.2.1
     have g2 : (wr.alloc (.cells cs 45)).cell? ⟨w.heap.size,2,none⟩ = some (.int .i64 g.nextNode):=Kad hbw1 (ltOf HX.out.2.2.2.2.2.2.1) HX.out.2.2.2.2.2.2.1
     have c9 : 0 < j → (wr.alloc (.cells cs 45)).cell? ⟨bk,ok + (j - 1) * 3,none⟩ = some (.int .i64 id0):=fun h0=>Kad hbw1 (ltOf (hid0 h0).1) (hid0 h0).1
     have hri:=fun W (g : Below (wr.alloc (.cells cs 45)).heap.size (wr.alloc (.cells cs 45)) W)=>refrises_any (w:=W) ((hls.below hbw1).below g)
     have hpr:=fun W (g : Below (wr.alloc (.cells cs 45)).heap.size (wr.alloc (.cells cs 45)) W)=>refprops_any (w:=W) ((hps.below (fun h=>h.below hbw1) hbw1).below (fun h=>h.below g) g) htv
     have hi0 : 0 < j → ∀ W' : World,(Instr.indexAt 22 (.slice (some ⟨bk,ok,none⟩) g.nodes.length cn) (.int .i64 ((j - 1 : Nat) : Int))).run Tryz.prog W' = .ok (.pointer (some ⟨bk,ok + (j - 1) * 3,none⟩)) W':=fun h0 W'=>ia_node (by omega) W'
     have hsub : 0 < j → ∀ W : World,(binOp .sub 3 (.int .i64 (j : Int)) (.int .i64 1)).run Tryz.prog W = .ok (.int .i64 ((j - 1 : Nat) : Int)) W:=fun h0=>sub_nat h0 (by have:=HX.out.2.2.2.2.2.2.2.2;omega)
     have h1:=fun W=>lss_i g.nodes[j].id 0 W
     have h2:=fun W=>geq_i g.nodes[j].id g.nextNode W
     have h3:=gtr_nat (j:=j)
     have h4:=fun W=>geq_i id0 g.nodes[j].id W
     obtain ⟨b1,hb1⟩ : ∃ b,b = decide (g.nodes[j].id < 0):=⟨_,rfl⟩
     obtain ⟨b2,hb2⟩ : ∃ b,b = decide (g.nextNode ≤ g.nodes[j].id):=⟨_,rfl⟩
     obtain ⟨b3,hb3⟩ : ∃ b,b = decide (0 < j):=⟨_,rfl⟩
     obtain ⟨b4,hb4⟩ : ∃ b,b = decide (g.nodes[j].id ≤ id0):=⟨_,rfl⟩
     obtain ⟨b5,hb5⟩ : ∃ b,b = Kdp g.nodes[j].labels:=⟨_,rfl⟩
     obtain ⟨b6,hb6⟩ : ∃ b,b = okPs g.nodes[j].props:=⟨_,rfl⟩
     simp only [← hb1,← hb2,← hb3,← hb4,← hb5,← hb6] at h1 h2 h3 h4 hri hpr hst
     have hst1 : (!b1 && !b2 && !(b3 && b4) && b5 && b6) = true → okNsP g (j + 1) = true:=fun h=>by rw [hst];exact h
     have hst2 : (!b1 && !b2 && !(b3 && b4) && b5 && b6) = false → okG g = false:=fun h=>hno (by rw [hst];exact h)
     have HALL:=yh (And.intro hst1 hst2)
     have hj0 : b3 = true → 0 < j:=fun e=>by rw [hb3] at e;simpa using e
     have hc9:=fun e=>c9 (hj0 e)
     have hhi0:=fun e=>hi0 (hj0 e)
     have hhsub:=fun e=>hsub (hj0 e)
     have HB1:=yh hbw1
     have hB0 : Below (wr.alloc (.cells cs 45)).heap.size (wr.alloc (.cells cs 45)) (wr.alloc (.cells cs 45)).drew:=(Below.refl _ _).drew
     generalize g.nodes[j].id = id at *
     generalize g.nodes[j].labels.length = nl at *
     generalize g.nodes[j].props.length = np at *
     have HY:=yh (And.intro c0 (And.intro c1 (And.intro c2 (And.intro g0 (And.intro g2 (And.intro hc9 (And.intro hri (And.intro hpr (And.intro hhi0 (And.intro hhsub (And.intro h1 (And.intro h2 (And.intro h3 (And.intro h4 hB0))))))))))))))
     clear c0 c1 c2 g0 g2 c9 hc9 hri hpr hi0 hsub hhi0 hhsub h1 h2 h3 h4 hB0 hst hst1 hst2 hno hok1 hb1 hb2 hb3 hb4 hb5 hb6 hj0 hb9 hid0 hbw hbw1 hn1 hx1 hs hc hvl hls hps ecs htv HJ
     go_wp2_with (first
      | ((with_reducible apply Kao);exact HL1.out;exact rfl;clear HL1)
      | ((with_reducible apply Kaq);exact HS1.out _ rfl;exact rfl;exact rfl;clear HS1))
     clear gw
     obtain ⟨c0,c1,c2,g0,g2,c9,hri,hpr,hi0,hsub,h1,h2,h3,h4,hB0⟩:=HY.out
     refine Kag (fun W=>Below (wr.alloc (.cells cs 45)).heap.size (wr.alloc (.cells cs 45)) W) (by kernel_rfl) hB0 (fun hS=>?_)
     refine tk 0 47 (v:=.pointer (some ⟨wr.heap.size,0,none⟩)) rfl rfl (fun W hW=>Kab rfl rfl (fa_nd 0 (by omega) _ W)) ?_;simp only [zP]
     refine tk 1 48 (v:=.int .i64 id) rfl rfl (fun W hW=>Kac rfl rfl (Kaf (w:=W) Tryz.underlying2 rfl (Kad hW (ltOf c0) c0))) ?_;simp only [zP]
     cases b1 with
     | true =>
       refine tk 2 49 (v:=.bool true) rfl rfl (fun W hW=>Kal rfl rfl rfl (h1 W)) ?_;simp only [zP]
       refine tm 3 50 (v:=.bool true) rfl rfl rfl ?_;simp only [zP]
       refine tx 4 51 ?_;simp only [zP]
       refine tx 5 52 ?_;simp only [zP]
       refine tx 6 53 ?_;simp only [zP]
       refine tx 7 54 ?_;simp only [zP]
       refine tx 8 55 ?_;simp only [zP]
       refine tk 9 56 (v:=.bool true) rfl rfl (fun W hW=>rfl) ?_;simp only [zP]
       refine tm 10 57 (v:=.bool true) rfl rfl rfl ?_;simp only [zP]
       refine tx 11 58 ?_;simp only [zP]
       refine tx 12 59 ?_;simp only [zP]
       refine tx 13 60 ?_;simp only [zP]
       refine tx 14 61 ?_;simp only [zP]
       refine tx 15 62 ?_;simp only [zP]
       refine tx 16 63 ?_;simp only [zP]
       refine tx 17 64 ?_;simp only [zP]
       refine tx 18 65 ?_;simp only [zP]
       refine tx 19 66 ?_;simp only [zP]
       refine tx 20 67 ?_;simp only [zP]
       refine tx 21 68 ?_;simp only [zP]
       refine tx 22 69 ?_;simp only [zP]
       refine tx 23 70 ?_;simp only [zP]
       refine tx 24 71 ?_;simp only [zP]
       refine tk 25 72 (v:=.bool true) rfl rfl (fun W hW=>rfl) ?_;simp only [zP]
       refine tm 26 73 (v:=.bool true) rfl rfl rfl ?_;simp only [zP]
       refine tx 27 74 ?_;simp only [zP]
       refine tx 28 75 ?_;simp only [zP]
       refine Kas 29 76 rfl rfl (by kernel_rfl) rfl ?_ (.inr (by assumption));simp only [zP]
       refine tx 30 77 ?_;simp only [zP]
       refine tk 31 78 (v:=.bool true) rfl rfl (fun W hW=>rfl) ?_;simp only [zP]
       refine tm 32 79 (v:=.bool true) rfl rfl rfl ?_;simp only [zP]
       refine tx 33 80 ?_;simp only [zP]
       refine tx 34 81 ?_;simp only [zP]
       refine Kas 35 82 rfl rfl (by kernel_rfl) rfl ?_ (.inr (by assumption));simp only [zP]
       refine tx 36 83 ?_;simp only [zP]
       refine tk 37 84 (v:=.bool true) rfl rfl (fun W hW=>rfl) ?_;simp only [zP]
       refine done (by kernel_rfl) ?_ _
       have HB:=yh (Kaa HB1.out hS)
       clear hS c0 c1 c2 g0 g2 c9 hri hpr hi0 hsub h1 h2 h3 h4 hB0 HY 
       go_wp2
       go_ret
       exact ⟨Kak (HALL.out.2 (by simp)).symm,Kaa HX.out.2.2.1 HB.out⟩
     | false =>
       refine tk 2 49 (v:=.bool false) rfl rfl (fun W hW=>Kal rfl rfl rfl (h1 W)) ?_;simp only [zP]
       refine tm 3 50 (v:=.bool false) rfl rfl rfl ?_;simp only [zP]
       refine tk 4 51 (v:=.pointer (some ⟨wr.heap.size,0,none⟩)) rfl rfl (fun W hW=>Kab rfl rfl (fa_nd 0 (by omega) _ W)) ?_;simp only [zP]
       refine tk 5 52 (v:=.int .i64 id) rfl rfl (fun W hW=>Kac rfl rfl (Kaf (w:=W) Tryz.underlying2 rfl (Kad hW (ltOf c0) c0))) ?_;simp only [zP]
       refine tk 6 53 (v:=.pointer (some ⟨w.heap.size,2,none⟩)) rfl rfl (fun W hW=>Kab rfl rfl (fa_gr 2 (by omega) _ W)) ?_;simp only [zP]
       refine tk 7 54 (v:=.int .i64 g.nextNode) rfl rfl (fun W hW=>Kac rfl rfl (Kaf (w:=W) Tryz.underlying2 rfl (Kad hW (ltOf g2) g2))) ?_;simp only [zP]
       cases b2 with
       | true =>
         refine tk 8 55 (v:=.bool true) rfl rfl (fun W hW=>Kal rfl rfl rfl (h2 W)) ?_;simp only [zP]
         refine tk 9 56 (v:=.bool true) rfl rfl (fun W hW=>rfl) ?_;simp only [zP]
         refine tm 10 57 (v:=.bool true) rfl rfl rfl ?_;simp only [zP]
         refine tx 11 58 ?_;simp only [zP]
         refine tx 12 59 ?_;simp only [zP]
         refine tx 13 60 ?_;simp only [zP]
         refine tx 14 61 ?_;simp only [zP]
         refine tx 15 62 ?_;simp only [zP]
         refine tx 16 63 ?_;simp only [zP]
         refine tx 17 64 ?_;simp only [zP]
         refine tx 18 65 ?_;simp only [zP]
         refine tx 19 66 ?_;simp only [zP]
         refine tx 20 67 ?_;simp only [zP]
         refine tx 21 68 ?_;simp only [zP]
         refine tx 22 69 ?_;simp only [zP]
         refine tx 23 70 ?_;simp only [zP]
         refine tx 24 71 ?_;simp only [zP]
         refine tk 25 72 (v:=.bool true) rfl rfl (fun W hW=>rfl) ?_;simp only [zP]
         refine tm 26 73 (v:=.bool true) rfl rfl rfl ?_;simp only [zP]
         refine tx 27 74 ?_;simp only [zP]
         refine tx 28 75 ?_;simp only [zP]
         refine Kas 29 76 rfl rfl (by kernel_rfl) rfl ?_ (.inr (by assumption));simp only [zP]
         refine tx 30 77 ?_;simp only [zP]
         refine tk 31 78 (v:=.bool true) rfl rfl (fun W hW=>rfl) ?_;simp only [zP]
         refine tm 32 79 (v:=.bool true) rfl rfl rfl ?_;simp only [zP]
         refine tx 33 80 ?_;simp only [zP]
         refine tx 34 81 ?_;simp only [zP]
         refine Kas 35 82 rfl rfl (by kernel_rfl) rfl ?_ (.inr (by assumption));simp only [zP]
         refine tx 36 83 ?_;simp only [zP]
         refine tk 37 84 (v:=.bool true) rfl rfl (fun W hW=>rfl) ?_;simp only [zP]
         refine done (by kernel_rfl) ?_ _
         have HB:=yh (Kaa HB1.out hS)
         clear hS c0 c1 c2 g0 g2 c9 hri hpr hi0 hsub h1 h2 h3 h4 hB0 HY 
         go_wp2
         go_ret
         exact ⟨Kak (HALL.out.2 (by simp)).symm,Kaa HX.out.2.2.1 HB.out⟩
       | false =>
         refine tk 8 55 (v:=.bool false) rfl rfl (fun W hW=>Kal rfl rfl rfl (h2 W)) ?_;simp only [zP]
         refine tk 9 56 (v:=.bool false) rfl rfl (fun W hW=>rfl) ?_;simp only [zP]
         refine tm 10 57 (v:=.bool false) rfl rfl rfl ?_;simp only [zP]
         refine tm 11 58 (v:=.int .i64 (j : Int)) rfl rfl rfl ?_;simp only [zP]
         cases b3 with
         | true =>
           have c9:=c9 rfl
           have hi0:=hi0 rfl
           have hsub:=hsub rfl
           refine tk 12 59 (v:=.bool true) rfl rfl (fun W hW=>Kal rfl rfl rfl (h3 W)) ?_;simp only [zP]
           refine tm 13 60 (v:=.bool true) rfl rfl rfl ?_;simp only [zP]
           refine tk 14 61 (v:=.pointer (some ⟨w.heap.size,0,none⟩)) rfl rfl (fun W hW=>Kab rfl rfl (fa_gr 0 (by omega) _ W)) ?_;simp only [zP]
           refine tk 15 62 (v:=.slice (some ⟨bk,ok,none⟩) g.nodes.length cn) rfl rfl (fun W hW=>Kac rfl rfl (Kaf (w:=W) Tryz.underlying22 rfl (Kad hW (ltOf g0) g0))) ?_;simp only [zP]
           refine tm 16 63 (v:=.int .i64 (j : Int)) rfl rfl rfl ?_;simp only [zP]
           refine tk 17 64 (v:=.int .i64 ((j - 1 : Nat) : Int)) rfl rfl (fun W hW=>Kal rfl rfl rfl (hsub W)) ?_;simp only [zP]
           refine tk 18 65 (v:=.pointer (some ⟨bk,ok + (j - 1) * 3,none⟩)) rfl rfl (fun W hW=>Kai rfl rfl rfl (hi0 W)) ?_;simp only [zP]
           refine tk 19 66 (v:=.pointer (some ⟨bk,ok + (j - 1) * 3,none⟩)) rfl rfl (fun W hW=>Kab rfl rfl (fa_ndO _ _ W)) ?_;simp only [zP]
           refine tk 20 67 (v:=.int .i64 id0) rfl rfl (fun W hW=>Kac rfl rfl (Kaf (w:=W) Tryz.underlying2 rfl (Kad hW (ltOf c9) c9))) ?_;simp only [zP]
           refine tk 21 68 (v:=.pointer (some ⟨wr.heap.size,0,none⟩)) rfl rfl (fun W hW=>Kab rfl rfl (fa_nd 0 (by omega) _ W)) ?_;simp only [zP]
           refine tk 22 69 (v:=.int .i64 id) rfl rfl (fun W hW=>Kac rfl rfl (Kaf (w:=W) Tryz.underlying2 rfl (Kad hW (ltOf c0) c0))) ?_;simp only [zP]
           cases b4 with
           | true =>
             refine tk 23 70 (v:=.bool true) rfl rfl (fun W hW=>Kal rfl rfl rfl (h4 W)) ?_;simp only [zP]
             refine tk 24 71 (v:=.bool true) rfl rfl (fun W hW=>rfl) ?_;simp only [zP]
             refine tk 25 72 (v:=.bool true) rfl rfl (fun W hW=>rfl) ?_;simp only [zP]
             refine tm 26 73 (v:=.bool true) rfl rfl rfl ?_;simp only [zP]
             refine tx 27 74 ?_;simp only [zP]
             refine tx 28 75 ?_;simp only [zP]
             refine Kas 29 76 rfl rfl (by kernel_rfl) rfl ?_ (.inr (by assumption));simp only [zP]
             refine tx 30 77 ?_;simp only [zP]
             refine tk 31 78 (v:=.bool true) rfl rfl (fun W hW=>rfl) ?_;simp only [zP]
             refine tm 32 79 (v:=.bool true) rfl rfl rfl ?_;simp only [zP]
             refine tx 33 80 ?_;simp only [zP]
             refine tx 34 81 ?_;simp only [zP]
             refine Kas 35 82 rfl rfl (by kernel_rfl) rfl ?_ (.inr (by assumption));simp only [zP]
             refine tx 36 83 ?_;simp only [zP]
             refine tk 37 84 (v:=.bool true) rfl rfl (fun W hW=>rfl) ?_;simp only [zP]
             refine done (by kernel_rfl) ?_ _
             have HB:=yh (Kaa HB1.out hS)
             clear hS c0 c1 c2 g0 g2 c9 hri hpr hi0 hsub h1 h2 h3 h4 hB0 HY 
             go_wp2
             go_ret
             exact ⟨Kak (HALL.out.2 (by simp)).symm,Kaa HX.out.2.2.1 HB.out⟩
           | false =>
             refine tk 23 70 (v:=.bool false) rfl rfl (fun W hW=>Kal rfl rfl rfl (h4 W)) ?_;simp only [zP]
             refine tk 24 71 (v:=.bool false) rfl rfl (fun W hW=>rfl) ?_;simp only [zP]
             refine tk 25 72 (v:=.bool false) rfl rfl (fun W hW=>rfl) ?_;simp only [zP]
             refine tm 26 73 (v:=.bool false) rfl rfl rfl ?_;simp only [zP]
             refine tk 27 74 (v:=.pointer (some ⟨wr.heap.size,1,none⟩)) rfl rfl (fun W hW=>Kab rfl rfl (fa_nd 1 (by omega) _ W)) ?_;simp only [zP]
             refine tk 28 75 (v:=.slice pl nl cl) rfl rfl (fun W hW=>Kac rfl rfl (Kaf (w:=W) Tryz.underlying26 rfl (Kad hW (ltOf c1) c1))) ?_;simp only [zP]
             cases b5 with
             | true =>
               refine Kan 29 76 rfl rfl (by kernel_rfl) rfl (Kam [.slice pl nl cl] rfl rfl Tryz.func33 (by kernel_rfl) (by kernel_rfl)) ?_
               refine (hri _ hS).mono ?_
               rintro e W29 ⟨rfl,hb29⟩
               have hS29:=Kaa hS hb29
               refine ⟨_,rfl,.inr hS29,?_⟩;simp only [zP]
               refine tk 30 77 (v:=.bool false) rfl rfl (fun W hW=>Kap (b:=true) rfl rfl) ?_;simp only [zP]
               refine tk 31 78 (v:=.bool false) rfl rfl (fun W hW=>rfl) ?_;simp only [zP]
               refine tm 32 79 (v:=.bool false) rfl rfl rfl ?_;simp only [zP]
               refine tk 33 80 (v:=.pointer (some ⟨wr.heap.size,2,none⟩)) rfl rfl (fun W hW=>Kab rfl rfl (fa_nd 2 (by omega) _ W)) ?_;simp only [zP]
               refine tk 34 81 (v:=.slice pp np cp) rfl rfl (fun W hW=>Kac rfl rfl (Kaf (w:=W) Tryz.underlying27 rfl (Kad hW (ltOf c2) c2))) ?_;simp only [zP]
               cases b6 with
               | true =>
                 refine Kan 35 82 rfl rfl (by kernel_rfl) rfl (Kam [.slice pp np cp] rfl rfl Tryz.func34 (by kernel_rfl) (by kernel_rfl)) ?_
                 refine (hpr _ hS29).mono ?_
                 rintro e W35 ⟨rfl,hb35⟩
                 have hS35:=Kaa hS29 hb35
                 refine ⟨_,rfl,.inr hS35,?_⟩;simp only [zP]
                 refine tk 36 83 (v:=.bool false) rfl rfl (fun W hW=>Kap (b:=true) rfl rfl) ?_;simp only [zP]
                 refine tk 37 84 (v:=.bool false) rfl rfl (fun W hW=>rfl) ?_;simp only [zP]
                 refine done (by kernel_rfl) ?_ _
                 have HB:=yh (Kaa HB1.out hS35)
                 clear hS hS29 hb29 hS35 hb35 c0 c1 c2 g0 g2 c9 hri hpr hi0 hsub h1 h2 h3 h4 hB0 HY 
                 go_wp2
                 go_roundw
                 case rel=>exact ⟨j + 1,hlt1,by go_num,yh ⟨HALL.out.1 rfl,HB.out⟩⟩
                 case measure=>simp [intOf];omega
               | false =>
                 refine Kan 35 82 rfl rfl (by kernel_rfl) rfl (Kam [.slice pp np cp] rfl rfl Tryz.func34 (by kernel_rfl) (by kernel_rfl)) ?_
                 refine (hpr _ hS29).mono ?_
                 rintro e W35 ⟨rfl,hb35⟩
                 have hS35:=Kaa hS29 hb35
                 refine ⟨_,rfl,.inr hS35,?_⟩;simp only [zP]
                 refine tk 36 83 (v:=.bool true) rfl rfl (fun W hW=>Kap (b:=false) rfl rfl) ?_;simp only [zP]
                 refine tk 37 84 (v:=.bool true) rfl rfl (fun W hW=>rfl) ?_;simp only [zP]
                 refine done (by kernel_rfl) ?_ _
                 have HB:=yh (Kaa HB1.out hS35)
                 clear hS hS29 hb29 hS35 hb35 c0 c1 c2 g0 g2 c9 hri hpr hi0 hsub h1 h2 h3 h4 hB0 HY 
                 go_wp2
                 go_ret
                 exact ⟨Kak (HALL.out.2 (by simp)).symm,Kaa HX.out.2.2.1 HB.out⟩
             | false =>
               refine Kan 29 76 rfl rfl (by kernel_rfl) rfl (Kam [.slice pl nl cl] rfl rfl Tryz.func33 (by kernel_rfl) (by kernel_rfl)) ?_
               refine (hri _ hS).mono ?_
               rintro e W29 ⟨rfl,hb29⟩
               have hS29:=Kaa hS hb29
               refine ⟨_,rfl,.inr hS29,?_⟩;simp only [zP]
               refine tk 30 77 (v:=.bool true) rfl rfl (fun W hW=>Kap (b:=false) rfl rfl) ?_;simp only [zP]
               refine tk 31 78 (v:=.bool true) rfl rfl (fun W hW=>rfl) ?_;simp only [zP]
               refine tm 32 79 (v:=.bool true) rfl rfl rfl ?_;simp only [zP]
               refine tx 33 80 ?_;simp only [zP]
               refine tx 34 81 ?_;simp only [zP]
               refine Kas 35 82 rfl rfl (by kernel_rfl) rfl ?_ (.inr (by assumption));simp only [zP]
               refine tx 36 83 ?_;simp only [zP]
               refine tk 37 84 (v:=.bool true) rfl rfl (fun W hW=>rfl) ?_;simp only [zP]
               refine done (by kernel_rfl) ?_ _
               have HB:=yh (Kaa HB1.out hS29)
               clear hS hS29 hb29 c0 c1 c2 g0 g2 c9 hri hpr hi0 hsub h1 h2 h3 h4 hB0 HY 
               go_wp2
               go_ret
               exact ⟨Kak (HALL.out.2 (by simp)).symm,Kaa HX.out.2.2.1 HB.out⟩
         | false =>
           refine tk 12 59 (v:=.bool false) rfl rfl (fun W hW=>Kal rfl rfl rfl (h3 W)) ?_;simp only [zP]
           refine tm 13 60 (v:=.bool false) rfl rfl rfl ?_;simp only [zP]
           refine tx 14 61 ?_;simp only [zP]
           refine tx 15 62 ?_;simp only [zP]
           refine tx 16 63 ?_;simp only [zP]
           refine tx 17 64 ?_;simp only [zP]
           refine tx 18 65 ?_;simp only [zP]
           refine tx 19 66 ?_;simp only [zP]
           refine tx 20 67 ?_;simp only [zP]
           refine tx 21 68 ?_;simp only [zP]
           refine tx 22 69 ?_;simp only [zP]
           refine tx 23 70 ?_;simp only [zP]
           refine tk 24 71 (v:=.bool false) rfl rfl (fun W hW=>rfl) ?_;simp only [zP]
           refine tk 25 72 (v:=.bool false) rfl rfl (fun W hW=>rfl) ?_;simp only [zP]
           refine tm 26 73 (v:=.bool false) rfl rfl rfl ?_;simp only [zP]
           refine tk 27 74 (v:=.pointer (some ⟨wr.heap.size,1,none⟩)) rfl rfl (fun W hW=>Kab rfl rfl (fa_nd 1 (by omega) _ W)) ?_;simp only [zP]
           refine tk 28 75 (v:=.slice pl nl cl) rfl rfl (fun W hW=>Kac rfl rfl (Kaf (w:=W) Tryz.underlying26 rfl (Kad hW (ltOf c1) c1))) ?_;simp only [zP]
           cases b5 with
           | true =>
             refine Kan 29 76 rfl rfl (by kernel_rfl) rfl (Kam [.slice pl nl cl] rfl rfl Tryz.func33 (by kernel_rfl) (by kernel_rfl)) ?_
             refine (hri _ hS).mono ?_
             rintro e W29 ⟨rfl,hb29⟩
             have hS29:=Kaa hS hb29
             refine ⟨_,rfl,.inr hS29,?_⟩;simp only [zP]
             refine tk 30 77 (v:=.bool false) rfl rfl (fun W hW=>Kap (b:=true) rfl rfl) ?_;simp only [zP]
             refine tk 31 78 (v:=.bool false) rfl rfl (fun W hW=>rfl) ?_;simp only [zP]
             refine tm 32 79 (v:=.bool false) rfl rfl rfl ?_;simp only [zP]
             refine tk 33 80 (v:=.pointer (some ⟨wr.heap.size,2,none⟩)) rfl rfl (fun W hW=>Kab rfl rfl (fa_nd 2 (by omega) _ W)) ?_;simp only [zP]
             refine tk 34 81 (v:=.slice pp np cp) rfl rfl (fun W hW=>Kac rfl rfl (Kaf (w:=W) Tryz.underlying27 rfl (Kad hW (ltOf c2) c2))) ?_;simp only [zP]
             cases b6 with
             | true =>
               refine Kan 35 82 rfl rfl (by kernel_rfl) rfl (Kam [.slice pp np cp] rfl rfl Tryz.func34 (by kernel_rfl) (by kernel_rfl)) ?_
               refine (hpr _ hS29).mono ?_
               rintro e W35 ⟨rfl,hb35⟩
               have hS35:=Kaa hS29 hb35
               refine ⟨_,rfl,.inr hS35,?_⟩;simp only [zP]
               refine tk 36 83 (v:=.bool false) rfl rfl (fun W hW=>Kap (b:=true) rfl rfl) ?_;simp only [zP]
               refine tk 37 84 (v:=.bool false) rfl rfl (fun W hW=>rfl) ?_;simp only [zP]
               refine done (by kernel_rfl) ?_ _
               have HB:=yh (Kaa HB1.out hS35)
               clear hS hS29 hb29 hS35 hb35 c0 c1 c2 g0 g2 c9 hri hpr hi0 hsub h1 h2 h3 h4 hB0 HY 
               go_wp2
               go_roundw
               case rel=>exact ⟨j + 1,hlt1,by go_num,yh ⟨HALL.out.1 rfl,HB.out⟩⟩
               case measure=>simp [intOf];omega
             | false =>
               refine Kan 35 82 rfl rfl (by kernel_rfl) rfl (Kam [.slice pp np cp] rfl rfl Tryz.func34 (by kernel_rfl) (by kernel_rfl)) ?_
               refine (hpr _ hS29).mono ?_
               rintro e W35 ⟨rfl,hb35⟩
               have hS35:=Kaa hS29 hb35
               refine ⟨_,rfl,.inr hS35,?_⟩;simp only [zP]
               refine tk 36 83 (v:=.bool true) rfl rfl (fun W hW=>Kap (b:=false) rfl rfl) ?_;simp only [zP]
               refine tk 37 84 (v:=.bool true) rfl rfl (fun W hW=>rfl) ?_;simp only [zP]
               refine done (by kernel_rfl) ?_ _
               have HB:=yh (Kaa HB1.out hS35)
               clear hS hS29 hb29 hS35 hb35 c0 c1 c2 g0 g2 c9 hri hpr hi0 hsub h1 h2 h3 h4 hB0 HY 
               go_wp2
               go_ret
               exact ⟨Kak (HALL.out.2 (by simp)).symm,Kaa HX.out.2.2.1 HB.out⟩
           | false =>
             refine Kan 29 76 rfl rfl (by kernel_rfl) rfl (Kam [.slice pl nl cl] rfl rfl Tryz.func33 (by kernel_rfl) (by kernel_rfl)) ?_
             refine (hri _ hS).mono ?_
             rintro e W29 ⟨rfl,hb29⟩
             have hS29:=Kaa hS hb29
             refine ⟨_,rfl,.inr hS29,?_⟩;simp only [zP]
             refine tk 30 77 (v:=.bool true) rfl rfl (fun W hW=>Kap (b:=false) rfl rfl) ?_;simp only [zP]
             refine tk 31 78 (v:=.bool true) rfl rfl (fun W hW=>rfl) ?_;simp only [zP]
             refine tm 32 79 (v:=.bool true) rfl rfl rfl ?_;simp only [zP]
             refine tx 33 80 ?_;simp only [zP]
             refine tx 34 81 ?_;simp only [zP]
             refine Kas 35 82 rfl rfl (by kernel_rfl) rfl ?_ (.inr (by assumption));simp only [zP]
             refine tx 36 83 ?_;simp only [zP]
             refine tk 37 84 (v:=.bool true) rfl rfl (fun W hW=>rfl) ?_;simp only [zP]
             refine done (by kernel_rfl) ?_ _
             have HB:=yh (Kaa HB1.out hS29)
             clear hS hS29 hb29 c0 c1 c2 g0 g2 c9 hri hpr hi0 hsub h1 h2 h3 h4 hB0 HY 
             go_wp2
             go_ret
             exact ⟨Kak (HALL.out.2 (by simp)).symm,Kaa HX.out.2.2.1 HB.out⟩
    ·obtain rfl : j = g.nodes.length:=by omega
     have HN:=yh HJ.out.1
     have HBW:=yh HJ.out.2
     have p0:=Kad HJ.out.2 (ltOf HX.out.2.2.2.2.1) HX.out.2.2.2.2.1
     have q1:=Kad HJ.out.2 (ltOf HX.out.2.2.2.2.2.1) HX.out.2.2.2.2.2.1
     clear HJ
     go_wp2
     clear p0 q1
     go_loopw [5] (fun i wr=>∃ j : Nat,j ≤ g.rels.length ∧ i = .int .i64 (j : Int) ∧ Hid (okRsP g j = true ∧ Below w1.heap.size w1 wr)) (fun i _=>g.rels.length - (intOf i).toNat)
     case atStart=>exact ⟨0,Nat.zero_le _,rfl,yh ⟨rfl,HBW.out⟩⟩
     case round =>
      rename_i wr0 wr
      clear HBW
      obtain ⟨j,hj,rfl,HJ⟩:=hrel
      by_cases hlt : j < g.rels.length
      ·have hlt1:=Nat.succ_le_of_lt hlt
       have hbw : Below w1.heap.size w1 wr:=HJ.out.2
       obtain ⟨bk,ok,cs,rfl,hs,hc,hv⟩:=HX.out.2.2.2.1.get hlt
       have hvl:=hv
       have gw : wr.cell? ⟨w.heap.size,1,none⟩ = some (.slice (some ⟨bk,ok,none⟩) g.rels.length cr):=Kad hbw (ltOf HX.out.2.2.2.2.2.1) HX.out.2.2.2.2.2.1 -- gw
       have hb9 : 0 < j → ∃ id0,w1.cell? ⟨bk,ok + (j - 1) * 5,none⟩ = some (.int .i64 id0) ∧ ∀ hh : j - 1 < g.rels.length,g.rels[j - 1].id = id0:=fun h0=>by
        obtain ⟨bk2,ok2,cs0,e2,hs0,hc0,hv0⟩:=HX.out.2.2.2.1.get (show j - 1 < g.rels.length by omega)
        cases e2
        have hq0 : w1.cell? ⟨bk,ok + (j - 1) * 5,none⟩ = some (.int .i64 (g.rels[j - 1]'(by omega)).id):=by
         obtain ⟨_,_,rfl,_⟩:=hv0
         exact hc0 0 _ rfl
        exact ⟨_,hq0,fun _=>rfl⟩
       obtain ⟨id0,hid0⟩ : ∃ id0,0 < j → w1.cell? ⟨bk,ok + (j - 1) * 5,none⟩ = some (.int .i64 id0) ∧ ∀ hh : j - 1 < g.rels.length,g.rels[j - 1].id = id0:=by
        by_cases h0 : 0 < j
        ·obtain ⟨a,b⟩:=hb9 h0;exact ⟨a,fun _=>b⟩
        ·exact ⟨0,fun h=>absurd h h0⟩
       have hst:=okRsP_step hlt (decide (g.rels[j].id ≤ id0)) (fun h0=>by rw [(hid0 h0).2 (by omega)])
       have hno:=okRsP_no (g:=g) (j:=j + 1)
       have hok1:=HJ.out.1
       rw [hok1,Bool.true_and] at hst
       have htv:=HX.out.2.1.2 _ (List.getElem_mem hlt)
       obtain ⟨pp,cp,ecs,hty,hps⟩:=hv
       have hn1:=Kah (w:=wr) (.cells cs 49)
       have hx1:=heap_alloc_new wr (.cells cs 49)
       have HL1:=yh (StT.load (P:=Tryz.prog) (g:=bk) (o:=ok + j * 5) (W:=wr) Kbb hs fun i u hu=>Kad hbw (ltOf (hc i u hu)) (hc i u hu))
       have HS1:=yh (StT.fresh Kbb hs (Kc5.ones hvl) (W:=wr))
       have hbw1:=Kaa hbw hn1
       have c0 : (wr.alloc (.cells cs 49)).cell? ⟨wr.heap.size,0,none⟩ = some (.int .i64 g.rels[j].id):=Kae (o:=0) hx1 (by rw [ecs];rfl)
       have c1 : (wr.alloc (.cells cs 49)).cell? ⟨wr.heap.size,1,none⟩ = some (.int .i64 g.rels[j].src):=Kae (o:=1) hx1 (by rw [ecs];rfl)
       have c2 : (wr.alloc (.cells cs 49)).cell? ⟨wr.heap.size,2,none⟩ = some (.int .i64 g.rels[j].dst):=Kae (o:=2) hx1 (by rw [ecs];rfl)
       have c3 : (wr.alloc (.cells cs 49)).cell? ⟨wr.heap.size,3,none⟩ = some (.string (strB g.rels[j].type)):=Kae (o:=3) hx1 (by rw [ecs];rfl)
       have c4 : (wr.alloc (.cells cs 49)).cell? ⟨wr.heap.size,4,none⟩ = some (.slice pp g.rels[j].props.length cp):=Kae (o:=4) hx1 (by rw [ecs];rfl)
       have g1 : (wr.alloc (.cells cs 49)).cell? ⟨w.heap.size,1,none⟩ = some (.slice (some ⟨bk,ok,none⟩) g.rels.length cr):=Kad hbw1 (ltOf HX.out.2.2.2.2.2.1) HX.out.2.2.2.2.2.1
       have g3 : (wr.alloc (.cells cs 49)).cell? ⟨w.heap.size,3,none⟩ = some (.int .i64 g.nextRel):=Kad hbw1 (ltOf HX.out.2.2.2.2.2.2.2.1) HX.out.2.2.2.2.2.2.2.1
       have hgx : (wr.alloc (.cells cs 49)).heap[w.heap.size]? = some (.cells xg 25 (0,0)):=Kaj hbw1 (Array.getElem?_eq_some_iff.1 HG.out.1).1 HG.out.1
       have hgl:=(Array.getElem?_eq_some_iff.1 hgx).1
       have hlg : ∀ W : World,W.heap[w.heap.size]? = some (.cells xg 25 (0,0)) → (loadVar 25 ⟨w.heap.size,0,none⟩).run Tryz.prog W = .ok (.agg xg) W:=fun W hW=>Ka5.get (P:=Tryz.prog) HG.out.2.2 hW
       have hfs:=fun W (gg : Below (wr.alloc (.cells cs 49)).heap.size (wr.alloc (.cells cs 49)) W)=>Keq (w:=W) ((HG.out.2.1.below hbw1).below gg) g.rels[j].src
       have hfd:=fun W (gg : Below (wr.alloc (.cells cs 49)).heap.size (wr.alloc (.cells cs 49)) W)=>Keq (w:=W) ((HG.out.2.1.below hbw1).below gg) g.rels[j].dst
       have hf7:=fun W=>lss_0 (Kcj (g.nodes.map NodeD.id) g.rels[j].src) W
       have hf8:=fun W=>lss_0 (Kcj (g.nodes.map NodeD.id) g.rels[j].dst) W
       simp only [hasN_find] at hf7 hf8
       have c9 : 0 < j → (wr.alloc (.cells cs 49)).cell? ⟨bk,ok + (j - 1) * 5,none⟩ = some (.int .i64 id0):=fun h0=>Kad hbw1 (ltOf (hid0 h0).1) (hid0 h0).1
       have hri:=fun W=>refname_any (w:=W) g.rels[j].type hty
       have hpr:=fun W (g : Below (wr.alloc (.cells cs 49)).heap.size (wr.alloc (.cells cs 49)) W)=>refprops_any (w:=W) ((hps.below (fun h=>h.below hbw1) hbw1).below (fun h=>h.below g) g) htv
       have hi0 : 0 < j → ∀ W' : World,(Instr.indexAt 23 (.slice (some ⟨bk,ok,none⟩) g.rels.length cn) (.int .i64 ((j - 1 : Nat) : Int))).run Tryz.prog W' = .ok (.pointer (some ⟨bk,ok + (j - 1) * 5,none⟩)) W':=fun h0 W'=>ia_rel (by omega) W'
       have hsub : 0 < j → ∀ W : World,(binOp .sub 3 (.int .i64 (j : Int)) (.int .i64 1)).run Tryz.prog W = .ok (.int .i64 ((j - 1 : Nat) : Int)) W:=fun h0=>sub_nat h0 (by have:=HX.out.2.2.2.2.2.2.2.2;omega)
       have h1:=fun W=>lss_i g.rels[j].id 0 W
       have h2:=fun W=>geq_i g.rels[j].id g.nextRel W
       have h3:=gtr_nat (j:=j)
       have h4:=fun W=>geq_i id0 g.rels[j].id W
       obtain ⟨b1,hb1⟩ : ∃ b,b = decide (g.rels[j].id < 0):=⟨_,rfl⟩
       obtain ⟨b2,hb2⟩ : ∃ b,b = decide (g.nextRel ≤ g.rels[j].id):=⟨_,rfl⟩
       obtain ⟨b3,hb3⟩ : ∃ b,b = decide (0 < j):=⟨_,rfl⟩
       obtain ⟨b4,hb4⟩ : ∃ b,b = decide (g.rels[j].id ≤ id0):=⟨_,rfl⟩
       obtain ⟨b5,hb5⟩ : ∃ b,b = okNm g.rels[j].type:=⟨_,rfl⟩
       obtain ⟨b6,hb6⟩ : ∃ b,b = okPs g.rels[j].props:=⟨_,rfl⟩
       obtain ⟨b7,hb7⟩ : ∃ b,b = hasN g g.rels[j].src:=⟨_,rfl⟩
       obtain ⟨b8,hb8⟩ : ∃ b,b = hasN g g.rels[j].dst:=⟨_,rfl⟩
       simp only [← hb1,← hb2,← hb3,← hb4,← hb5,← hb6,← hb7,← hb8] at h1 h2 h3 h4 hri hpr hst hf7 hf8
       have hst1 : (!b1 && !b2 && !(b3 && b4) && b5 && b6 && b7 && b8) = true → okRsP g (j + 1) = true:=fun h=>by rw [hst];exact h
       have hst2 : (!b1 && !b2 && !(b3 && b4) && b5 && b6 && b7 && b8) = false → okG g = false:=fun h=>hno (by rw [hst];exact h)
       have HALL:=yh (And.intro hst1 hst2)
       have hj0 : b3 = true → 0 < j:=fun e=>by rw [hb3] at e;simpa using e
       have hc9:=fun e=>c9 (hj0 e)
       have hhi0:=fun e=>hi0 (hj0 e)
       have hhsub:=fun e=>hsub (hj0 e)
       have HB1:=yh hbw1
       have hB0 : Below (wr.alloc (.cells cs 49)).heap.size (wr.alloc (.cells cs 49)) (wr.alloc (.cells cs 49)).drew:=(Below.refl _ _).drew
       generalize g.rels[j].id = id at *
       generalize Kcj (g.nodes.map NodeD.id) g.rels[j].src = fs at *
       generalize Kcj (g.nodes.map NodeD.id) g.rels[j].dst = fd at *
       generalize g.rels[j].src = src at *
       generalize g.rels[j].dst = dst at *
       generalize g.rels[j].type = ty at *
       generalize g.rels[j].props.length = np at *
       have HY:=yh (And.intro c0 (And.intro c1 (And.intro c2 (And.intro c3 (And.intro c4 (And.intro g1 (And.intro g3 (And.intro hgx (And.intro hgl (And.intro hlg (And.intro hfs (And.intro hfd (And.intro hf7 (And.intro hf8 (And.intro hc9 (And.intro hri (And.intro hpr (And.intro hhi0 (And.intro hhsub (And.intro h1 (And.intro h2 (And.intro h3 (And.intro h4 hB0)))))))))))))))))))))))
       clear c0 c1 c2 c3 c4 g1 g3 hgx hgl hlg hfs hfd hf7 hf8 hb7 hb8 hty c9 hc9 hri hpr hi0 hsub hhi0 hhsub h1 h2 h3 h4 hB0 hst hst1 hst2 hno hok1 hb1 hb2 hb3 hb4 hb5 hb6 hj0 hb9 hid0 hbw hbw1 hn1 hx1 hs hc hvl hps ecs htv HJ
       go_wp2_with (first
        | ((with_reducible apply Kao);exact HL1.out;exact rfl;clear HL1)
        | ((with_reducible apply Kaq);exact HS1.out _ rfl;exact rfl;exact rfl;clear HS1))
       clear gw
       obtain ⟨c0,c1,c2,c3,c4,g1,g3,hgx,hgl,hlg,hfs,hfd,hf7,hf8,c9,hri,hpr,hi0,hsub,h1,h2,h3,h4,hB0⟩:=HY.out
       refine Kag (fun W=>Below (wr.alloc (.cells cs 49)).heap.size (wr.alloc (.cells cs 49)) W) (by kernel_rfl) hB0 (fun hS=>?_)
       refine tk 0 97 (v:=.pointer (some ⟨wr.heap.size,0,none⟩)) rfl rfl (fun W hW=>Kab rfl rfl (fa_rl 0 (by omega) _ W)) ?_;simp only [zP]
       refine tk 1 98 (v:=.int .i64 id) rfl rfl (fun W hW=>Kac rfl rfl (Kaf (w:=W) Tryz.underlying2 rfl (Kad hW (ltOf c0) c0))) ?_;simp only [zP]
       cases b1 with
       | true =>
         refine tk 2 99 (v:=.bool true) rfl rfl (fun W hW=>Kal rfl rfl rfl (h1 W)) ?_;simp only [zP]
         refine tm 3 100 (v:=.bool true) rfl rfl rfl ?_;simp only [zP]
         refine tx 4 101 ?_;simp only [zP]
         refine tx 5 102 ?_;simp only [zP]
         refine tx 6 103 ?_;simp only [zP]
         refine tx 7 104 ?_;simp only [zP]
         refine tx 8 105 ?_;simp only [zP]
         refine tk 9 106 (v:=.bool true) rfl rfl (fun W hW=>rfl) ?_;simp only [zP]
         refine tm 10 107 (v:=.bool true) rfl rfl rfl ?_;simp only [zP]
         refine tx 11 108 ?_;simp only [zP]
         refine tx 12 109 ?_;simp only [zP]
         refine tx 13 110 ?_;simp only [zP]
         refine tx 14 111 ?_;simp only [zP]
         refine tx 15 112 ?_;simp only [zP]
         refine tx 16 113 ?_;simp only [zP]
         refine tx 17 114 ?_;simp only [zP]
         refine tx 18 115 ?_;simp only [zP]
         refine tx 19 116 ?_;simp only [zP]
         refine tx 20 117 ?_;simp only [zP]
         refine tx 21 118 ?_;simp only [zP]
         refine tx 22 119 ?_;simp only [zP]
         refine tx 23 120 ?_;simp only [zP]
         refine tx 24 121 ?_;simp only [zP]
         refine tk 25 122 (v:=.bool true) rfl rfl (fun W hW=>rfl) ?_;simp only [zP]
         refine tm 26 123 (v:=.bool true) rfl rfl rfl ?_;simp only [zP]
         refine tx 27 124 ?_;simp only [zP]
         refine tx 28 125 ?_;simp only [zP]
         refine Kas 29 126 rfl rfl (by kernel_rfl) rfl ?_ (.inr (by assumption));simp only [zP]
         refine tx 30 127 ?_;simp only [zP]
         refine tk 31 128 (v:=.bool true) rfl rfl (fun W hW=>rfl) ?_;simp only [zP]
         refine tm 32 129 (v:=.bool true) rfl rfl rfl ?_;simp only [zP]
         refine tx 33 130 ?_;simp only [zP]
         refine tx 34 131 ?_;simp only [zP]
         refine Kas 35 132 rfl rfl (by kernel_rfl) rfl ?_ (.inr (by assumption));simp only [zP]
         refine tx 36 133 ?_;simp only [zP]
         refine tk 37 134 (v:=.bool true) rfl rfl (fun W hW=>rfl) ?_;simp only [zP]
         refine tm 38 135 (v:=.bool true) rfl rfl rfl ?_;simp only [zP]
         refine tx 39 136 ?_;simp only [zP]
         refine tx 40 137 ?_;simp only [zP]
         refine tx 41 138 ?_;simp only [zP]
         refine Kas 42 139 rfl rfl (by kernel_rfl) rfl ?_ (.inr (by assumption));simp only [zP]
         refine tx 43 140 ?_;simp only [zP]
         refine tk 44 141 (v:=.bool true) rfl rfl (fun W hW=>rfl) ?_;simp only [zP]
         refine tm 45 142 (v:=.bool true) rfl rfl rfl ?_;simp only [zP]
         refine tx 46 143 ?_;simp only [zP]
         refine tx 47 144 ?_;simp only [zP]
         refine tx 48 145 ?_;simp only [zP]
         refine Kas 49 146 rfl rfl (by kernel_rfl) rfl ?_ (.inr (by assumption));simp only [zP]
         refine tx 50 147 ?_;simp only [zP]
         refine tk 51 148 (v:=.bool true) rfl rfl (fun W hW=>rfl) ?_;simp only [zP]
         refine done (by kernel_rfl) ?_ _
         have HB:=yh (Kaa HB1.out hS)
         clear hS c0 c1 c2 c3 c4 g1 g3 hgx hgl hlg hfs hfd hf7 hf8 c9 hri hpr hi0 hsub h1 h2 h3 h4 hB0 HY 
         go_wp2
         go_ret
         exact ⟨Kak (HALL.out.2 (by simp)).symm,Kaa HX.out.2.2.1 HB.out⟩
       | false =>
         refine tk 2 99 (v:=.bool false) rfl rfl (fun W hW=>Kal rfl rfl rfl (h1 W)) ?_;simp only [zP]
         refine tm 3 100 (v:=.bool false) rfl rfl rfl ?_;simp only [zP]
         refine tk 4 101 (v:=.pointer (some ⟨wr.heap.size,0,none⟩)) rfl rfl (fun W hW=>Kab rfl rfl (fa_rl 0 (by omega) _ W)) ?_;simp only [zP]
         refine tk 5 102 (v:=.int .i64 id) rfl rfl (fun W hW=>Kac rfl rfl (Kaf (w:=W) Tryz.underlying2 rfl (Kad hW (ltOf c0) c0))) ?_;simp only [zP]
         refine tk 6 103 (v:=.pointer (some ⟨w.heap.size,3,none⟩)) rfl rfl (fun W hW=>Kab rfl rfl (fa_gr 3 (by omega) _ W)) ?_;simp only [zP]
         refine tk 7 104 (v:=.int .i64 g.nextRel) rfl rfl (fun W hW=>Kac rfl rfl (Kaf (w:=W) Tryz.underlying2 rfl (Kad hW (ltOf g3) g3))) ?_;simp only [zP]
         cases b2 with
         | true =>
           refine tk 8 105 (v:=.bool true) rfl rfl (fun W hW=>Kal rfl rfl rfl (h2 W)) ?_;simp only [zP]
           refine tk 9 106 (v:=.bool true) rfl rfl (fun W hW=>rfl) ?_;simp only [zP]
           refine tm 10 107 (v:=.bool true) rfl rfl rfl ?_;simp only [zP]
           refine tx 11 108 ?_;simp only [zP]
           refine tx 12 109 ?_;simp only [zP]
           refine tx 13 110 ?_;simp only [zP]
           refine tx 14 111 ?_;simp only [zP]
           refine tx 15 112 ?_;simp only [zP]
           refine tx 16 113 ?_;simp only [zP]
           refine tx 17 114 ?_;simp only [zP]
           refine tx 18 115 ?_;simp only [zP]
           refine tx 19 116 ?_;simp only [zP]
           refine tx 20 117 ?_;simp only [zP]
           refine tx 21 118 ?_;simp only [zP]
           refine tx 22 119 ?_;simp only [zP]
           refine tx 23 120 ?_;simp only [zP]
           refine tx 24 121 ?_;simp only [zP]
           refine tk 25 122 (v:=.bool true) rfl rfl (fun W hW=>rfl) ?_;simp only [zP]
           refine tm 26 123 (v:=.bool true) rfl rfl rfl ?_;simp only [zP]
           refine tx 27 124 ?_;simp only [zP]
           refine tx 28 125 ?_;simp only [zP]
           refine Kas 29 126 rfl rfl (by kernel_rfl) rfl ?_ (.inr (by assumption));simp only [zP]
           refine tx 30 127 ?_;simp only [zP]
           refine tk 31 128 (v:=.bool true) rfl rfl (fun W hW=>rfl) ?_;simp only [zP]
           refine tm 32 129 (v:=.bool true) rfl rfl rfl ?_;simp only [zP]
           refine tx 33 130 ?_;simp only [zP]
           refine tx 34 131 ?_;simp only [zP]
           refine Kas 35 132 rfl rfl (by kernel_rfl) rfl ?_ (.inr (by assumption));simp only [zP]
           refine tx 36 133 ?_;simp only [zP]
           refine tk 37 134 (v:=.bool true) rfl rfl (fun W hW=>rfl) ?_;simp only [zP]
           refine tm 38 135 (v:=.bool true) rfl rfl rfl ?_;simp only [zP]
           refine tx 39 136 ?_;simp only [zP]
           refine tx 40 137 ?_;simp only [zP]
           refine tx 41 138 ?_;simp only [zP]
           refine Kas 42 139 rfl rfl (by kernel_rfl) rfl ?_ (.inr (by assumption));simp only [zP]
           refine tx 43 140 ?_;simp only [zP]
           refine tk 44 141 (v:=.bool true) rfl rfl (fun W hW=>rfl) ?_;simp only [zP]
           refine tm 45 142 (v:=.bool true) rfl rfl rfl ?_;simp only [zP]
           refine tx 46 143 ?_;simp only [zP]
           refine tx 47 144 ?_;simp only [zP]
           refine tx 48 145 ?_;simp only [zP]
           refine Kas 49 146 rfl rfl (by kernel_rfl) rfl ?_ (.inr (by assumption));simp only [zP]
           refine tx 50 147 ?_;simp only [zP]
           refine tk 51 148 (v:=.bool true) rfl rfl (fun W hW=>rfl) ?_;simp only [zP]
           refine done (by kernel_rfl) ?_ _
           have HB:=yh (Kaa HB1.out hS)
           clear hS c0 c1 c2 c3 c4 g1 g3 hgx hgl hlg hfs hfd hf7 hf8 c9 hri hpr hi0 hsub h1 h2 h3 h4 hB0 HY 
           go_wp2
           go_ret
           exact ⟨Kak (HALL.out.2 (by simp)).symm,Kaa HX.out.2.2.1 HB.out⟩
         | false =>
           refine tk 8 105 (v:=.bool false) rfl rfl (fun W hW=>Kal rfl rfl rfl (h2 W)) ?_;simp only [zP]
           refine tk 9 106 (v:=.bool false) rfl rfl (fun W hW=>rfl) ?_;simp only [zP]
           refine tm 10 107 (v:=.bool false) rfl rfl rfl ?_;simp only [zP]
           refine tm 11 108 (v:=.int .i64 (j : Int)) rfl rfl rfl ?_;simp only [zP]
           cases b3 with
           | true =>
             have c9:=c9 rfl
             have hi0:=hi0 rfl
             have hsub:=hsub rfl
             refine tk 12 109 (v:=.bool true) rfl rfl (fun W hW=>Kal rfl rfl rfl (h3 W)) ?_;simp only [zP]
             refine tm 13 110 (v:=.bool true) rfl rfl rfl ?_;simp only [zP]
             refine tk 14 111 (v:=.pointer (some ⟨w.heap.size,1,none⟩)) rfl rfl (fun W hW=>Kab rfl rfl (fa_gr 1 (by omega) _ W)) ?_;simp only [zP]
             refine tk 15 112 (v:=.slice (some ⟨bk,ok,none⟩) g.rels.length cr) rfl rfl (fun W hW=>Kac rfl rfl (Kaf (w:=W) Tryz.underlying23 rfl (Kad hW (ltOf g1) g1))) ?_;simp only [zP]
             refine tm 16 113 (v:=.int .i64 (j : Int)) rfl rfl rfl ?_;simp only [zP]
             refine tk 17 114 (v:=.int .i64 ((j - 1 : Nat) : Int)) rfl rfl (fun W hW=>Kal rfl rfl rfl (hsub W)) ?_;simp only [zP]
             refine tk 18 115 (v:=.pointer (some ⟨bk,ok + (j - 1) * 5,none⟩)) rfl rfl (fun W hW=>Kai rfl rfl rfl (hi0 W)) ?_;simp only [zP]
             refine tk 19 116 (v:=.pointer (some ⟨bk,ok + (j - 1) * 5,none⟩)) rfl rfl (fun W hW=>Kab rfl rfl (fa_rlO _ _ W)) ?_;simp only [zP]
             refine tk 20 117 (v:=.int .i64 id0) rfl rfl (fun W hW=>Kac rfl rfl (Kaf (w:=W) Tryz.underlying2 rfl (Kad hW (ltOf c9) c9))) ?_;simp only [zP]
             refine tk 21 118 (v:=.pointer (some ⟨wr.heap.size,0,none⟩)) rfl rfl (fun W hW=>Kab rfl rfl (fa_rl 0 (by omega) _ W)) ?_;simp only [zP]
             refine tk 22 119 (v:=.int .i64 id) rfl rfl (fun W hW=>Kac rfl rfl (Kaf (w:=W) Tryz.underlying2 rfl (Kad hW (ltOf c0) c0))) ?_;simp only [zP]
             cases b4 with
             | true =>
               refine tk 23 120 (v:=.bool true) rfl rfl (fun W hW=>Kal rfl rfl rfl (h4 W)) ?_;simp only [zP]
               refine tk 24 121 (v:=.bool true) rfl rfl (fun W hW=>rfl) ?_;simp only [zP]
               refine tk 25 122 (v:=.bool true) rfl rfl (fun W hW=>rfl) ?_;simp only [zP]
               refine tm 26 123 (v:=.bool true) rfl rfl rfl ?_;simp only [zP]
               refine tx 27 124 ?_;simp only [zP]
               refine tx 28 125 ?_;simp only [zP]
               refine Kas 29 126 rfl rfl (by kernel_rfl) rfl ?_ (.inr (by assumption));simp only [zP]
               refine tx 30 127 ?_;simp only [zP]
               refine tk 31 128 (v:=.bool true) rfl rfl (fun W hW=>rfl) ?_;simp only [zP]
               refine tm 32 129 (v:=.bool true) rfl rfl rfl ?_;simp only [zP]
               refine tx 33 130 ?_;simp only [zP]
               refine tx 34 131 ?_;simp only [zP]
               refine Kas 35 132 rfl rfl (by kernel_rfl) rfl ?_ (.inr (by assumption));simp only [zP]
               refine tx 36 133 ?_;simp only [zP]
               refine tk 37 134 (v:=.bool true) rfl rfl (fun W hW=>rfl) ?_;simp only [zP]
               refine tm 38 135 (v:=.bool true) rfl rfl rfl ?_;simp only [zP]
               refine tx 39 136 ?_;simp only [zP]
               refine tx 40 137 ?_;simp only [zP]
               refine tx 41 138 ?_;simp only [zP]
               refine Kas 42 139 rfl rfl (by kernel_rfl) rfl ?_ (.inr (by assumption));simp only [zP]
               refine tx 43 140 ?_;simp only [zP]
               refine tk 44 141 (v:=.bool true) rfl rfl (fun W hW=>rfl) ?_;simp only [zP]
               refine tm 45 142 (v:=.bool true) rfl rfl rfl ?_;simp only [zP]
               refine tx 46 143 ?_;simp only [zP]
               refine tx 47 144 ?_;simp only [zP]
               refine tx 48 145 ?_;simp only [zP]
               refine Kas 49 146 rfl rfl (by kernel_rfl) rfl ?_ (.inr (by assumption));simp only [zP]
               refine tx 50 147 ?_;simp only [zP]
               refine tk 51 148 (v:=.bool true) rfl rfl (fun W hW=>rfl) ?_;simp only [zP]
               refine done (by kernel_rfl) ?_ _
               have HB:=yh (Kaa HB1.out hS)
               clear hS c0 c1 c2 c3 c4 g1 g3 hgx hgl hlg hfs hfd hf7 hf8 c9 hri hpr hi0 hsub h1 h2 h3 h4 hB0 HY 
               go_wp2
               go_ret
               exact ⟨Kak (HALL.out.2 (by simp)).symm,Kaa HX.out.2.2.1 HB.out⟩
             | false =>
               refine tk 23 120 (v:=.bool false) rfl rfl (fun W hW=>Kal rfl rfl rfl (h4 W)) ?_;simp only [zP]
               refine tk 24 121 (v:=.bool false) rfl rfl (fun W hW=>rfl) ?_;simp only [zP]
               refine tk 25 122 (v:=.bool false) rfl rfl (fun W hW=>rfl) ?_;simp only [zP]
               refine tm 26 123 (v:=.bool false) rfl rfl rfl ?_;simp only [zP]
               refine tk 27 124 (v:=.pointer (some ⟨wr.heap.size,3,none⟩)) rfl rfl (fun W hW=>Kab rfl rfl (fa_rl 3 (by omega) _ W)) ?_;simp only [zP]
               refine tk 28 125 (v:=.string (strB ty)) rfl rfl (fun W hW=>Kac rfl rfl (Kaf (w:=W) Tryz.underlying9 rfl (Kad hW (ltOf c3) c3))) ?_;simp only [zP]
               cases b5 with
               | true =>
                 refine Kan 29 126 rfl rfl (by kernel_rfl) rfl (Kam [.string (strB ty)] rfl rfl Tryz.func35 (by kernel_rfl) (by kernel_rfl)) ?_
                 refine (hri _).mono ?_
                 rintro e W29 ⟨rfl,rfl⟩
                 have hS29:=hS
                 refine ⟨_,rfl,.inr hS29,?_⟩;simp only [zP]
                 refine tk 30 127 (v:=.bool false) rfl rfl (fun W hW=>Kap (b:=true) rfl rfl) ?_;simp only [zP]
                 refine tk 31 128 (v:=.bool false) rfl rfl (fun W hW=>rfl) ?_;simp only [zP]
                 refine tm 32 129 (v:=.bool false) rfl rfl rfl ?_;simp only [zP]
                 refine tk 33 130 (v:=.pointer (some ⟨wr.heap.size,4,none⟩)) rfl rfl (fun W hW=>Kab rfl rfl (fa_rl 4 (by omega) _ W)) ?_;simp only [zP]
                 refine tk 34 131 (v:=.slice pp np cp) rfl rfl (fun W hW=>Kac rfl rfl (Kaf (w:=W) Tryz.underlying27 rfl (Kad hW (ltOf c4) c4))) ?_;simp only [zP]
                 cases b6 with
                 | true =>
                   refine Kan 35 132 rfl rfl (by kernel_rfl) rfl (Kam [.slice pp np cp] rfl rfl Tryz.func34 (by kernel_rfl) (by kernel_rfl)) ?_
                   refine (hpr _ hS29).mono ?_
                   rintro e W35 ⟨rfl,hb35⟩
                   have hS35:=Kaa hS29 hb35
                   refine ⟨_,rfl,.inr hS35,?_⟩;simp only [zP]
                   refine tk 36 133 (v:=.bool false) rfl rfl (fun W hW=>Kap (b:=true) rfl rfl) ?_;simp only [zP]
                   refine tk 37 134 (v:=.bool false) rfl rfl (fun W hW=>rfl) ?_;simp only [zP]
                   refine tm 38 135 (v:=.bool false) rfl rfl rfl ?_;simp only [zP]
                   refine tk 39 136 (v:=.agg xg) rfl rfl (fun W hW=>Kac rfl rfl (hlg W (Kaj hW hgl hgx))) ?_;simp only [zP]
                   refine tk 40 137 (v:=.pointer (some ⟨wr.heap.size,1,none⟩)) rfl rfl (fun W hW=>Kab rfl rfl (fa_rl 1 (by omega) _ W)) ?_;simp only [zP]
                   refine tk 41 138 (v:=.int .i64 src) rfl rfl (fun W hW=>Kac rfl rfl (Kaf (w:=W) Tryz.underlying2 rfl (Kad hW (ltOf c1) c1))) ?_;simp only [zP]
                   refine Kan 42 139 rfl rfl (by kernel_rfl) rfl (Kam [.agg xg,.int .i64 src] rfl rfl Tryz.func36 (by kernel_rfl) (by kernel_rfl)) ?_
                   refine (hfs _ hS35).mono ?_
                   rintro e W42 ⟨rfl,hb42⟩
                   have hS42:=Kaa hS35 hb42
                   refine ⟨_,rfl,.inr hS42,?_⟩;simp only [zP]
                   cases b7 with
                   | true =>
                     refine tk 43 140 (v:=.bool false) rfl rfl (fun W hW=>Kal rfl rfl rfl (hf7 W)) ?_;simp only [zP]
                     refine tk 44 141 (v:=.bool false) rfl rfl (fun W hW=>rfl) ?_;simp only [zP]
                     refine tm 45 142 (v:=.bool false) rfl rfl rfl ?_;simp only [zP]
                     refine tk 46 143 (v:=.agg xg) rfl rfl (fun W hW=>Kac rfl rfl (hlg W (Kaj hW hgl hgx))) ?_;simp only [zP]
                     refine tk 47 144 (v:=.pointer (some ⟨wr.heap.size,2,none⟩)) rfl rfl (fun W hW=>Kab rfl rfl (fa_rl 2 (by omega) _ W)) ?_;simp only [zP]
                     refine tk 48 145 (v:=.int .i64 dst) rfl rfl (fun W hW=>Kac rfl rfl (Kaf (w:=W) Tryz.underlying2 rfl (Kad hW (ltOf c2) c2))) ?_;simp only [zP]
                     refine Kan 49 146 rfl rfl (by kernel_rfl) rfl (Kam [.agg xg,.int .i64 dst] rfl rfl Tryz.func36 (by kernel_rfl) (by kernel_rfl)) ?_
                     refine (hfd _ hS42).mono ?_
                     rintro e W49 ⟨rfl,hb49⟩
                     have hS49:=Kaa hS42 hb49
                     refine ⟨_,rfl,.inr hS49,?_⟩;simp only [zP]
                     cases b8 with
                     | true =>
                       refine tk 50 147 (v:=.bool false) rfl rfl (fun W hW=>Kal rfl rfl rfl (hf8 W)) ?_;simp only [zP]
                       refine tk 51 148 (v:=.bool false) rfl rfl (fun W hW=>rfl) ?_;simp only [zP]
                       refine done (by kernel_rfl) ?_ _
                       have HB:=yh (Kaa HB1.out hS49)
                       clear hS hS29 hS35 hb35 hS42 hb42 hS49 hb49 c0 c1 c2 c3 c4 g1 g3 hgx hgl hlg hfs hfd hf7 hf8 c9 hri hpr hi0 hsub h1 h2 h3 h4 hB0 HY 
                       go_wp2
                       go_roundw
                       case rel=>exact ⟨j + 1,hlt1,by go_num,yh ⟨HALL.out.1 rfl,HB.out⟩⟩
                       case measure=>simp [intOf];omega
                     | false =>
                       refine tk 50 147 (v:=.bool true) rfl rfl (fun W hW=>Kal rfl rfl rfl (hf8 W)) ?_;simp only [zP]
                       refine tk 51 148 (v:=.bool true) rfl rfl (fun W hW=>rfl) ?_;simp only [zP]
                       refine done (by kernel_rfl) ?_ _
                       have HB:=yh (Kaa HB1.out hS49)
                       clear hS hS29 hS35 hb35 hS42 hb42 hS49 hb49 c0 c1 c2 c3 c4 g1 g3 hgx hgl hlg hfs hfd hf7 hf8 c9 hri hpr hi0 hsub h1 h2 h3 h4 hB0 HY 
                       go_wp2
                       go_ret
                       exact ⟨Kak (HALL.out.2 (by simp)).symm,Kaa HX.out.2.2.1 HB.out⟩
                   | false =>
                     refine tk 43 140 (v:=.bool true) rfl rfl (fun W hW=>Kal rfl rfl rfl (hf7 W)) ?_;simp only [zP]
                     refine tk 44 141 (v:=.bool true) rfl rfl (fun W hW=>rfl) ?_;simp only [zP]
                     refine tm 45 142 (v:=.bool true) rfl rfl rfl ?_;simp only [zP]
                     refine tx 46 143 ?_;simp only [zP]
                     refine tx 47 144 ?_;simp only [zP]
                     refine tx 48 145 ?_;simp only [zP]
                     refine Kas 49 146 rfl rfl (by kernel_rfl) rfl ?_ (.inr (by assumption));simp only [zP]
                     refine tx 50 147 ?_;simp only [zP]
                     refine tk 51 148 (v:=.bool true) rfl rfl (fun W hW=>rfl) ?_;simp only [zP]
                     refine done (by kernel_rfl) ?_ _
                     have HB:=yh (Kaa HB1.out hS42)
                     clear hS hS29 hS35 hb35 hS42 hb42 c0 c1 c2 c3 c4 g1 g3 hgx hgl hlg hfs hfd hf7 hf8 c9 hri hpr hi0 hsub h1 h2 h3 h4 hB0 HY 
                     go_wp2
                     go_ret
                     exact ⟨Kak (HALL.out.2 (by simp)).symm,Kaa HX.out.2.2.1 HB.out⟩
                 | false =>
                   refine Kan 35 132 rfl rfl (by kernel_rfl) rfl (Kam [.slice pp np cp] rfl rfl Tryz.func34 (by kernel_rfl) (by kernel_rfl)) ?_
                   refine (hpr _ hS29).mono ?_
                   rintro e W35 ⟨rfl,hb35⟩
                   have hS35:=Kaa hS29 hb35
                   refine ⟨_,rfl,.inr hS35,?_⟩;simp only [zP]
                   refine tk 36 133 (v:=.bool true) rfl rfl (fun W hW=>Kap (b:=false) rfl rfl) ?_;simp only [zP]
                   refine tk 37 134 (v:=.bool true) rfl rfl (fun W hW=>rfl) ?_;simp only [zP]
                   refine tm 38 135 (v:=.bool true) rfl rfl rfl ?_;simp only [zP]
                   refine tx 39 136 ?_;simp only [zP]
                   refine tx 40 137 ?_;simp only [zP]
                   refine tx 41 138 ?_;simp only [zP]
                   refine Kas 42 139 rfl rfl (by kernel_rfl) rfl ?_ (.inr (by assumption));simp only [zP]
                   refine tx 43 140 ?_;simp only [zP]
                   refine tk 44 141 (v:=.bool true) rfl rfl (fun W hW=>rfl) ?_;simp only [zP]
                   refine tm 45 142 (v:=.bool true) rfl rfl rfl ?_;simp only [zP]
                   refine tx 46 143 ?_;simp only [zP]
                   refine tx 47 144 ?_;simp only [zP]
                   refine tx 48 145 ?_;simp only [zP]
                   refine Kas 49 146 rfl rfl (by kernel_rfl) rfl ?_ (.inr (by assumption));simp only [zP]
                   refine tx 50 147 ?_;simp only [zP]
                   refine tk 51 148 (v:=.bool true) rfl rfl (fun W hW=>rfl) ?_;simp only [zP]
                   refine done (by kernel_rfl) ?_ _
                   have HB:=yh (Kaa HB1.out hS35)
                   clear hS hS29 hS35 hb35 c0 c1 c2 c3 c4 g1 g3 hgx hgl hlg hfs hfd hf7 hf8 c9 hri hpr hi0 hsub h1 h2 h3 h4 hB0 HY 
                   go_wp2
                   go_ret
                   exact ⟨Kak (HALL.out.2 (by simp)).symm,Kaa HX.out.2.2.1 HB.out⟩
               | false =>
                 refine Kan 29 126 rfl rfl (by kernel_rfl) rfl (Kam [.string (strB ty)] rfl rfl Tryz.func35 (by kernel_rfl) (by kernel_rfl)) ?_
                 refine (hri _).mono ?_
                 rintro e W29 ⟨rfl,rfl⟩
                 have hS29:=hS
                 refine ⟨_,rfl,.inr hS29,?_⟩;simp only [zP]
                 refine tk 30 127 (v:=.bool true) rfl rfl (fun W hW=>Kap (b:=false) rfl rfl) ?_;simp only [zP]
                 refine tk 31 128 (v:=.bool true) rfl rfl (fun W hW=>rfl) ?_;simp only [zP]
                 refine tm 32 129 (v:=.bool true) rfl rfl rfl ?_;simp only [zP]
                 refine tx 33 130 ?_;simp only [zP]
                 refine tx 34 131 ?_;simp only [zP]
                 refine Kas 35 132 rfl rfl (by kernel_rfl) rfl ?_ (.inr (by assumption));simp only [zP]
                 refine tx 36 133 ?_;simp only [zP]
                 refine tk 37 134 (v:=.bool true) rfl rfl (fun W hW=>rfl) ?_;simp only [zP]
                 refine tm 38 135 (v:=.bool true) rfl rfl rfl ?_;simp only [zP]
                 refine tx 39 136 ?_;simp only [zP]
                 refine tx 40 137 ?_;simp only [zP]
                 refine tx 41 138 ?_;simp only [zP]
                 refine Kas 42 139 rfl rfl (by kernel_rfl) rfl ?_ (.inr (by assumption));simp only [zP]
                 refine tx 43 140 ?_;simp only [zP]
                 refine tk 44 141 (v:=.bool true) rfl rfl (fun W hW=>rfl) ?_;simp only [zP]
                 refine tm 45 142 (v:=.bool true) rfl rfl rfl ?_;simp only [zP]
                 refine tx 46 143 ?_;simp only [zP]
                 refine tx 47 144 ?_;simp only [zP]
                 refine tx 48 145 ?_;simp only [zP]
                 refine Kas 49 146 rfl rfl (by kernel_rfl) rfl ?_ (.inr (by assumption));simp only [zP]
                 refine tx 50 147 ?_;simp only [zP]
                 refine tk 51 148 (v:=.bool true) rfl rfl (fun W hW=>rfl) ?_;simp only [zP]
                 refine done (by kernel_rfl) ?_ _
                 have HB:=yh (Kaa HB1.out hS29)
                 clear hS hS29 c0 c1 c2 c3 c4 g1 g3 hgx hgl hlg hfs hfd hf7 hf8 c9 hri hpr hi0 hsub h1 h2 h3 h4 hB0 HY 
                 go_wp2
                 go_ret
                 exact ⟨Kak (HALL.out.2 (by simp)).symm,Kaa HX.out.2.2.1 HB.out⟩
           | false =>
             refine tk 12 109 (v:=.bool false) rfl rfl (fun W hW=>Kal rfl rfl rfl (h3 W)) ?_;simp only [zP]
             refine tm 13 110 (v:=.bool false) rfl rfl rfl ?_;simp only [zP]
             refine tx 14 111 ?_;simp only [zP]
             refine tx 15 112 ?_;simp only [zP]
             refine tx 16 113 ?_;simp only [zP]
             refine tx 17 114 ?_;simp only [zP]
             refine tx 18 115 ?_;simp only [zP]
             refine tx 19 116 ?_;simp only [zP]
             refine tx 20 117 ?_;simp only [zP]
             refine tx 21 118 ?_;simp only [zP]
             refine tx 22 119 ?_;simp only [zP]
             refine tx 23 120 ?_;simp only [zP]
             refine tk 24 121 (v:=.bool false) rfl rfl (fun W hW=>rfl) ?_;simp only [zP]
             refine tk 25 122 (v:=.bool false) rfl rfl (fun W hW=>rfl) ?_;simp only [zP]
             refine tm 26 123 (v:=.bool false) rfl rfl rfl ?_;simp only [zP]
             refine tk 27 124 (v:=.pointer (some ⟨wr.heap.size,3,none⟩)) rfl rfl (fun W hW=>Kab rfl rfl (fa_rl 3 (by omega) _ W)) ?_;simp only [zP]
             refine tk 28 125 (v:=.string (strB ty)) rfl rfl (fun W hW=>Kac rfl rfl (Kaf (w:=W) Tryz.underlying9 rfl (Kad hW (ltOf c3) c3))) ?_;simp only [zP]
             cases b5 with
             | true =>
               refine Kan 29 126 rfl rfl (by kernel_rfl) rfl (Kam [.string (strB ty)] rfl rfl Tryz.func35 (by kernel_rfl) (by kernel_rfl)) ?_
               refine (hri _).mono ?_
               rintro e W29 ⟨rfl,rfl⟩
               have hS29:=hS
               refine ⟨_,rfl,.inr hS29,?_⟩;simp only [zP]
               refine tk 30 127 (v:=.bool false) rfl rfl (fun W hW=>Kap (b:=true) rfl rfl) ?_;simp only [zP]
               refine tk 31 128 (v:=.bool false) rfl rfl (fun W hW=>rfl) ?_;simp only [zP]
               refine tm 32 129 (v:=.bool false) rfl rfl rfl ?_;simp only [zP]
               refine tk 33 130 (v:=.pointer (some ⟨wr.heap.size,4,none⟩)) rfl rfl (fun W hW=>Kab rfl rfl (fa_rl 4 (by omega) _ W)) ?_;simp only [zP]
               refine tk 34 131 (v:=.slice pp np cp) rfl rfl (fun W hW=>Kac rfl rfl (Kaf (w:=W) Tryz.underlying27 rfl (Kad hW (ltOf c4) c4))) ?_;simp only [zP]
               cases b6 with
               | true =>
                 refine Kan 35 132 rfl rfl (by kernel_rfl) rfl (Kam [.slice pp np cp] rfl rfl Tryz.func34 (by kernel_rfl) (by kernel_rfl)) ?_
                 refine (hpr _ hS29).mono ?_
                 rintro e W35 ⟨rfl,hb35⟩
                 have hS35:=Kaa hS29 hb35
                 refine ⟨_,rfl,.inr hS35,?_⟩;simp only [zP]
                 refine tk 36 133 (v:=.bool false) rfl rfl (fun W hW=>Kap (b:=true) rfl rfl) ?_;simp only [zP]
                 refine tk 37 134 (v:=.bool false) rfl rfl (fun W hW=>rfl) ?_;simp only [zP]
                 refine tm 38 135 (v:=.bool false) rfl rfl rfl ?_;simp only [zP]
                 refine tk 39 136 (v:=.agg xg) rfl rfl (fun W hW=>Kac rfl rfl (hlg W (Kaj hW hgl hgx))) ?_;simp only [zP]
                 refine tk 40 137 (v:=.pointer (some ⟨wr.heap.size,1,none⟩)) rfl rfl (fun W hW=>Kab rfl rfl (fa_rl 1 (by omega) _ W)) ?_;simp only [zP]
                 refine tk 41 138 (v:=.int .i64 src) rfl rfl (fun W hW=>Kac rfl rfl (Kaf (w:=W) Tryz.underlying2 rfl (Kad hW (ltOf c1) c1))) ?_;simp only [zP]
                 refine Kan 42 139 rfl rfl (by kernel_rfl) rfl (Kam [.agg xg,.int .i64 src] rfl rfl Tryz.func36 (by kernel_rfl) (by kernel_rfl)) ?_
                 refine (hfs _ hS35).mono ?_
                 rintro e W42 ⟨rfl,hb42⟩
                 have hS42:=Kaa hS35 hb42
                 refine ⟨_,rfl,.inr hS42,?_⟩;simp only [zP]
                 cases b7 with
                 | true =>
                   refine tk 43 140 (v:=.bool false) rfl rfl (fun W hW=>Kal rfl rfl rfl (hf7 W)) ?_;simp only [zP]
                   refine tk 44 141 (v:=.bool false) rfl rfl (fun W hW=>rfl) ?_;simp only [zP]
                   refine tm 45 142 (v:=.bool false) rfl rfl rfl ?_;simp only [zP]
                   refine tk 46 143 (v:=.agg xg) rfl rfl (fun W hW=>Kac rfl rfl (hlg W (Kaj hW hgl hgx))) ?_;simp only [zP]
                   refine tk 47 144 (v:=.pointer (some ⟨wr.heap.size,2,none⟩)) rfl rfl (fun W hW=>Kab rfl rfl (fa_rl 2 (by omega) _ W)) ?_;simp only [zP]
                   refine tk 48 145 (v:=.int .i64 dst) rfl rfl (fun W hW=>Kac rfl rfl (Kaf (w:=W) Tryz.underlying2 rfl (Kad hW (ltOf c2) c2))) ?_;simp only [zP]
                   refine Kan 49 146 rfl rfl (by kernel_rfl) rfl (Kam [.agg xg,.int .i64 dst] rfl rfl Tryz.func36 (by kernel_rfl) (by kernel_rfl)) ?_
                   refine (hfd _ hS42).mono ?_
                   rintro e W49 ⟨rfl,hb49⟩
                   have hS49:=Kaa hS42 hb49
                   refine ⟨_,rfl,.inr hS49,?_⟩;simp only [zP]
                   cases b8 with
                   | true =>
                     refine tk 50 147 (v:=.bool false) rfl rfl (fun W hW=>Kal rfl rfl rfl (hf8 W)) ?_;simp only [zP]
                     refine tk 51 148 (v:=.bool false) rfl rfl (fun W hW=>rfl) ?_;simp only [zP]
                     refine done (by kernel_rfl) ?_ _
                     have HB:=yh (Kaa HB1.out hS49)
                     clear hS hS29 hS35 hb35 hS42 hb42 hS49 hb49 c0 c1 c2 c3 c4 g1 g3 hgx hgl hlg hfs hfd hf7 hf8 c9 hri hpr hi0 hsub h1 h2 h3 h4 hB0 HY 
                     go_wp2
                     go_roundw
                     case rel=>exact ⟨j + 1,hlt1,by go_num,yh ⟨HALL.out.1 rfl,HB.out⟩⟩
                     case measure=>simp [intOf];omega
                   | false =>
                     refine tk 50 147 (v:=.bool true) rfl rfl (fun W hW=>Kal rfl rfl rfl (hf8 W)) ?_;simp only [zP]
                     refine tk 51 148 (v:=.bool true) rfl rfl (fun W hW=>rfl) ?_;simp only [zP]
                     refine done (by kernel_rfl) ?_ _
                     have HB:=yh (Kaa HB1.out hS49)
                     clear hS hS29 hS35 hb35 hS42 hb42 hS49 hb49 c0 c1 c2 c3 c4 g1 g3 hgx hgl hlg hfs hfd hf7 hf8 c9 hri hpr hi0 hsub h1 h2 h3 h4 hB0 HY 
                     go_wp2
                     go_ret
                     exact ⟨Kak (HALL.out.2 (by simp)).symm,Kaa HX.out.2.2.1 HB.out⟩
                 | false =>
                   refine tk 43 140 (v:=.bool true) rfl rfl (fun W hW=>Kal rfl rfl rfl (hf7 W)) ?_;simp only [zP]
                   refine tk 44 141 (v:=.bool true) rfl rfl (fun W hW=>rfl) ?_;simp only [zP]
                   refine tm 45 142 (v:=.bool true) rfl rfl rfl ?_;simp only [zP]
                   refine tx 46 143 ?_;simp only [zP]
                   refine tx 47 144 ?_;simp only [zP]
                   refine tx 48 145 ?_;simp only [zP]
                   refine Kas 49 146 rfl rfl (by kernel_rfl) rfl ?_ (.inr (by assumption));simp only [zP]
                   refine tx 50 147 ?_;simp only [zP]
                   refine tk 51 148 (v:=.bool true) rfl rfl (fun W hW=>rfl) ?_;simp only [zP]
                   refine done (by kernel_rfl) ?_ _
                   have HB:=yh (Kaa HB1.out hS42)
                   clear hS hS29 hS35 hb35 hS42 hb42 c0 c1 c2 c3 c4 g1 g3 hgx hgl hlg hfs hfd hf7 hf8 c9 hri hpr hi0 hsub h1 h2 h3 h4 hB0 HY 
                   go_wp2
                   go_ret
                   exact ⟨Kak (HALL.out.2 (by simp)).symm,Kaa HX.out.2.2.1 HB.out⟩
               | false =>
                 refine Kan 35 132 rfl rfl (by kernel_rfl) rfl (Kam [.slice pp np cp] rfl rfl Tryz.func34 (by kernel_rfl) (by kernel_rfl)) ?_
                 refine (hpr _ hS29).mono ?_
                 rintro e W35 ⟨rfl,hb35⟩
                 have hS35:=Kaa hS29 hb35
                 refine ⟨_,rfl,.inr hS35,?_⟩;simp only [zP]
                 refine tk 36 133 (v:=.bool true) rfl rfl (fun W hW=>Kap (b:=false) rfl rfl) ?_;simp only [zP]
                 refine tk 37 134 (v:=.bool true) rfl rfl (fun W hW=>rfl) ?_;simp only [zP]
                 refine tm 38 135 (v:=.bool true) rfl rfl rfl ?_;simp only [zP]
                 refine tx 39 136 ?_;simp only [zP]
                 refine tx 40 137 ?_;simp only [zP]
                 refine tx 41 138 ?_;simp only [zP]
                 refine Kas 42 139 rfl rfl (by kernel_rfl) rfl ?_ (.inr (by assumption));simp only [zP]
                 refine tx 43 140 ?_;simp only [zP]
                 refine tk 44 141 (v:=.bool true) rfl rfl (fun W hW=>rfl) ?_;simp only [zP]
                 refine tm 45 142 (v:=.bool true) rfl rfl rfl ?_;simp only [zP]
                 refine tx 46 143 ?_;simp only [zP]
                 refine tx 47 144 ?_;simp only [zP]
                 refine tx 48 145 ?_;simp only [zP]
                 refine Kas 49 146 rfl rfl (by kernel_rfl) rfl ?_ (.inr (by assumption));simp only [zP]
                 refine tx 50 147 ?_;simp only [zP]
                 refine tk 51 148 (v:=.bool true) rfl rfl (fun W hW=>rfl) ?_;simp only [zP]
                 refine done (by kernel_rfl) ?_ _
                 have HB:=yh (Kaa HB1.out hS35)
                 clear hS hS29 hS35 hb35 c0 c1 c2 c3 c4 g1 g3 hgx hgl hlg hfs hfd hf7 hf8 c9 hri hpr hi0 hsub h1 h2 h3 h4 hB0 HY 
                 go_wp2
                 go_ret
                 exact ⟨Kak (HALL.out.2 (by simp)).symm,Kaa HX.out.2.2.1 HB.out⟩
             | false =>
               refine Kan 29 126 rfl rfl (by kernel_rfl) rfl (Kam [.string (strB ty)] rfl rfl Tryz.func35 (by kernel_rfl) (by kernel_rfl)) ?_
               refine (hri _).mono ?_
               rintro e W29 ⟨rfl,rfl⟩
               have hS29:=hS
               refine ⟨_,rfl,.inr hS29,?_⟩;simp only [zP]
               refine tk 30 127 (v:=.bool true) rfl rfl (fun W hW=>Kap (b:=false) rfl rfl) ?_;simp only [zP]
               refine tk 31 128 (v:=.bool true) rfl rfl (fun W hW=>rfl) ?_;simp only [zP]
               refine tm 32 129 (v:=.bool true) rfl rfl rfl ?_;simp only [zP]
               refine tx 33 130 ?_;simp only [zP]
               refine tx 34 131 ?_;simp only [zP]
               refine Kas 35 132 rfl rfl (by kernel_rfl) rfl ?_ (.inr (by assumption));simp only [zP]
               refine tx 36 133 ?_;simp only [zP]
               refine tk 37 134 (v:=.bool true) rfl rfl (fun W hW=>rfl) ?_;simp only [zP]
               refine tm 38 135 (v:=.bool true) rfl rfl rfl ?_;simp only [zP]
               refine tx 39 136 ?_;simp only [zP]
               refine tx 40 137 ?_;simp only [zP]
               refine tx 41 138 ?_;simp only [zP]
               refine Kas 42 139 rfl rfl (by kernel_rfl) rfl ?_ (.inr (by assumption));simp only [zP]
               refine tx 43 140 ?_;simp only [zP]
               refine tk 44 141 (v:=.bool true) rfl rfl (fun W hW=>rfl) ?_;simp only [zP]
               refine tm 45 142 (v:=.bool true) rfl rfl rfl ?_;simp only [zP]
               refine tx 46 143 ?_;simp only [zP]
               refine tx 47 144 ?_;simp only [zP]
               refine tx 48 145 ?_;simp only [zP]
               refine Kas 49 146 rfl rfl (by kernel_rfl) rfl ?_ (.inr (by assumption));simp only [zP]
               refine tx 50 147 ?_;simp only [zP]
               refine tk 51 148 (v:=.bool true) rfl rfl (fun W hW=>rfl) ?_;simp only [zP]
               refine done (by kernel_rfl) ?_ _
               have HB:=yh (Kaa HB1.out hS29)
               clear hS hS29 c0 c1 c2 c3 c4 g1 g3 hgx hgl hlg hfs hfd hf7 hf8 c9 hri hpr hi0 hsub h1 h2 h3 h4 hB0 HY 
               go_wp2
               go_ret
               exact ⟨Kak (HALL.out.2 (by simp)).symm,Kaa HX.out.2.2.1 HB.out⟩
      ·obtain rfl : j = g.rels.length:=by omega
       have HF:=yh (okG_all HSZ.out HN.out HJ.out.1)
       have q1:=Kad HJ.out.2 (ltOf HX.out.2.2.2.2.2.1) HX.out.2.2.2.2.2.1
       have HB:=yh (Kaa HX.out.2.2.1 HJ.out.2)
       clear HJ
       go_wp2
       go_ret
       exact ⟨Kak HF.out.symm,HB.out⟩
theorem nes_bytesD (a b : List UInt8) (W : World) : (binOp .neq 9 (.string (strB a)) (.string (strB b))).run Tryz.prog W = .ok (.bool (!decide (a = b))) W:=by
 have e : (strB a = strB b) ↔ a = b:=strB_inj
 by_cases h : a = b
 ·subst h;simp [go_sem]
 ·rw [decide_eq_false h]
  simp [go_sem,Kax,h]
theorem alikeD_any : ∀ (v u : V) (w : World) (x y : Array Value),VRd w v x → VRd w u y →
 Calls Tryz.prog 166 #[.agg x,.agg y] w fun e w'=>e = .returned (.bool (Kdf v u)) ∧ Below w.heap.size w w':=by
 refine V.ind fun k b n t ks l ih=>?_
 intro u w x y hx hy
 cases u with
 | mk k' b' n' t' ks' l' =>
 have hal : Kdf (.mk k b n t ks l) (.mk k' b' n' t' ks' l') = (decide (k = k') && decide (b = b') && decide (n = n') && decide (t = t') && decide (ks = ks') && Kd5 l l'):=by rw [Kdf];rfl
 rw [hal]
 clear hal
 obtain ⟨pk,ck,pl,cl,rfl,htx,hk1,hl1⟩:=Kb8.1 hx
 obtain ⟨qk,dk,ql,dl,rfl,hty,hk2,hl2⟩:=Kb8.1 hy
 clear hx hy
 have z1 : (ks.length : Int) ≤ 140737488355328:=by have:=hk1.2.1.1;omega
 have z2 : (l.length : Int) ≤ 140737488355328:=by have:=hl1.1.2.1.1;omega
 have z3 : (ks'.length : Int) ≤ 140737488355328:=by have:=hk2.2.1.1;omega
 have z4 : (l'.length : Int) ≤ 140737488355328:=by have:=hl2.1.2.1.1;omega
 have hb1:=Kah (w:=w) (.cells #[.int .i64 k,.bool b,.int .i64 n,.string (strB t),.slice pk ks.length ck,.slice pl l.length cl] 31)
 have hb2:=Kah (w:=w.alloc (.cells #[.int .i64 k,.bool b,.int .i64 n,.string (strB t),.slice pk ks.length ck,.slice pl l.length cl] 31)) (.cells #[.int .i64 k',.bool b',.int .i64 n',.string (strB t'),.slice qk ks'.length dk,.slice ql l'.length dl] 31)
 have hbc : Below w.heap.size w ((w.alloc (.cells #[.int .i64 k,.bool b,.int .i64 n,.string (strB t),.slice pk ks.length ck,.slice pl l.length cl] 31)).alloc (.cells #[.int .i64 k',.bool b',.int .i64 n',.string (strB t'),.slice qk ks'.length dk,.slice ql l'.length dl] 31)):=Kaa hb1 hb2
 have hx8:=Kaj hb2 (by simp) (heap_alloc_new w (.cells #[.int .i64 k,.bool b,.int .i64 n,.string (strB t),.slice pk ks.length ck,.slice pl l.length cl] 31))
 have hx9:=heap_alloc_new (w.alloc (.cells #[.int .i64 k,.bool b,.int .i64 n,.string (strB t),.slice pk ks.length ck,.slice pl l.length cl] 31)) (.cells #[.int .i64 k',.bool b',.int .i64 n',.string (strB t'),.slice qk ks'.length dk,.slice ql l'.length dl] 31)
 simp only [World.size_alloc] at hx9
 have HG:=yh (And.intro hx8 hx9)
 have HB:=yh hbc
 have HIH:=yh (fun (a : V) (ha : a ∈ l)=>ih a ha)
 have HK1:=yh (hk1.below hbc)
 have HK2:=yh (hk2.below hbc)
 have HL1:=yh (hl1.below hbc)
 have HL2:=yh (hl2.below hbc)
 clear ih hk1 hk2 hl1 hl2 hb1 hb2 hbc hx8 hx9 htx hty
 by_cases h0 : k = k'
 rotate_left
 ·have f0 : (k != k') = true:=by rw [bne_iff_ne];exact h0
  have HNE:=yh h0
  clear h0
  go_enter Tryz.func166,Tryz.ntmps166
  go_wp2
  go_ret
  exact ⟨by simp [HNE.out],HB.out⟩
 subst h0
 by_cases h1 : b = b'
 rotate_left
 ·have HNE:=yh h1
  cases b <;> cases b' <;> first | exact absurd rfl h1 | skip
  all_goals
   clear h1
   go_enter Tryz.func166,Tryz.ntmps166
   go_wp2
   go_ret
   exact ⟨by simp [HNE.out],HB.out⟩
 subst h1
 by_cases h2 : n = n'
 rotate_left
 ·have f0 : (n != n') = true:=by rw [bne_iff_ne];exact h2
  have HNE:=yh h2
  clear h2
  go_enter Tryz.func166,Tryz.ntmps166
  go_wp2
  go_ret
  exact ⟨by simp [HNE.out],HB.out⟩
 subst h2
 by_cases h3 : t = t'
 rotate_left
 ·have f0 : ((strB t).toList == (strB t').toList) = false:=by rw [Kax,Kax,beq_eq_false_iff_ne];exact h3
  have f1 : ((strB t).toList != (strB t').toList) = true:=by rw [bne,f0];rfl
  have HNE:=yh h3
  clear h3
  generalize strB t = s1 at *
  generalize strB t' = s2 at *
  go_enter Tryz.func166,Tryz.ntmps166
  go_wp2
  go_ret
  exact ⟨by simp [HNE.out],HB.out⟩
 subst h3
 by_cases h4 : ks.length = ks'.length
 rotate_left
 ·have f0 : ((ks.length : Int) != (ks'.length : Int)) = true:=by rw [bne_iff_ne];omega
  have HNE:=yh (show ¬ ks = ks' from fun e=>h4 (by rw [e]))
  clear h4
  go_enter Tryz.func166,Tryz.ntmps166
  go_wp2
  go_ret
  exact ⟨by simp [HNE.out],HB.out⟩
 by_cases h5 : l.length = l'.length
 rotate_left
 ·have f0 : ((l.length : Int) != (l'.length : Int)) = true:=by rw [bne_iff_ne];omega
  have HNE:=yh (show Kd5 l l' = false from by rw [Kdy,all2_ne h5])
  have f1 : ((ks.length : Int) != (ks'.length : Int)) = false:=by rw [h4];simp
  clear h5 h4
  go_enter Tryz.func166,Tryz.ntmps166
  go_wp2
  go_ret
  exact ⟨by simp [HNE.out],HB.out⟩
 have f0 : ((ks.length : Int) != (ks'.length : Int)) = false:=by rw [h4];simp
 have f1 : ((l.length : Int) != (l'.length : Int)) = false:=by rw [h5];simp
 have HLK:=yh h4
 have HLL:=yh h5
 clear h4 h5
 simp only [decide_true,Bool.true_and]
 go_enter Tryz.func166,Tryz.ntmps166
 go_wp2
 generalize hW0 : (w.alloc (.cells #[.int .i64 k,.bool b,.int .i64 n,.string (strB t),.slice pk ks.length ck,.slice pl l.length cl] 31)).alloc (.cells #[.int .i64 k,.bool b,.int .i64 n,.string (strB t),.slice qk ks'.length dk,.slice ql l'.length dl] 31) = W0 at *
 clear hW0
 go_loopw [5] (fun i W=>∃ j : Nat,j ≤ ks.length ∧ i = .int .i64 (j : Int) ∧ Hid (ks.take j = ks'.take j ∧ Below W0.heap.size W0 W)) (fun i _=>ks.length - (intOf i).toNat)
 case atStart=>exact ⟨0,Nat.zero_le _,rfl,yh ⟨by simp,Below.refl _ _⟩⟩
 case round =>
  obtain ⟨j,hj,rfl,HI⟩:=hrel
  obtain ⟨hg8,hg9⟩:=HG.out
  have p4:=Kae (o:=4) (Kaj HI.out.2 (Array.getElem?_eq_some_iff.1 hg8).1 hg8) rfl
  clear hg8 hg9
  by_cases hlt : j < ks.length
  ·have hlt1 : j + 1 ≤ ks.length:=hlt
   have hlt2 : j < ks'.length:=by rw [← HLK.out];exact hlt
   obtain ⟨bk,ok,rfl,q0,_⟩:=HK1.out.get hlt
   obtain ⟨bk',ok',rfl,q1,_⟩:=HK2.out.get hlt2
   have hstep : ks[j] = ks'[j] → ks.take (j + 1) = ks'.take (j + 1):=fun e=>by rw [List.take_succ_eq_append_getElem hlt,List.take_succ_eq_append_getElem hlt2,HI.out.1,e]
   have hdiff : ks[j] ≠ ks'[j] → ks ≠ ks':=fun e e2=>by subst e2;exact e rfl
   have hnes:=nes_bytesD ks[j] ks'[j]
   generalize ks[j] = a1 at *
   generalize ks'[j] = a2 at *
   have hS0 : Below W0.heap.size W0 wr.drew:=HI.out.2.drew
   have hix : ∀ W' : World,(Instr.indexAt 26 (.slice (some ⟨bk,ok,none⟩) ks.length ck) (.int .i64 (j : Int))).run Tryz.prog W' = .ok (.pointer (some ⟨bk,ok + j,none⟩)) W':=by intro W';simp [go_sem,hlt]
   have hiy : ∀ W' : World,(Instr.indexAt 26 (.slice (some ⟨bk',ok',none⟩) ks'.length dk) (.int .i64 (j : Int))).run Tryz.prog W' = .ok (.pointer (some ⟨bk',ok' + j,none⟩)) W':=by intro W';simp [go_sem,hlt2]
   have hf4 : ∀ (g : Nat) (W' : World),(Instr.fieldAt 31 (.pointer (some ⟨g,0,none⟩)) 4).run Tryz.prog W' = .ok (.pointer (some ⟨g,4,none⟩)) W':=by intro g W';simp [go_sem]
   have HX:=yh (And.intro q0 (And.intro q1 (And.intro hstep (And.intro hdiff (And.intro hnes (And.intro hS0 (And.intro hix (And.intro hiy hf4))))))))
   clear q0 q1 hstep hdiff hnes hS0 hix hiy hf4 HI
   go_wp2
   obtain ⟨q0,q1,hstep,hdiff,hnes,hS0,hix,hiy,hf4⟩:=HX.out
   obtain ⟨hg8,hg9⟩:=HG.out
   refine Kag (fun W=>Below W0.heap.size W0 W) (by kernel_rfl) hS0 (fun hS=>?_)
   by_cases he : a1 = a2
   ·have hne : ∀ W,(binOp .neq 9 (.string (strB a1)) (.string (strB a2))).run Tryz.prog W = .ok (.bool false) W:=fun W=>by rw [hnes,decide_eq_true he];rfl
    refine tk 0 58 (v:=.pointer (some ⟨w.heap.size,4,none⟩)) rfl rfl (fun W hW=>Kab rfl rfl (hf4 _ W)) ?_;simp only [zP]
    refine tk 1 59 (v:=.slice (some ⟨bk,ok,none⟩) ks.length ck) rfl rfl (fun W hW=>Kac rfl rfl (Kc0 Tryz.underlying26 rfl hW hg8 rfl)) ?_;simp only [zP]
    refine tm 2 60 (v:=.int .i64 (j : Int)) rfl rfl rfl ?_;simp only [zP]
    refine tk 3 61 (v:=.pointer (some ⟨bk,ok + j,none⟩)) rfl rfl (fun W hW=>Kai rfl rfl rfl (hix W)) ?_;simp only [zP]
    refine tk 4 62 (v:=.string (strB a1)) rfl rfl (fun W hW=>Kac rfl rfl (Kaf Tryz.underlying9 rfl (Kad hW (ltOf q0) q0))) ?_;simp only [zP]
    refine tk 5 63 (v:=.pointer (some ⟨w.heap.size + 1,4,none⟩)) rfl rfl (fun W hW=>Kab rfl rfl (hf4 _ W)) ?_;simp only [zP]
    refine tk 6 64 (v:=.slice (some ⟨bk',ok',none⟩) ks'.length dk) rfl rfl (fun W hW=>Kac rfl rfl (Kc0 Tryz.underlying26 rfl hW hg9 rfl)) ?_;simp only [zP]
    refine tm 7 65 (v:=.int .i64 (j : Int)) rfl rfl rfl ?_;simp only [zP]
    refine tk 8 66 (v:=.pointer (some ⟨bk',ok' + j,none⟩)) rfl rfl (fun W hW=>Kai rfl rfl rfl (hiy W)) ?_;simp only [zP]
    refine tk 9 67 (v:=.string (strB a2)) rfl rfl (fun W hW=>Kac rfl rfl (Kaf Tryz.underlying9 rfl (Kad hW (ltOf q1) q1))) ?_;simp only [zP]
    refine tk 10 68 (v:=.bool false) rfl rfl (fun W hW=>Kcg rfl rfl rfl (hne W)) ?_;simp only [zP]
    refine done (by kernel_rfl) ?_ _
    have HS:=yh (And.intro (hstep he) hS)
    clear q0 q1 hstep hdiff hnes hS0 hix hiy hf4 hg8 hg9 hne hS he HX
    go_wp2
    go_roundw
    case rel=>exact ⟨j + 1,hlt1,by go_num,HS⟩
    case measure=>simp [intOf];omega
   ·have hne : ∀ W,(binOp .neq 9 (.string (strB a1)) (.string (strB a2))).run Tryz.prog W = .ok (.bool true) W:=fun W=>by rw [hnes,decide_eq_false he];rfl
    refine tk 0 58 (v:=.pointer (some ⟨w.heap.size,4,none⟩)) rfl rfl (fun W hW=>Kab rfl rfl (hf4 _ W)) ?_;simp only [zP]
    refine tk 1 59 (v:=.slice (some ⟨bk,ok,none⟩) ks.length ck) rfl rfl (fun W hW=>Kac rfl rfl (Kc0 Tryz.underlying26 rfl hW hg8 rfl)) ?_;simp only [zP]
    refine tm 2 60 (v:=.int .i64 (j : Int)) rfl rfl rfl ?_;simp only [zP]
    refine tk 3 61 (v:=.pointer (some ⟨bk,ok + j,none⟩)) rfl rfl (fun W hW=>Kai rfl rfl rfl (hix W)) ?_;simp only [zP]
    refine tk 4 62 (v:=.string (strB a1)) rfl rfl (fun W hW=>Kac rfl rfl (Kaf Tryz.underlying9 rfl (Kad hW (ltOf q0) q0))) ?_;simp only [zP]
    refine tk 5 63 (v:=.pointer (some ⟨w.heap.size + 1,4,none⟩)) rfl rfl (fun W hW=>Kab rfl rfl (hf4 _ W)) ?_;simp only [zP]
    refine tk 6 64 (v:=.slice (some ⟨bk',ok',none⟩) ks'.length dk) rfl rfl (fun W hW=>Kac rfl rfl (Kc0 Tryz.underlying26 rfl hW hg9 rfl)) ?_;simp only [zP]
    refine tm 7 65 (v:=.int .i64 (j : Int)) rfl rfl rfl ?_;simp only [zP]
    refine tk 8 66 (v:=.pointer (some ⟨bk',ok' + j,none⟩)) rfl rfl (fun W hW=>Kai rfl rfl rfl (hiy W)) ?_;simp only [zP]
    refine tk 9 67 (v:=.string (strB a2)) rfl rfl (fun W hW=>Kac rfl rfl (Kaf Tryz.underlying9 rfl (Kad hW (ltOf q1) q1))) ?_;simp only [zP]
    refine tk 10 68 (v:=.bool true) rfl rfl (fun W hW=>Kcg rfl rfl rfl (hne W)) ?_;simp only [zP]
    refine done (by kernel_rfl) ?_ _
    have HS:=yh (And.intro (hdiff he) hS)
    clear q0 q1 hstep hdiff hnes hS0 hix hiy hf4 hg8 hg9 hne hS he HX
    go_wp2
    go_ret
    exact ⟨by rw [decide_eq_false HS.out.1,Bool.false_and];rfl,Kaa HB.out HS.out.2⟩
  ·obtain rfl : j = ks.length:=by omega
   have HKE:=yh (show ks = ks' from by have h:=HI.out.1;rw [List.take_length,HLK.out,List.take_length] at h;exact h)
   have HW1:=yh HI.out.2
   clear HI
   go_wp2
   go_loopw [6] (fun i W=>∃ j : Nat,j ≤ l.length ∧ i = .int .i64 (j : Int) ∧ Hid ((∀ i (h1 : i < l.length) (h2 : i < l'.length),i < j → Kdf l[i] l'[i] = true) ∧ Below W0.heap.size W0 W)) (fun i _=>l.length - (intOf i).toNat)
   case atStart=>exact ⟨0,Nat.zero_le _,rfl,yh ⟨fun i _ _ h=>by omega,HW1.out⟩⟩
   case round =>
    clear HW1 p4
    obtain ⟨j,hj,rfl,HI⟩:=hrel
    obtain ⟨hg8,hg9⟩:=HG.out
    have p5:=Kae (o:=5) (Kaj HI.out.2 (Array.getElem?_eq_some_iff.1 hg8).1 hg8) rfl
    clear hg8 hg9
    by_cases hlt : j < l.length
    ·have hlt1 : j + 1 ≤ l.length:=hlt
     have hlt2 : j < l'.length:=by rw [← HLL.out];exact hlt
     obtain ⟨bl,ol,cs,rfl,hs,hc,hv⟩:=HL1.out.grd.get hlt
     obtain ⟨bl',ol',ds,rfl,hs2,hc2,hv2⟩:=HL2.out.grd.get hlt2
     have hcall:=fun W (g : Below W0.heap.size W0 W)=>HIH.out l[j] (List.getElem_mem hlt) l'[j] W cs ds (hv.below g) (hv2.below g)
     have hno:=all2_no (f:=Kdf) hlt hlt2
     have hye : Kdf l[j] l'[j] = true → ∀ i (h1 : i < l.length) (h2 : i < l'.length),i < j + 1 → Kdf l[i] l'[i] = true:=fun he i h1 h2 h3=>by
      rcases Nat.lt_or_ge i j with h4 | h4
      ·exact HI.out.1 i h1 h2 h4
      ·have : i = j:=by omega
       subst this;exact he
     generalize Kdf l[j] l'[j] = r at *
     have hS0 : Below W0.heap.size W0 wr.drew:=HI.out.2.drew
     have hix : ∀ W' : World,(Instr.indexAt 29 (.slice (some ⟨bl,ol,none⟩) l.length cl) (.int .i64 (j : Int))).run Tryz.prog W' = .ok (.pointer (some ⟨bl,ol + j * 6,none⟩)) W':=by intro W';simp [go_sem,hlt]
     have hiy : ∀ W' : World,(Instr.indexAt 29 (.slice (some ⟨bl',ol',none⟩) l'.length dl) (.int .i64 (j : Int))).run Tryz.prog W' = .ok (.pointer (some ⟨bl',ol' + j * 6,none⟩)) W':=by intro W';simp [go_sem,hlt2]
     have hf5 : ∀ (g : Nat) (W' : World),(Instr.fieldAt 31 (.pointer (some ⟨g,0,none⟩)) 5).run Tryz.prog W' = .ok (.pointer (some ⟨g,5,none⟩)) W':=by intro g W';simp [go_sem]
     have hlx:=fun W (g : Below W0.heap.size W0 W)=>StT.load (P:=Tryz.prog) (W:=W) (g:=bl) (o:=ol + j * 6) Kds hs fun i u hu=>Kad g (ltOf (hc i u hu)) (hc i u hu)
     have hly:=fun W (g : Below W0.heap.size W0 W)=>StT.load (P:=Tryz.prog) (W:=W) (g:=bl') (o:=ol' + j * 6) Kds hs2 fun i u hu=>Kad g (ltOf (hc2 i u hu)) (hc2 i u hu)
     have HX:=yh (And.intro hcall (And.intro hno (And.intro hye (And.intro hS0 (And.intro hix (And.intro hiy (And.intro hf5 (And.intro hlx hly))))))))
     clear hcall hno hye hS0 hix hiy hf5 hlx hly HI hs hc hv hs2 hc2 hv2
     go_wp2
     obtain ⟨hcall,hno,hye,hS0,hix,hiy,hf5,hlx,hly⟩:=HX.out
     obtain ⟨hg8,hg9⟩:=HG.out
     refine Kag (fun W=>Below W0.heap.size W0 W) (by kernel_rfl) hS0 (fun hS=>?_)
     refine tk 0 76 (v:=.pointer (some ⟨w.heap.size,5,none⟩)) rfl rfl (fun W hW=>Kab rfl rfl (hf5 _ W)) ?_;simp only [zP]
     refine tk 1 77 (v:=.slice (some ⟨bl,ol,none⟩) l.length cl) rfl rfl (fun W hW=>Kac rfl rfl (Kc0 Tryz.underlying29 rfl hW hg8 rfl)) ?_;simp only [zP]
     refine tm 2 78 (v:=.int .i64 (j : Int)) rfl rfl rfl ?_;simp only [zP]
     refine tk 3 79 (v:=.pointer (some ⟨bl,ol + j * 6,none⟩)) rfl rfl (fun W hW=>Kai rfl rfl rfl (hix W)) ?_;simp only [zP]
     refine tk 4 80 (v:=.agg cs) rfl rfl (fun W hW=>Kac rfl rfl (hlx W hW)) ?_;simp only [zP]
     refine tk 5 81 (v:=.pointer (some ⟨w.heap.size + 1,5,none⟩)) rfl rfl (fun W hW=>Kab rfl rfl (hf5 _ W)) ?_;simp only [zP]
     refine tk 6 82 (v:=.slice (some ⟨bl',ol',none⟩) l'.length dl) rfl rfl (fun W hW=>Kac rfl rfl (Kc0 Tryz.underlying29 rfl hW hg9 rfl)) ?_;simp only [zP]
     refine tm 7 83 (v:=.int .i64 (j : Int)) rfl rfl rfl ?_;simp only [zP]
     refine tk 8 84 (v:=.pointer (some ⟨bl',ol' + j * 6,none⟩)) rfl rfl (fun W hW=>Kai rfl rfl rfl (hiy W)) ?_;simp only [zP]
     refine tk 9 85 (v:=.agg ds) rfl rfl (fun W hW=>Kac rfl rfl (hly W hW)) ?_;simp only [zP]
     refine Kan 10 86 rfl rfl (by kernel_rfl) rfl (Kam [.agg cs,.agg ds] rfl rfl Tryz.func166 (by kernel_rfl) (by kernel_rfl)) ?_
     refine (hcall _ hS).mono ?_
     rintro e W8 ⟨rfl,hb8⟩
     have hS8 : Below W0.heap.size W0 W8:=Kaa hS hb8
     refine ⟨_,rfl,.inr hS8,?_⟩;simp only [zP]
     refine tk 11 87 (v:=.bool (!r)) rfl rfl (fun W hW=>Kap rfl rfl) ?_;simp only [zP]
     refine done (by kernel_rfl) ?_ _
     have HS:=yh hS8
     have HF:=yh (And.intro hno hye)
     clear hcall hno hye hS0 hix hiy hf5 hlx hly hg8 hg9 hS hS8 hb8 HX
     cases r
     ·go_wp2
      go_ret
      exact ⟨by rw [Kdy,HF.out.1 (by simp),Bool.and_false];rfl,Kaa HB.out HS.out⟩
     ·go_wp2
      go_roundw
      case rel=>exact ⟨j + 1,hlt1,by go_num,yh ⟨HF.out.2 (by simp),HS.out⟩⟩
      case measure=>simp [intOf];omega
    ·obtain rfl : j = l.length:=by omega
     have HFF:=yh (And.intro (all2_of (f:=Kdf) HLL.out fun i h1 h2=>HI.out.1 i h1 h2 h1) HI.out.2)
     clear HI
     go_wp2
     go_ret
     exact ⟨by rw [decide_eq_true HKE.out,Kdy,HFF.out.1];rfl,Kaa HB.out HFF.out.2⟩
def sameQ (p q : PropD) : Bool:=decide (p.key = q.key) && Kdf p.val q.val
def Kbc (a b : NodeD) : Bool:=decide (a.id = b.id) && decide (a.labels = b.labels) && all2 sameQ a.props b.props
def Kbd (a b : RelD) : Bool:=decide (a.id = b.id) && decide (a.src = b.src) && decide (a.dst = b.dst) && decide (a.type = b.type) && all2 sameQ a.props b.props
def Kdc (a b : GraphD) : Bool:=decide (a.nextNode = b.nextNode) && decide (a.nextRel = b.nextRel) && all2 Kbc a.nodes b.nodes && all2 Kbd a.rels b.rels
theorem sameQ_iff (p q : PropD) : sameQ p q = true ↔ p = q:=by
 obtain ⟨a,b⟩:=p
 obtain ⟨c,d⟩:=q
 unfold sameQ
 simp only [Bool.and_eq_true,decide_eq_true_eq,alikeV_iff,PropD.mk.injEq]
theorem samePsQ_iff (l m : List PropD) : all2 sameQ l m = true ↔ l = m:=all2_eq fun x _ y _=>sameQ_iff x y
theorem sameNQ_iff (a b : NodeD) : Kbc a b = true ↔ a = b:=by
 have:=samePsQ_iff a.props b.props
 unfold Kbc
 obtain ⟨x1,x2,x3⟩:=a
 obtain ⟨y1,y2,y3⟩:=b
 simp only [Bool.and_eq_true,decide_eq_true_eq,NodeD.mk.injEq] at this ⊢
 rw [this,and_assoc]
theorem sameRQ_iff (a b : RelD) : Kbd a b = true ↔ a = b:=by
 have:=samePsQ_iff a.props b.props
 unfold Kbd
 obtain ⟨x1,x2,x3,x4,x5⟩:=a
 obtain ⟨y1,y2,y3,y4,y5⟩:=b
 simp only [Bool.and_eq_true,decide_eq_true_eq,RelD.mk.injEq] at this ⊢
 rw [this,and_assoc,and_assoc,and_assoc]
theorem sameGQ_iff (a b : GraphD) : Kdc a b = true ↔ a = b:=by
 have h1 : all2 Kbc a.nodes b.nodes = true ↔ a.nodes = b.nodes:=all2_eq fun x _ y _=>sameNQ_iff x y
 have h2 : all2 Kbd a.rels b.rels = true ↔ a.rels = b.rels:=all2_eq fun x _ y _=>sameRQ_iff x y
 unfold Kdc
 obtain ⟨x1,x2,x3,x4⟩:=a
 obtain ⟨y1,y2,y3,y4⟩:=b
 simp only [Bool.and_eq_true,decide_eq_true_eq,GraphD.mk.injEq] at h1 h2 ⊢
 rw [h1,h2]
 constructor
 ·rintro ⟨⟨⟨e1,e2⟩,e3⟩,e4⟩;exact ⟨e3,e4,e1,e2⟩
 ·rintro ⟨e1,e2,e3,e4⟩;exact ⟨⟨⟨e3,e4⟩,e1⟩,e2⟩
def AllJ {α : Type} (f : α → α → Bool) (l m : List α) (j : Nat) : Prop:=∀ i (h1 : i < l.length) (h2 : i < m.length),i < j → f l[i] m[i] = true
theorem AllJ.zero {α : Type} (f : α → α → Bool) (l m : List α) : AllJ f l m 0:=fun i _ _ h=>by omega
theorem AllJ.succ {α : Type} {f : α → α → Bool} {l m : List α} {j : Nat} (h : AllJ f l m j) (h1 : j < l.length) (h2 : j < m.length) (he : f l[j] m[j] = true) : AllJ f l m (j + 1):=fun i a b hi=>by
 by_cases e : i = j
 ·subst e;exact he
 ·exact h i a b (by omega)
theorem AllJ.all {α : Type} {f : α → α → Bool} {l m : List α} (h : AllJ f l m l.length) (hl : l.length = m.length) : all2 f l m = true:=all2_of hl fun i h1 h2=>h i h1 h2 h1
def eqT (a b : List UInt8) : Bool:=decide (a = b)
theorem eqTs_iff (l m : List (List UInt8)) : all2 eqT l m = decide (l = m):=by
 have h : all2 eqT l m = true ↔ l = m:=all2_eq fun x _ y _=>by simp [eqT]
 rw [Bool.eq_iff_iff,h,decide_eq_true_iff]
theorem sameTextsD_any {w : World} {p1 p2 : Option Addr} {c1 c2 : Nat} {a b : List (List UInt8)} (ha : RdS w p1 c1 a) (hb : RdS w p2 c2 b) : Calls Tryz.prog 115 #[.slice p1 a.length c1,.slice p2 b.length c2] w fun e w'=>e = .returned (.bool (decide (a = b))) ∧ Below w.heap.size w w':=by
 have z1 : (a.length : Int) ≤ 140737488355328:=by have:=ha.2.1.1;omega
 have z2 : (b.length : Int) ≤ 140737488355328:=by have:=hb.2.1.1;omega
 have H:=yh (And.intro ha hb)
 clear ha hb
 rw [← eqTs_iff]
 by_cases hl : a.length = b.length
 rotate_left
 ·have HF:=yh (all2_ne (f:=eqT) hl)
  have hl2 : ¬ (a.length : Int) = (b.length : Int):=by omega
  have hl3 : ((a.length : Int) == (b.length : Int)) = false:=by rw [beq_eq_false_iff_ne];exact hl2
  generalize a.length = n1 at *
  generalize b.length = n2 at *
  clear hl
  go_enter Tryz.func115,Tryz.ntmps115
  go_wp2
  go_ret
  exact ⟨Kak HF.out.symm,Below.refl _ _⟩
 ·have HL:=yh hl
  have hl2 : (a.length : Int) = (b.length : Int):=by omega
  have hle : (b.length : Int) = (a.length : Int):=hl2.symm
  clear hl hl2
  go_enter Tryz.func115,Tryz.ntmps115
  go_wp2
  clear hle
  go_loopw [5] (fun i W=>∃ j : Nat,j ≤ a.length ∧ i = .int .i64 (j : Int) ∧ Hid (AllJ eqT a b j ∧ Below w.heap.size w W)) (fun i _=>a.length - (intOf i).toNat)
  case atStart=>exact ⟨0,Nat.zero_le _,rfl,yh ⟨AllJ.zero _ _ _,Below.refl _ _⟩⟩
  case round =>
   obtain ⟨j,hj,rfl,HI⟩:=hrel
   by_cases hlt : j < a.length
   ·have hlt1 : j + 1 ≤ a.length:=hlt
    have hltb : j < b.length:=by have:=HL.out;omega
    obtain ⟨b1,o1,rfl,q1,_⟩:=(H.out.1.below HI.out.2).get hlt
    obtain ⟨b2,o2,rfl,q2,_⟩:=(H.out.2.below HI.out.2).get hltb
    have hi1 : ∀ W' : World,(Instr.indexAt 26 (.slice (some ⟨b1,o1,none⟩) a.length c1) (.int .i64 (j : Int))).run Tryz.prog W' = .ok (.pointer (some ⟨b1,o1 + j,none⟩)) W':=fun W'=>ia_text hlt W'
    have hi2 : ∀ W' : World,(Instr.indexAt 26 (.slice (some ⟨b2,o2,none⟩) b.length c2) (.int .i64 (j : Int))).run Tryz.prog W' = .ok (.pointer (some ⟨b2,o2 + j,none⟩)) W':=fun W'=>ia_text hltb W'
    have hne:=nes_bytesD a[j] b[j]
    have hno:=all2_no (f:=eqT) (j:=j) hlt hltb
    have hye:=HI.out.1.succ hlt hltb
    have heq : eqT a[j] b[j] = decide (a[j] = b[j]):=rfl
    rw [heq] at hno hye
    obtain ⟨bb,hbb⟩ : ∃ bb,bb = !decide (a[j] = b[j]):=⟨_,rfl⟩
    have hde : decide (a[j] = b[j]) = !bb:=by rw [hbb];simp
    rw [hde] at hno hye
    simp only [← hbb] at hne
    have HM:=yh (And.intro hno hye)
    have HB1:=yh HI.out.2
    have hB0 : Below wr.heap.size wr wr.drew:=(Below.refl _ wr).drew
    clear heq hde hbb hno hye
    generalize a[j] = s1 at *
    generalize b[j] = s2 at *
    have HX:=yh (And.intro hi1 (And.intro hi2 (And.intro hne (And.intro q1 (And.intro q2 hB0)))))
    clear hi1 hi2 hne q1 q2 hB0 HI
    go_wp2
    obtain ⟨hi1,hi2,hne,q1,q2,hB0⟩:=HX.out
    refine Kag (fun W=>Below wr.heap.size wr W) (by kernel_rfl) hB0 (fun hS=>?_)
    refine tm 0 17 (v:=.slice (some ⟨b1,o1,none⟩) a.length c1) rfl rfl rfl ?_;simp only [zP]
    refine tm 1 18 (v:=.int .i64 (j : Int)) rfl rfl rfl ?_;simp only [zP]
    refine tk 2 19 (v:=.pointer (some ⟨b1,o1 + j,none⟩)) rfl rfl (fun W hW=>Kai rfl rfl rfl (hi1 W)) ?_;simp only [zP]
    refine tk 3 20 (v:=.string (strB s1)) rfl rfl (fun W hW=>Kac rfl rfl (Kaf (w:=W) Tryz.underlying9 rfl (Kad hW (ltOf q1) q1))) ?_;simp only [zP]
    refine tm 4 21 (v:=.slice (some ⟨b2,o2,none⟩) b.length c2) rfl rfl rfl ?_;simp only [zP]
    refine tm 5 22 (v:=.int .i64 (j : Int)) rfl rfl rfl ?_;simp only [zP]
    refine tk 6 23 (v:=.pointer (some ⟨b2,o2 + j,none⟩)) rfl rfl (fun W hW=>Kai rfl rfl rfl (hi2 W)) ?_;simp only [zP]
    refine tk 7 24 (v:=.string (strB s2)) rfl rfl (fun W hW=>Kac rfl rfl (Kaf (w:=W) Tryz.underlying9 rfl (Kad hW (ltOf q2) q2))) ?_;simp only [zP]
    refine tk 8 25 (v:=.bool bb) rfl rfl (fun W hW=>Kcg rfl rfl rfl (hne W)) ?_;simp only [zP]
    refine done (by kernel_rfl) ?_ _
    have HB:=yh (Kaa HB1.out hS)
    clear hi1 hi2 hne q1 q2 hB0 hS HX
    cases bb with
    | true =>
      go_wp2
      go_ret
      exact ⟨Kak (HM.out.1 rfl).symm,HB.out⟩
    | false =>
      go_wp2
      go_roundw
      case rel=>exact ⟨j + 1,hlt1,by go_num,yh ⟨HM.out.2 rfl,HB.out⟩⟩
      case measure=>simp [intOf];omega
   ·obtain rfl : j = a.length:=by omega
    have HF:=yh (HI.out.1.all HL.out)
    have HB:=yh HI.out.2
    clear HI
    go_wp2
    go_ret
    exact ⟨Kak HF.out.symm,HB.out⟩
theorem samePropsD_any {w : World} {p1 p2 : Option Addr} {c1 c2 : Nat} {a b : List PropD} (ha : GRd PRd 7 w p1 c1 a) (hb : GRd PRd 7 w p2 c2 b) : Calls Tryz.prog 116 #[.slice p1 a.length c1,.slice p2 b.length c2] w fun e w'=>e = .returned (.bool (all2 sameQ a b)) ∧ Below w.heap.size w w':=by
 have z1 : (a.length : Int) ≤ 140737488355328:=by have:=ha.1.2.1;omega
 have z2 : (b.length : Int) ≤ 140737488355328:=by have:=hb.1.2.1;omega
 have H:=yh (And.intro ha hb)
 clear ha hb
 by_cases hl : a.length = b.length
 rotate_left
 ·have HF:=yh (all2_ne (f:=sameQ) hl)
  have hl2 : ¬ (a.length : Int) = (b.length : Int):=by omega
  have hl3 : ((a.length : Int) == (b.length : Int)) = false:=by rw [beq_eq_false_iff_ne];exact hl2
  generalize a.length = n1 at *
  generalize b.length = n2 at *
  clear hl
  go_enter Tryz.func116,Tryz.ntmps116
  go_wp2
  go_ret
  exact ⟨Kak HF.out.symm,Below.refl _ _⟩
 ·have HL:=yh hl
  have hl2 : (a.length : Int) = (b.length : Int):=by omega
  have hle : (b.length : Int) = (a.length : Int):=hl2.symm
  clear hl hl2
  go_enter Tryz.func116,Tryz.ntmps116
  go_wp2
  clear hle
  go_loopw [5] (fun i W=>∃ j : Nat,j ≤ a.length ∧ i = .int .i64 (j : Int) ∧ Hid (AllJ sameQ a b j ∧ Below w.heap.size w W)) (fun i _=>a.length - (intOf i).toNat)
  case atStart=>exact ⟨0,Nat.zero_le _,rfl,yh ⟨AllJ.zero _ _ _,Below.refl _ _⟩⟩
  case round =>
   obtain ⟨j,hj,rfl,HI⟩:=hrel
   by_cases hlt : j < a.length
   ·have hlt1 : j + 1 ≤ a.length:=hlt
    have hltb : j < b.length:=by have:=HL.out;omega
    obtain ⟨b1,o1,cs1,rfl,_,hcc1,hv1⟩:=(H.out.1.below (fun h=>h.below HI.out.2) HI.out.2).get hlt
    obtain ⟨b2,o2,cs2,rfl,_,hcc2,hv2⟩:=(H.out.2.below (fun h=>h.below HI.out.2) HI.out.2).get hltb
    obtain ⟨q1,_,y1,hu1,r1⟩:=Kef hv1 hcc1
    obtain ⟨q2,_,y2,hu2,r2⟩:=Kef hv2 hcc2
    have hy1:=Kdv.size hu1
    have hy2:=Kdv.size hu2
    have hi1 : ∀ W' : World,(Instr.indexAt 27 (.slice (some ⟨b1,o1,none⟩) a.length c1) (.int .i64 (j : Int))).run Tryz.prog W' = .ok (.pointer (some ⟨b1,o1 + j * 7,none⟩)) W':=fun W'=>ia_prop hlt W'
    have hi2 : ∀ W' : World,(Instr.indexAt 27 (.slice (some ⟨b2,o2,none⟩) b.length c2) (.int .i64 (j : Int))).run Tryz.prog W' = .ok (.pointer (some ⟨b2,o2 + j * 7,none⟩)) W':=fun W'=>ia_prop hltb W'
    have hne:=nes_bytesD a[j].key b[j].key
    have hal:=fun W (g : Below wr.heap.size wr W)=>alikeD_any a[j].val b[j].val W y1 y2 (hu1.below g) (hu2.below g)
    have hno:=all2_no (f:=sameQ) (j:=j) hlt hltb
    have hye:=HI.out.1.succ hlt hltb
    have heq : sameQ a[j] b[j] = (decide (a[j].key = b[j].key) && Kdf a[j].val b[j].val):=rfl
    rw [heq] at hno hye
    generalize Kdf a[j].val b[j].val = av at *
    obtain ⟨kb,hkb⟩ : ∃ kb,kb = decide (a[j].key = b[j].key):=⟨_,rfl⟩
    rw [← hkb] at hno hye
    simp only [← hkb] at hne
    have HM:=yh (And.intro hno hye)
    have HB1:=yh HI.out.2
    have hB0 : Below wr.heap.size wr wr.drew:=(Below.refl _ wr).drew
    clear heq hkb hno hye hv1 hv2 hu1 hu2 hcc1 hcc2
    generalize a[j].key = s1 at *
    generalize b[j].key = s2 at *
    have HX:=yh (And.intro hi1 (And.intro hi2 (And.intro hne (And.intro q1 (And.intro q2 (And.intro hal (And.intro r1 (And.intro r2 (And.intro hy1 (And.intro hy2 hB0))))))))))
    clear hi1 hi2 hne q1 q2 hB0 HI hal r1 r2 hy1 hy2
    go_wp2
    obtain ⟨hi1,hi2,hne,q1,q2,hal,r1,r2,hy1,hy2,hB0⟩:=HX.out
    refine Kag (fun W=>Below wr.heap.size wr W) (by kernel_rfl) hB0 (fun hS=>?_)
    cases kb with
    | false =>
      refine tm 0 17 (v:=.slice (some ⟨b1,o1,none⟩) a.length c1) rfl rfl rfl ?_;simp only [zP]
      refine tm 1 18 (v:=.int .i64 (j : Int)) rfl rfl rfl ?_;simp only [zP]
      refine tk 2 19 (v:=.pointer (some ⟨b1,o1 + j * 7,none⟩)) rfl rfl (fun W hW=>Kai rfl rfl rfl (hi1 W)) ?_;simp only [zP]
      refine tk 3 20 (v:=.pointer (some ⟨b1,o1 + j * 7,none⟩)) rfl rfl (fun W hW=>Kab rfl rfl (Ked _ _ W)) ?_;simp only [zP]
      refine tk 4 21 (v:=.string (strB s1)) rfl rfl (fun W hW=>Kac rfl rfl (Kaf (w:=W) Tryz.underlying9 rfl (Kad hW (ltOf q1) q1))) ?_;simp only [zP]
      refine tm 5 22 (v:=.slice (some ⟨b2,o2,none⟩) b.length c2) rfl rfl rfl ?_;simp only [zP]
      refine tm 6 23 (v:=.int .i64 (j : Int)) rfl rfl rfl ?_;simp only [zP]
      refine tk 7 24 (v:=.pointer (some ⟨b2,o2 + j * 7,none⟩)) rfl rfl (fun W hW=>Kai rfl rfl rfl (hi2 W)) ?_;simp only [zP]
      refine tk 8 25 (v:=.pointer (some ⟨b2,o2 + j * 7,none⟩)) rfl rfl (fun W hW=>Kab rfl rfl (Ked _ _ W)) ?_;simp only [zP]
      refine tk 9 26 (v:=.string (strB s2)) rfl rfl (fun W hW=>Kac rfl rfl (Kaf (w:=W) Tryz.underlying9 rfl (Kad hW (ltOf q2) q2))) ?_;simp only [zP]
      refine tk 10 27 (v:=.bool true) rfl rfl (fun W hW=>Kcg rfl rfl rfl (hne W)) ?_;simp only [zP]
      refine tm 11 28 (v:=.bool true) rfl rfl rfl ?_;simp only [zP]
      refine tx 12 29 ?_;simp only [zP]
      refine tx 13 30 ?_;simp only [zP]
      refine tx 14 31 ?_;simp only [zP]
      refine tx 15 32 ?_;simp only [zP]
      refine tx 16 33 ?_;simp only [zP]
      refine tx 17 34 ?_;simp only [zP]
      refine tx 18 35 ?_;simp only [zP]
      refine tx 19 36 ?_;simp only [zP]
      refine tx 20 37 ?_;simp only [zP]
      refine tx 21 38 ?_;simp only [zP]
      refine Kas 22 39 rfl rfl (by kernel_rfl) rfl ?_ (.inr (by assumption));simp only [zP]
      refine tx 23 40 ?_;simp only [zP]
      refine tk 24 41 (v:=.bool true) rfl rfl (fun W hW=>rfl) ?_;simp only [zP]
      refine done (by kernel_rfl) ?_ _
      have HB:=yh (Kaa HB1.out hS)
      clear hi1 hi2 hne q1 q2 hB0 hS HX hal r1 r2 hy1 hy2
      go_wp2
      go_ret
      exact ⟨Kak (HM.out.1 rfl).symm,HB.out⟩
    | true =>
      refine tm 0 17 (v:=.slice (some ⟨b1,o1,none⟩) a.length c1) rfl rfl rfl ?_;simp only [zP]
      refine tm 1 18 (v:=.int .i64 (j : Int)) rfl rfl rfl ?_;simp only [zP]
      refine tk 2 19 (v:=.pointer (some ⟨b1,o1 + j * 7,none⟩)) rfl rfl (fun W hW=>Kai rfl rfl rfl (hi1 W)) ?_;simp only [zP]
      refine tk 3 20 (v:=.pointer (some ⟨b1,o1 + j * 7,none⟩)) rfl rfl (fun W hW=>Kab rfl rfl (Ked _ _ W)) ?_;simp only [zP]
      refine tk 4 21 (v:=.string (strB s1)) rfl rfl (fun W hW=>Kac rfl rfl (Kaf (w:=W) Tryz.underlying9 rfl (Kad hW (ltOf q1) q1))) ?_;simp only [zP]
      refine tm 5 22 (v:=.slice (some ⟨b2,o2,none⟩) b.length c2) rfl rfl rfl ?_;simp only [zP]
      refine tm 6 23 (v:=.int .i64 (j : Int)) rfl rfl rfl ?_;simp only [zP]
      refine tk 7 24 (v:=.pointer (some ⟨b2,o2 + j * 7,none⟩)) rfl rfl (fun W hW=>Kai rfl rfl rfl (hi2 W)) ?_;simp only [zP]
      refine tk 8 25 (v:=.pointer (some ⟨b2,o2 + j * 7,none⟩)) rfl rfl (fun W hW=>Kab rfl rfl (Ked _ _ W)) ?_;simp only [zP]
      refine tk 9 26 (v:=.string (strB s2)) rfl rfl (fun W hW=>Kac rfl rfl (Kaf (w:=W) Tryz.underlying9 rfl (Kad hW (ltOf q2) q2))) ?_;simp only [zP]
      refine tk 10 27 (v:=.bool false) rfl rfl (fun W hW=>Kcg rfl rfl rfl (hne W)) ?_;simp only [zP]
      refine tm 11 28 (v:=.bool false) rfl rfl rfl ?_;simp only [zP]
      refine tm 12 29 (v:=.slice (some ⟨b1,o1,none⟩) a.length c1) rfl rfl rfl ?_;simp only [zP]
      refine tm 13 30 (v:=.int .i64 (j : Int)) rfl rfl rfl ?_;simp only [zP]
      refine tk 14 31 (v:=.pointer (some ⟨b1,o1 + j * 7,none⟩)) rfl rfl (fun W hW=>Kai rfl rfl rfl (hi1 W)) ?_;simp only [zP]
      refine tk 15 32 (v:=.pointer (some ⟨b1,o1 + j * 7 + 1,none⟩)) rfl rfl (fun W hW=>Kab rfl rfl (fa_pr1 _ _ W)) ?_;simp only [zP]
      refine tk 16 33 (v:=.agg y1) rfl rfl (fun W hW=>Kac rfl rfl (StT.load (P:=Tryz.prog) (W:=W) Kds hy1 fun i u hu=>Kad hW (ltOf (r1 i u hu)) (r1 i u hu))) ?_;simp only [zP]
      refine tm 17 34 (v:=.slice (some ⟨b2,o2,none⟩) b.length c2) rfl rfl rfl ?_;simp only [zP]
      refine tm 18 35 (v:=.int .i64 (j : Int)) rfl rfl rfl ?_;simp only [zP]
      refine tk 19 36 (v:=.pointer (some ⟨b2,o2 + j * 7,none⟩)) rfl rfl (fun W hW=>Kai rfl rfl rfl (hi2 W)) ?_;simp only [zP]
      refine tk 20 37 (v:=.pointer (some ⟨b2,o2 + j * 7 + 1,none⟩)) rfl rfl (fun W hW=>Kab rfl rfl (fa_pr1 _ _ W)) ?_;simp only [zP]
      refine tk 21 38 (v:=.agg y2) rfl rfl (fun W hW=>Kac rfl rfl (StT.load (P:=Tryz.prog) (W:=W) Kds hy2 fun i u hu=>Kad hW (ltOf (r2 i u hu)) (r2 i u hu))) ?_;simp only [zP]
      refine Kan 22 39 rfl rfl (by kernel_rfl) rfl (Kam [.agg y1,.agg y2] rfl rfl Tryz.func166 (by kernel_rfl) (by kernel_rfl)) ?_
      refine (hal _ hS).mono ?_
      rintro e W22 ⟨rfl,hb22⟩
      have hS22:=Kaa hS hb22
      refine ⟨_,rfl,.inr hS22,?_⟩;simp only [zP]
      refine tk 23 40 (v:=.bool (!av)) rfl rfl (fun W hW=>Kap rfl rfl) ?_;simp only [zP]
      refine tk 24 41 (v:=.bool (!av)) rfl rfl (fun W hW=>rfl) ?_;simp only [zP]
      refine done (by kernel_rfl) ?_ _
      have HB:=yh (Kaa HB1.out hS22)
      clear hi1 hi2 hne q1 q2 hB0 hS HX hal r1 r2 hy1 hy2 hS22 hb22
      cases av with
      | false =>
        go_wp2
        go_ret
        exact ⟨Kak (HM.out.1 rfl).symm,HB.out⟩
      | true =>
        go_wp2
        go_roundw
        case rel=>exact ⟨j + 1,hlt1,by go_num,yh ⟨HM.out.2 rfl,HB.out⟩⟩
        case measure=>simp [intOf];omega
   ·obtain rfl : j = a.length:=by omega
    have HF:=yh (HI.out.1.all HL.out)
    have HB:=yh HI.out.2
    clear HI
    go_wp2
    go_ret
    exact ⟨Kak HF.out.symm,HB.out⟩
theorem Kep {w : World} {a b : NodeD} {x y : Array Value} (ha : NRd w a x) (hb : NRd w b y) : Calls Tryz.prog 54 #[.agg x,.agg y] w fun e w'=>e = .returned (.bool (Kbc a b)) ∧ Below w.heap.size w w':=by
 obtain ⟨pl,cl,pp,cp,rfl,hla,hpa⟩:=ha
 obtain ⟨ql,dl,qp,dp,rfl,hlb,hpb⟩:=hb
 have hb1:=Kah (w:=w) (.cells #[.int .i64 a.id,.slice pl a.labels.length cl,.slice pp a.props.length cp] 45)
 have hb2:=Kah (w:=w.alloc (.cells #[.int .i64 a.id,.slice pl a.labels.length cl,.slice pp a.props.length cp] 45)) (.cells #[.int .i64 b.id,.slice ql b.labels.length dl,.slice qp b.props.length dp] 45)
 have hbc:=Kaa hb1 hb2
 have hx8:=Kaj hb2 (by simp) (heap_alloc_new w (.cells #[.int .i64 a.id,.slice pl a.labels.length cl,.slice pp a.props.length cp] 45))
 have hx9:=heap_alloc_new (w.alloc (.cells #[.int .i64 a.id,.slice pl a.labels.length cl,.slice pp a.props.length cp] 45)) (.cells #[.int .i64 b.id,.slice ql b.labels.length dl,.slice qp b.props.length dp] 45)
 simp only [World.size_alloc] at hx9
 have HT:=yh (sameTextsD_any (hla.below hbc) (hlb.below hbc))
 have HP:=yh (fun W (g : Below ((w.alloc (.cells #[.int .i64 a.id,.slice pl a.labels.length cl,.slice pp a.props.length cp] 45)).alloc (.cells #[.int .i64 b.id,.slice ql b.labels.length dl,.slice qp b.props.length dp] 45)).heap.size ((w.alloc (.cells #[.int .i64 a.id,.slice pl a.labels.length cl,.slice pp a.props.length cp] 45)).alloc (.cells #[.int .i64 b.id,.slice ql b.labels.length dl,.slice qp b.props.length dp] 45)) W)=>samePropsD_any ((hpa.below (fun h=>h.below hbc) hbc).below (fun h=>h.below g) g) ((hpb.below (fun h=>h.below hbc) hbc).below (fun h=>h.below g) g))
 have HX:=yh (And.intro hbc (And.intro hx8 hx9))
 have HF:=yh (show Kbc a b = (decide (a.id = b.id) && decide (a.labels = b.labels) && all2 sameQ a.props b.props) from rfl)
 generalize all2 sameQ a.props b.props = pb at *
 generalize hlb' : decide (a.labels = b.labels) = lb at *
 clear hb1 hb2 hbc hx8 hx9 hla hpa hlb hpb hlb'
 by_cases hi : a.id = b.id
 ·have hie : (a.id == b.id) = true:=by rw [beq_iff_eq];exact hi
  have HI:=yh hi
  clear hi
  cases lb with
  | false =>
    go_enter Tryz.func54,Tryz.ntmps54
    go_wp2_with (first
     | (go_at_call 115;refine HT.out.mono ?_;rintro e W2 ⟨rfl,hb⟩;have HB:=yh (Kaa HX.out.1 hb);clear hb))
    go_ret
    exact ⟨Kak (by rw [HF.out];simp),HB.out⟩
  | true =>
    go_enter Tryz.func54,Tryz.ntmps54
    go_wp2_with (first
     | (go_at_call 115
        (
         refine HT.out.mono ?_
         rintro e W2 ⟨rfl,hb⟩
         have HB:=yh (Kaa HX.out.1 hb)
         have p2 : W2.cell? ⟨w.heap.size,2,none⟩ = some (.slice pp a.props.length cp):=Kae (o:=2) (Kaj hb (by simp;omega) HX.out.2.1) rfl
         have p3 : W2.cell? ⟨w.heap.size + 1,2,none⟩ = some (.slice qp b.props.length dp):=Kae (o:=2) (Kaj hb (by simp) HX.out.2.2) rfl
         have HP2:=yh (HP.out W2 hb)
         clear hb))
     | (go_at_call 116;refine HP2.out.mono ?_;rintro e W3 ⟨rfl,hb⟩;have HB3:=yh (Kaa HB.out hb);clear hb))
    go_ret
    exact ⟨Kak (by rw [HF.out,decide_eq_true HI.out];simp),HB3.out⟩
 ·have hie : (a.id == b.id) = false:=by rw [beq_eq_false_iff_ne];exact hi
  have HI:=yh hi
  clear hi
  go_enter Tryz.func54,Tryz.ntmps54
  go_wp2
  go_ret
  exact ⟨Kak (by rw [HF.out,decide_eq_false HI.out];rfl),HX.out.1⟩
theorem sameRelD_any {w : World} {a b : RelD} {x y : Array Value} (ha : RRd w a x) (hb : RRd w b y) : Calls Tryz.prog 55 #[.agg x,.agg y] w fun e w'=>e = .returned (.bool (Kbd a b)) ∧ Below w.heap.size w w':=by
 obtain ⟨pp,cp,rfl,hta,hpa⟩:=ha
 obtain ⟨qp,dp,rfl,htb,hpb⟩:=hb
 have hb1:=Kah (w:=w) (.cells #[.int .i64 a.id,.int .i64 a.src,.int .i64 a.dst,.string (strB a.type),.slice pp a.props.length cp] 49)
 have hb2:=Kah (w:=w.alloc (.cells #[.int .i64 a.id,.int .i64 a.src,.int .i64 a.dst,.string (strB a.type),.slice pp a.props.length cp] 49)) (.cells #[.int .i64 b.id,.int .i64 b.src,.int .i64 b.dst,.string (strB b.type),.slice qp b.props.length dp] 49)
 have hbc:=Kaa hb1 hb2
 have HP:=yh (samePropsD_any (hpa.below (fun h=>h.below hbc) hbc) (hpb.below (fun h=>h.below hbc) hbc))
 have HX:=yh hbc
 have HF:=yh (show Kbd a b = (decide (a.id = b.id) && decide (a.src = b.src) && decide (a.dst = b.dst) && decide (a.type = b.type) && all2 sameQ a.props b.props) from rfl)
 have hes : ((strB a.type).toList == (strB b.type).toList) = decide (a.type = b.type):=by rw [Kax,Kax,Bool.eq_iff_iff,beq_iff_eq,decide_eq_true_iff]
 generalize all2 sameQ a.props b.props = pb at *
 clear hb1 hb2 hbc hta htb hpa hpb
 by_cases h1 : a.id = b.id
 rotate_left
 ·have f1 : (a.id == b.id) = false:=by rw [beq_eq_false_iff_ne];exact h1
  have HN:=yh h1
  clear h1 hes
  go_enter Tryz.func55,Tryz.ntmps55
  go_wp2
  go_ret
  exact ⟨Kak (by rw [HF.out,decide_eq_false HN.out];rfl),HX.out⟩
 have f1 : (a.id == b.id) = true:=by rw [beq_iff_eq];exact h1
 have H1:=yh h1
 clear h1
 by_cases h2 : a.src = b.src
 rotate_left
 ·have f2 : (a.src == b.src) = false:=by rw [beq_eq_false_iff_ne];exact h2
  have HN:=yh h2
  clear h2 hes
  go_enter Tryz.func55,Tryz.ntmps55
  go_wp2
  go_ret
  exact ⟨Kak (by rw [HF.out,decide_eq_false HN.out];simp),HX.out⟩
 have f2 : (a.src == b.src) = true:=by rw [beq_iff_eq];exact h2
 have H2:=yh h2
 clear h2
 by_cases h3 : a.dst = b.dst
 rotate_left
 ·have f3 : (a.dst == b.dst) = false:=by rw [beq_eq_false_iff_ne];exact h3
  have HN:=yh h3
  clear h3 hes
  go_enter Tryz.func55,Tryz.ntmps55
  go_wp2
  go_ret
  exact ⟨Kak (by rw [HF.out,decide_eq_false HN.out];simp),HX.out⟩
 have f3 : (a.dst == b.dst) = true:=by rw [beq_iff_eq];exact h3
 have H3:=yh h3
 clear h3
 by_cases h4 : a.type = b.type
 rotate_left
 ·rw [decide_eq_false h4] at hes
  have HN:=yh h4
  clear h4
  go_enter Tryz.func55,Tryz.ntmps55
  go_wp2
  go_ret
  exact ⟨Kak (by rw [HF.out,decide_eq_false HN.out];simp),HX.out⟩
 rw [decide_eq_true h4] at hes
 have H4:=yh h4
 clear h4
 go_enter Tryz.func55,Tryz.ntmps55
 go_wp2_with (go_at_call 116;refine HP.out.mono ?_;rintro e W3 ⟨rfl,hb⟩;have HB3:=yh (Kaa HX.out hb);clear hb)
 go_ret
 exact ⟨Kak (by rw [HF.out,decide_eq_true H1.out,decide_eq_true H2.out,decide_eq_true H3.out,decide_eq_true H4.out];rfl),HB3.out⟩
theorem sameRefG_any {w : World} {a b : GraphD} {x y : Array Value} (ha : GrRd w a x) (hb : GrRd w b y) : Calls Tryz.prog 17 #[.agg x,.agg y] w fun e w'=>e = .returned (.bool (Kdc a b)) ∧ Below w.heap.size w w':=by
 obtain ⟨pn,cn,pr,cr,rfl,hna,hra⟩:=ha
 obtain ⟨qn,dn,qr,dr,rfl,hnb,hrb⟩:=hb
 have hb1:=Kah (w:=w) (.cells #[.slice pn a.nodes.length cn,.slice pr a.rels.length cr,.int .i64 a.nextNode,.int .i64 a.nextRel] 25)
 have hb2:=Kah (w:=w.alloc (.cells #[.slice pn a.nodes.length cn,.slice pr a.rels.length cr,.int .i64 a.nextNode,.int .i64 a.nextRel] 25)) (.cells #[.slice qn b.nodes.length dn,.slice qr b.rels.length dr,.int .i64 b.nextNode,.int .i64 b.nextRel] 25)
 have hbc:=Kaa hb1 hb2
 have hx8:=Kaj hb2 (by simp) (heap_alloc_new w (.cells #[.slice pn a.nodes.length cn,.slice pr a.rels.length cr,.int .i64 a.nextNode,.int .i64 a.nextRel] 25))
 have hx9:=heap_alloc_new (w.alloc (.cells #[.slice pn a.nodes.length cn,.slice pr a.rels.length cr,.int .i64 a.nextNode,.int .i64 a.nextRel] 25)) (.cells #[.slice qn b.nodes.length dn,.slice qr b.rels.length dr,.int .i64 b.nextNode,.int .i64 b.nextRel] 25)
 simp only [World.size_alloc] at hx9
 have z1 : (a.nodes.length : Int) ≤ 140737488355328:=by have:=hna.1.2.1;omega
 have z2 : (a.rels.length : Int) ≤ 140737488355328:=by have:=hra.1.2.1;omega
 have z3 : (b.nodes.length : Int) ≤ 140737488355328:=by have:=hnb.1.2.1;omega
 have z4 : (b.rels.length : Int) ≤ 140737488355328:=by have:=hrb.1.2.1;omega
 have HX:=yh hbc
 have hn1:=hna.below (fun h=>h.below hbc) hbc
 have hn2:=hnb.below (fun h=>h.below hbc) hbc
 have hr1:=hra.below (fun h=>h.below hbc) hbc
 have hr2:=hrb.below (fun h=>h.below hbc) hbc
 have HN:=yh (And.intro hn1 hn2)
 have HR:=yh (And.intro hr1 hr2)
 have q1 : ((w.alloc (.cells #[.slice pn a.nodes.length cn,.slice pr a.rels.length cr,.int .i64 a.nextNode,.int .i64 a.nextRel] 25)).alloc (.cells #[.slice qn b.nodes.length dn,.slice qr b.rels.length dr,.int .i64 b.nextNode,.int .i64 b.nextRel] 25)).cell? ⟨w.heap.size,0,none⟩ = some (.slice pn a.nodes.length cn):=Kae (o:=0) hx8 rfl
 have q2 : ((w.alloc (.cells #[.slice pn a.nodes.length cn,.slice pr a.rels.length cr,.int .i64 a.nextNode,.int .i64 a.nextRel] 25)).alloc (.cells #[.slice qn b.nodes.length dn,.slice qr b.rels.length dr,.int .i64 b.nextNode,.int .i64 b.nextRel] 25)).cell? ⟨w.heap.size + 1,0,none⟩ = some (.slice qn b.nodes.length dn):=Kae (o:=0) hx9 rfl
 have q3 : ((w.alloc (.cells #[.slice pn a.nodes.length cn,.slice pr a.rels.length cr,.int .i64 a.nextNode,.int .i64 a.nextRel] 25)).alloc (.cells #[.slice qn b.nodes.length dn,.slice qr b.rels.length dr,.int .i64 b.nextNode,.int .i64 b.nextRel] 25)).cell? ⟨w.heap.size,1,none⟩ = some (.slice pr a.rels.length cr):=Kae (o:=1) hx8 rfl
 have q4 : ((w.alloc (.cells #[.slice pn a.nodes.length cn,.slice pr a.rels.length cr,.int .i64 a.nextNode,.int .i64 a.nextRel] 25)).alloc (.cells #[.slice qn b.nodes.length dn,.slice qr b.rels.length dr,.int .i64 b.nextNode,.int .i64 b.nextRel] 25)).cell? ⟨w.heap.size + 1,1,none⟩ = some (.slice qr b.rels.length dr):=Kae (o:=1) hx9 rfl
 have HC:=yh (And.intro q1 (And.intro q2 (And.intro q3 q4)))
 clear hb1 hb2 hbc hx8 hx9 hna hnb hra hrb hn1 hn2 hr1 hr2 q1 q2 q3 q4
 have HQ1:=yh (fun e : ¬ a.nextNode = b.nextNode=>show Kdc a b = false by unfold Kdc;rw [decide_eq_false e];simp)
 have HQ2:=yh (fun e : ¬ a.nextRel = b.nextRel=>show Kdc a b = false by unfold Kdc;rw [decide_eq_false e];simp)
 have HQ3:=yh (fun e : ¬ a.nodes.length = b.nodes.length=>show Kdc a b = false by unfold Kdc;rw [all2_ne e];simp)
 have HQ4:=yh (fun e : ¬ a.rels.length = b.rels.length=>show Kdc a b = false by unfold Kdc;rw [all2_ne e];simp)
 have HNO:=yh (And.intro (fun e : all2 Kbc a.nodes b.nodes = false=>show Kdc a b = false by unfold Kdc;rw [e];simp) (fun e : all2 Kbd a.rels b.rels = false=>show Kdc a b = false by unfold Kdc;rw [e];simp))
 have HYES:=yh (fun (e3 : a.nextNode = b.nextNode) (e4 : a.nextRel = b.nextRel) (e1 : all2 Kbc a.nodes b.nodes = true) (e2 : all2 Kbd a.rels b.rels = true)=>show Kdc a b = true by unfold Kdc;rw [e1,e2,decide_eq_true e3,decide_eq_true e4];rfl)
 generalize a.nextNode = m1 at *
 generalize b.nextNode = m2 at *
 generalize a.nextRel = m3 at *
 generalize b.nextRel = m4 at *
 by_cases h1 : m1 = m2
 rotate_left
 ·have f1 : (m1 == m2) = false:=by rw [beq_eq_false_iff_ne];exact h1
  have f1b : (m1 != m2) = true:=by simp [h1]
  have HF:=yh (HQ1.out h1)
  clear h1
  go_enter Tryz.func17,Tryz.ntmps17
  go_wp2
  go_ret
  exact ⟨Kak HF.out.symm,HX.out⟩
 subst h1
 by_cases h2 : m3 = m4
 rotate_left
 ·have f2 : (m3 == m4) = false:=by rw [beq_eq_false_iff_ne];exact h2
  have f2b : (m3 != m4) = true:=by simp [h2]
  have HF:=yh (HQ2.out h2)
  clear h2
  go_enter Tryz.func17,Tryz.ntmps17
  go_wp2
  go_ret
  exact ⟨Kak HF.out.symm,HX.out⟩
 subst h2
 by_cases h3 : a.nodes.length = b.nodes.length
 rotate_left
 ·have f3 : ¬ (a.nodes.length : Int) = (b.nodes.length : Int):=by omega
  have k3 : ((a.nodes.length : Int) == (b.nodes.length : Int)) = false:=by rw [beq_eq_false_iff_ne];exact f3
  have HF:=yh (HQ3.out h3)
  clear h3
  go_enter Tryz.func17,Tryz.ntmps17
  go_wp2
  go_ret
  exact ⟨Kak HF.out.symm,HX.out⟩
 have HL1:=yh h3
 have f3 : (b.nodes.length : Int) = (a.nodes.length : Int):=by omega
 clear h3
 by_cases h4 : a.rels.length = b.rels.length
 rotate_left
 ·have f4 : ¬ (a.rels.length : Int) = (b.rels.length : Int):=by omega
  have k4 : ((a.rels.length : Int) == (b.rels.length : Int)) = false:=by rw [beq_eq_false_iff_ne];exact f4
  have HF:=yh (HQ4.out h4)
  clear h4
  go_enter Tryz.func17,Tryz.ntmps17
  go_wp2
  go_ret
  exact ⟨Kak HF.out.symm,HX.out⟩
 have HL2:=yh h4
 have f4 : (b.rels.length : Int) = (a.rels.length : Int):=by omega
 clear h4
 go_enter Tryz.func17,Tryz.ntmps17
 go_wp2
 clear f3 f4
 obtain ⟨w2,hw2⟩ : ∃ w2,w2 = ((w.alloc (.cells #[.slice pn a.nodes.length cn,.slice pr a.rels.length cr,.int .i64 m1,.int .i64 m3] 25)).alloc (.cells #[.slice qn b.nodes.length dn,.slice qr b.rels.length dr,.int .i64 m1,.int .i64 m3] 25)):=⟨_,rfl⟩
 rw [← hw2] at HX HN HR HC ⊢
 clear hw2
 go_loopw [5] (fun i W=>∃ j : Nat,j ≤ a.nodes.length ∧ i = .int .i64 (j : Int) ∧ Hid (AllJ Kbc a.nodes b.nodes j ∧ Below w2.heap.size w2 W)) (fun i _=>a.nodes.length - (intOf i).toNat)
 case atStart=>exact ⟨0,Nat.zero_le _,rfl,yh ⟨AllJ.zero _ _ _,Below.refl _ _⟩⟩
 case round =>
  obtain ⟨j,hj,rfl,HI⟩:=hrel
  have gw : wr.cell? ⟨w.heap.size,0,none⟩ = some (.slice pn a.nodes.length cn):=Kad HI.out.2 (ltOf HC.out.1) HC.out.1
  by_cases hlt : j < a.nodes.length
  ·have hlt1 : j + 1 ≤ a.nodes.length:=hlt
   have hltb : j < b.nodes.length:=by have:=HL1.out;omega
   obtain ⟨b1,o1,y1,rfl,hs1,hcc1,hv1⟩:=(HN.out.1.below (fun h=>h.below HI.out.2) HI.out.2).get hlt
   obtain ⟨b2,o2,y2,rfl,hs2,hcc2,hv2⟩:=(HN.out.2.below (fun h=>h.below HI.out.2) HI.out.2).get hltb
   have g1:=gw
   have g2 : wr.cell? ⟨w.heap.size + 1,0,none⟩ = some (.slice (some ⟨b2,o2,none⟩) b.nodes.length dn):=Kad HI.out.2 (ltOf HC.out.2.1) HC.out.2.1
   have hi1 : ∀ W' : World,(Instr.indexAt 22 (.slice (some ⟨b1,o1,none⟩) a.nodes.length cn) (.int .i64 (j : Int))).run Tryz.prog W' = .ok (.pointer (some ⟨b1,o1 + j * 3,none⟩)) W':=fun W'=>ia_node hlt W'
   have hi2 : ∀ W' : World,(Instr.indexAt 22 (.slice (some ⟨b2,o2,none⟩) b.nodes.length dn) (.int .i64 (j : Int))).run Tryz.prog W' = .ok (.pointer (some ⟨b2,o2 + j * 3,none⟩)) W':=fun W'=>ia_node hltb W'
   have hal:=fun W (g : Below wr.heap.size wr W)=>Kep (hv1.below g) (hv2.below g)
   have hno:=all2_no (f:=Kbc) (j:=j) hlt hltb
   have hye:=HI.out.1.succ hlt hltb
   generalize Kbc a.nodes[j] b.nodes[j] = av at *
   have HM:=yh (And.intro hno hye)
   have HB1:=yh HI.out.2
   have hB0 : Below wr.heap.size wr wr.drew:=(Below.refl _ wr).drew
   have HY:=yh (And.intro hi1 (And.intro hi2 (And.intro hal (And.intro g1 (And.intro g2 (And.intro hs1 (And.intro hs2 (And.intro hcc1 (And.intro hcc2 hB0)))))))))
   clear hi1 hi2 hal g1 g2 hs1 hs2 hcc1 hcc2 hv1 hv2 hB0 hno hye HI
   go_wp2
   clear gw
   obtain ⟨hi1,hi2,hal,g1,g2,hs1,hs2,hc1,hc2,hB0⟩:=HY.out
   refine Kag (fun W=>Below wr.heap.size wr W) (by kernel_rfl) hB0 (fun hS=>?_)
   refine tk 0 44 (v:=.pointer (some ⟨w.heap.size,0,none⟩)) rfl rfl (fun W hW=>Kab rfl rfl (fa_gr 0 (by omega) _ W)) ?_;simp only [zP]
   refine tk 1 45 (v:=.slice (some ⟨b1,o1,none⟩) a.nodes.length cn) rfl rfl (fun W hW=>Kac rfl rfl (Kaf (w:=W) Tryz.underlying22 rfl (Kad hW (ltOf g1) g1))) ?_;simp only [zP]
   refine tm 2 46 (v:=.int .i64 (j : Int)) rfl rfl rfl ?_;simp only [zP]
   refine tk 3 47 (v:=.pointer (some ⟨b1,o1 + j * 3,none⟩)) rfl rfl (fun W hW=>Kai rfl rfl rfl (hi1 W)) ?_;simp only [zP]
   refine tk 4 48 (v:=.agg y1) rfl rfl (fun W hW=>Kac rfl rfl (StT.load (P:=Tryz.prog) (W:=W) Kay hs1 fun i u hu=>Kad hW (ltOf (hc1 i u hu)) (hc1 i u hu))) ?_;simp only [zP]
   refine tk 5 49 (v:=.pointer (some ⟨w.heap.size + 1,0,none⟩)) rfl rfl (fun W hW=>Kab rfl rfl (fa_gr 0 (by omega) _ W)) ?_;simp only [zP]
   refine tk 6 50 (v:=.slice (some ⟨b2,o2,none⟩) b.nodes.length dn) rfl rfl (fun W hW=>Kac rfl rfl (Kaf (w:=W) Tryz.underlying22 rfl (Kad hW (ltOf g2) g2))) ?_;simp only [zP]
   refine tm 7 51 (v:=.int .i64 (j : Int)) rfl rfl rfl ?_;simp only [zP]
   refine tk 8 52 (v:=.pointer (some ⟨b2,o2 + j * 3,none⟩)) rfl rfl (fun W hW=>Kai rfl rfl rfl (hi2 W)) ?_;simp only [zP]
   refine tk 9 53 (v:=.agg y2) rfl rfl (fun W hW=>Kac rfl rfl (StT.load (P:=Tryz.prog) (W:=W) Kay hs2 fun i u hu=>Kad hW (ltOf (hc2 i u hu)) (hc2 i u hu))) ?_;simp only [zP]
   refine Kan 10 54 rfl rfl (by kernel_rfl) rfl (Kam [.agg y1,.agg y2] rfl rfl Tryz.func54 (by kernel_rfl) (by kernel_rfl)) ?_
   refine (hal _ hS).mono ?_
   rintro e W10 ⟨rfl,hb10⟩
   have hS10:=Kaa hS hb10
   refine ⟨_,rfl,.inr hS10,?_⟩;simp only [zP]
   refine tk 11 55 (v:=.bool (!av)) rfl rfl (fun W hW=>Kap rfl rfl) ?_;simp only [zP]
   refine done (by kernel_rfl) ?_ _
   have HB:=yh (Kaa HB1.out hS10)
   clear hi1 hi2 hal g1 g2 hs1 hs2 hc1 hc2 hB0 hS HY hS10 hb10
   cases av with
   | false =>
     have HF:=yh (HNO.out.1 (HM.out.1 rfl))
     clear HM
     go_wp2
     go_ret
     exact ⟨Kak HF.out.symm,Kaa HX.out HB.out⟩
   | true =>
     go_wp2
     go_roundw
     case rel=>exact ⟨j + 1,hlt1,by go_num,yh ⟨HM.out.2 rfl,HB.out⟩⟩
     case measure=>simp [intOf];omega
  ·obtain rfl : j = a.nodes.length:=by omega
   have HAN:=yh (HI.out.1.all HL1.out)
   have HB:=yh HI.out.2
   clear HI
   have gr : wr.cell? ⟨w.heap.size,1,none⟩ = some (.slice pr a.rels.length cr):=Kad HB.out (ltOf HC.out.2.2.1) HC.out.2.2.1
   go_wp2
   clear gw gr
   go_loopw [6] (fun i W=>∃ j : Nat,j ≤ a.rels.length ∧ i = .int .i64 (j : Int) ∧ Hid (AllJ Kbd a.rels b.rels j ∧ Below w2.heap.size w2 W)) (fun i _=>a.rels.length - (intOf i).toNat)
   case atStart=>exact ⟨0,Nat.zero_le _,rfl,yh ⟨AllJ.zero _ _ _,HB.out⟩⟩
   case round =>
    obtain ⟨j,hj,rfl,HI⟩:=hrel
    have gw : wr.cell? ⟨w.heap.size,1,none⟩ = some (.slice pr a.rels.length cr):=Kad HI.out.2 (ltOf HC.out.2.2.1) HC.out.2.2.1
    by_cases hlt : j < a.rels.length
    ·have hlt1 : j + 1 ≤ a.rels.length:=hlt
     have hltb : j < b.rels.length:=by have:=HL2.out;omega
     obtain ⟨b1,o1,y1,rfl,hs1,hcc1,hv1⟩:=(HR.out.1.below (fun h=>h.below HI.out.2) HI.out.2).get hlt
     obtain ⟨b2,o2,y2,rfl,hs2,hcc2,hv2⟩:=(HR.out.2.below (fun h=>h.below HI.out.2) HI.out.2).get hltb
     have g1:=gw
     have g2 : wr.cell? ⟨w.heap.size + 1,1,none⟩ = some (.slice (some ⟨b2,o2,none⟩) b.rels.length dr):=Kad HI.out.2 (ltOf HC.out.2.2.2) HC.out.2.2.2
     have hi1 : ∀ W' : World,(Instr.indexAt 23 (.slice (some ⟨b1,o1,none⟩) a.rels.length cr) (.int .i64 (j : Int))).run Tryz.prog W' = .ok (.pointer (some ⟨b1,o1 + j * 5,none⟩)) W':=fun W'=>ia_rel hlt W'
     have hi2 : ∀ W' : World,(Instr.indexAt 23 (.slice (some ⟨b2,o2,none⟩) b.rels.length dr) (.int .i64 (j : Int))).run Tryz.prog W' = .ok (.pointer (some ⟨b2,o2 + j * 5,none⟩)) W':=fun W'=>ia_rel hltb W'
     have hal:=fun W (g : Below wr.heap.size wr W)=>sameRelD_any (hv1.below g) (hv2.below g)
     have hno:=all2_no (f:=Kbd) (j:=j) hlt hltb
     have hye:=HI.out.1.succ hlt hltb
     generalize Kbd a.rels[j] b.rels[j] = av at *
     have HM:=yh (And.intro hno hye)
     have HB1:=yh HI.out.2
     have hB0 : Below wr.heap.size wr wr.drew:=(Below.refl _ wr).drew
     have HY:=yh (And.intro hi1 (And.intro hi2 (And.intro hal (And.intro g1 (And.intro g2 (And.intro hs1 (And.intro hs2 (And.intro hcc1 (And.intro hcc2 hB0)))))))))
     clear hi1 hi2 hal g1 g2 hs1 hs2 hcc1 hcc2 hv1 hv2 hB0 hno hye HI
     go_wp2
     clear gw
     obtain ⟨hi1,hi2,hal,g1,g2,hs1,hs2,hc1,hc2,hB0⟩:=HY.out
     refine Kag (fun W=>Below wr.heap.size wr W) (by kernel_rfl) hB0 (fun hS=>?_)
     refine tk 0 63 (v:=.pointer (some ⟨w.heap.size,1,none⟩)) rfl rfl (fun W hW=>Kab rfl rfl (fa_gr 1 (by omega) _ W)) ?_;simp only [zP]
     refine tk 1 64 (v:=.slice (some ⟨b1,o1,none⟩) a.rels.length cr) rfl rfl (fun W hW=>Kac rfl rfl (Kaf (w:=W) Tryz.underlying23 rfl (Kad hW (ltOf g1) g1))) ?_;simp only [zP]
     refine tm 2 65 (v:=.int .i64 (j : Int)) rfl rfl rfl ?_;simp only [zP]
     refine tk 3 66 (v:=.pointer (some ⟨b1,o1 + j * 5,none⟩)) rfl rfl (fun W hW=>Kai rfl rfl rfl (hi1 W)) ?_;simp only [zP]
     refine tk 4 67 (v:=.agg y1) rfl rfl (fun W hW=>Kac rfl rfl (StT.load (P:=Tryz.prog) (W:=W) Kbb hs1 fun i u hu=>Kad hW (ltOf (hc1 i u hu)) (hc1 i u hu))) ?_;simp only [zP]
     refine tk 5 68 (v:=.pointer (some ⟨w.heap.size + 1,1,none⟩)) rfl rfl (fun W hW=>Kab rfl rfl (fa_gr 1 (by omega) _ W)) ?_;simp only [zP]
     refine tk 6 69 (v:=.slice (some ⟨b2,o2,none⟩) b.rels.length dr) rfl rfl (fun W hW=>Kac rfl rfl (Kaf (w:=W) Tryz.underlying23 rfl (Kad hW (ltOf g2) g2))) ?_;simp only [zP]
     refine tm 7 70 (v:=.int .i64 (j : Int)) rfl rfl rfl ?_;simp only [zP]
     refine tk 8 71 (v:=.pointer (some ⟨b2,o2 + j * 5,none⟩)) rfl rfl (fun W hW=>Kai rfl rfl rfl (hi2 W)) ?_;simp only [zP]
     refine tk 9 72 (v:=.agg y2) rfl rfl (fun W hW=>Kac rfl rfl (StT.load (P:=Tryz.prog) (W:=W) Kbb hs2 fun i u hu=>Kad hW (ltOf (hc2 i u hu)) (hc2 i u hu))) ?_;simp only [zP]
     refine Kan 10 73 rfl rfl (by kernel_rfl) rfl (Kam [.agg y1,.agg y2] rfl rfl Tryz.func55 (by kernel_rfl) (by kernel_rfl)) ?_
     refine (hal _ hS).mono ?_
     rintro e W10 ⟨rfl,hb10⟩
     have hS10:=Kaa hS hb10
     refine ⟨_,rfl,.inr hS10,?_⟩;simp only [zP]
     refine tk 11 74 (v:=.bool (!av)) rfl rfl (fun W hW=>Kap rfl rfl) ?_;simp only [zP]
     refine done (by kernel_rfl) ?_ _
     have HB:=yh (Kaa HB1.out hS10)
     clear hi1 hi2 hal g1 g2 hs1 hs2 hc1 hc2 hB0 hS HY hS10 hb10
     cases av with
     | false =>
       have HF:=yh (HNO.out.2 (HM.out.1 rfl))
       clear HM
       go_wp2
       go_ret
       exact ⟨Kak HF.out.symm,Kaa HX.out HB.out⟩
     | true =>
       go_wp2
       go_roundw
       case rel=>exact ⟨j + 1,hlt1,by go_num,yh ⟨HM.out.2 rfl,HB.out⟩⟩
       case measure=>simp [intOf];omega
    ·obtain rfl : j = a.rels.length:=by omega
     have HAR:=yh (HI.out.1.all HL2.out)
     have HB:=yh HI.out.2
     clear HI
     go_wp2
     go_ret
     exact ⟨Kak (HYES.out trivial trivial HAN.out HAR.out).symm,Kaa HX.out HB.out⟩
def SomeB (e : Ending) : Prop:=∃ b : Bool,e = .returned (.bool b)
theorem heavy_any {w : World} {p : Option Addr} {c : Nat} {l : List PropD} (h : GRd PRd 7 w p c l) (ht : ∀ x ∈ l,totV x.val ≤ 1099511627776) : Calls Tryz.prog 31 #[.slice p l.length c] w fun e w'=>SomeB e ∧ Below w.heap.size w w':=by
 have z1 : (l.length : Int) ≤ 140737488355328:=by have:=h.1.2.1;omega
 have H:=yh (And.intro h ht)
 clear h ht
 go_enter Tryz.func31,Tryz.ntmps31
 go_wp2
 go_loopw [3] (fun i W=>∃ j : Nat,j ≤ l.length ∧ i = .int .i64 (j : Int) ∧ Hid (Below w.heap.size w W)) (fun i _=>l.length - (intOf i).toNat)
 case atStart=>exact ⟨0,Nat.zero_le _,rfl,yh (Below.refl _ _)⟩
 case round =>
  obtain ⟨j,hj,rfl,HI⟩:=hrel
  by_cases hlt : j < l.length
  ·have hlt1 : j + 1 ≤ l.length:=hlt
   obtain ⟨b1,o1,cs1,rfl,_,hcc1,hv1⟩:=(H.out.1.below (fun h=>h.below HI.out) HI.out).get hlt
   have hto:=H.out.2 _ (List.getElem_mem hlt)
   obtain ⟨q1,hkl,y1,hu1,r1⟩:=Kef hv1 hcc1
   have HL:=yh (StT.load (P:=Tryz.prog) (W:=wr) Kds (Kdv.size hu1) fun i u hu=>r1 i u hu)
   have HZ:=yh (sizeR_any _ wr y1 hto hu1)
   have HK:=yh q1
   have hsz : (strB l[j].key).size = l[j].key.length:=by simp [strB,ByteArray.size]
   clear hcc1 hv1 hu1 r1 hto q1
   generalize (countV l[j].val : Int) = n1 at *
   generalize (Kc1 l[j].val : Int) = n2 at *
   generalize l[j].key = s at *
   by_cases a1 : 200 < n1
   ·have a1b : decide (200 < n1) = true:=decide_eq_true a1
    clear a1
    go_wp2_with (first
     | ((with_reducible apply Kao);exact HL.out;exact rfl)
     | (go_at_call 32;refine HZ.out.mono ?_;rintro e W2 ⟨rfl,hb⟩;have HB:=yh (Kaa HI.out hb);have hk0:=Kad hb (ltOf HK.out) HK.out;clear hb))
    go_ret
    exact ⟨⟨_,rfl⟩,HB.out⟩
   have a1b : decide (200 < n1) = false:=decide_eq_false a1
   clear a1
   by_cases a2 : 5000 < n2
   ·have a2b : decide (5000 < n2) = true:=decide_eq_true a2
    clear a2
    go_wp2_with (first
     | ((with_reducible apply Kao);exact HL.out;exact rfl)
     | (go_at_call 32;refine HZ.out.mono ?_;rintro e W2 ⟨rfl,hb⟩;have HB:=yh (Kaa HI.out hb);have hk0:=Kad hb (ltOf HK.out) HK.out;clear hb))
    go_ret
    exact ⟨⟨_,rfl⟩,HB.out⟩
   have a2b : decide (5000 < n2) = false:=decide_eq_false a2
   clear a2
   by_cases a3 : 1000 < (s.length : Int)
   ·have a3b : decide (1000 < (s.length : Int)) = true:=decide_eq_true a3
    go_wp2_with (first
     | ((with_reducible apply Kao);exact HL.out;exact rfl)
     | (go_at_call 32;refine HZ.out.mono ?_;rintro e W2 ⟨rfl,hb⟩;have HB:=yh (Kaa HI.out hb);have hk0:=Kad hb (ltOf HK.out) HK.out;clear hb))
    go_ret
    exact ⟨⟨_,rfl⟩,HB.out⟩
   ·have a3b : decide (1000 < (s.length : Int)) = false:=decide_eq_false a3
    go_wp2_with (first
     | ((with_reducible apply Kao);exact HL.out;exact rfl)
     | (go_at_call 32;refine HZ.out.mono ?_;rintro e W2 ⟨rfl,hb⟩;have HB:=yh (Kaa HI.out hb);have hk0:=Kad hb (ltOf HK.out) HK.out;clear hb))
    go_roundw
    case rel=>exact ⟨j + 1,hlt1,by go_num,HB⟩
    case measure=>simp [intOf];omega
  ·obtain rfl : j = l.length:=by omega
   go_wp2
   go_ret
   exact ⟨⟨_,rfl⟩,HI.out⟩
theorem exec_lenPs {a : Act} {w : World} {o : Oper} {x : Operand} {p : Option Addr} {n c : Nat} (ho : o.op = .call { callee:=.builtin .len,args:=#[x],argTypes:=#[27] }) (hx : a.eval x = .slice p n c) : (execOp a.eval o).run Tryz.prog w = .ok (.value (.int .i64 (n : Int))) w:=by
 unfold execOp;simp only [ho,resolve,invoke,Sem.run_bind,Sem.run_pure,Result.andThen_ok,List.map_toArray,List.map_cons,List.map_nil,hx];simp [go_sem]
theorem exec_lenTs {a : Act} {w : World} {o : Oper} {x : Operand} {p : Option Addr} {n c : Nat} (ho : o.op = .call { callee:=.builtin .len,args:=#[x],argTypes:=#[26] }) (hx : a.eval x = .slice p n c) : (execOp a.eval o).run Tryz.prog w = .ok (.value (.int .i64 (n : Int))) w:=by
 unfold execOp;simp only [ho,resolve,invoke,Sem.run_bind,Sem.run_pure,Result.andThen_ok,List.map_toArray,List.map_cons,List.map_nil,hx];simp [go_sem]
theorem add_len {n m : Nat} (h1 : n ≤ 140737488355328) (h2 : m ≤ 140737488355328) (W : World) : (binOp .add 3 (.int .i64 (n : Int)) (.int .i64 (m : Int))).run Tryz.prog W = .ok (.int .i64 ((n : Int) + (m : Int))) W:=by
 have e : IntKind.i64.wrap ((n : Int) + (m : Int)) = (n : Int) + (m : Int):=by rw [IntKind.wrap_i64];omega
 simp [go_sem,e]
theorem gtr_12 (n : Int) (W : World) : (binOp .gtr 3 (.int .i64 n) (.int .i64 12)).run Tryz.prog W = .ok (.bool (decide (12 < n))) W:=by simp [go_sem]
theorem fa_ndo (i : Nat) (h : i < 3) (b o : Nat) (W : World) : (Instr.fieldAt 45 (.pointer (some ⟨b,o,none⟩)) i).run Tryz.prog W = .ok (.pointer (some ⟨b,o + i,none⟩)) W:=by
 match i,h with
 | 0,_=>simp [go_sem]
 | 1,_=>simp [go_sem]
 | 2,_=>simp [go_sem]
def VastB (g : GraphD) (e : Ending) : Prop:=∃ b : Bool,e = .returned (.bool b) ∧ (b = false → g.nodes.length ≤ 60 ∧ g.rels.length ≤ 60)
theorem vastL_any {w : World} {g : GraphD} {x : Array Value} (h : GrRd w g x) (ht : GTot g) : Calls Tryz.prog 9 #[.agg x] w fun e w'=>VastB g e ∧ Below w.heap.size w w':=by
 obtain ⟨pn,cn,pr,cr,rfl,hn,hr⟩:=h
 have hb1:=Kah (w:=w) (.cells #[.slice pn g.nodes.length cn,.slice pr g.rels.length cr,.int .i64 g.nextNode,.int .i64 g.nextRel] 25)
 have hx1:=heap_alloc_new w (.cells #[.slice pn g.nodes.length cn,.slice pr g.rels.length cr,.int .i64 g.nextNode,.int .i64 g.nextRel] 25)
 have p0 : (w.alloc (.cells #[.slice pn g.nodes.length cn,.slice pr g.rels.length cr,.int .i64 g.nextNode,.int .i64 g.nextRel] 25)).cell? ⟨w.heap.size,0,none⟩ = some (.slice pn g.nodes.length cn):=Kae (o:=0) hx1 rfl
 have p1 : (w.alloc (.cells #[.slice pn g.nodes.length cn,.slice pr g.rels.length cr,.int .i64 g.nextNode,.int .i64 g.nextRel] 25)).cell? ⟨w.heap.size,1,none⟩ = some (.slice pr g.rels.length cr):=Kae (o:=1) hx1 rfl
 have z1 : (g.nodes.length : Int) ≤ 140737488355328:=by have:=hn.1.2.1;omega
 have z2 : (g.rels.length : Int) ≤ 140737488355328:=by have:=hr.1.2.1;omega
 have hn1:=hn.below (fun h=>h.below hb1) hb1
 have hr1:=hr.below (fun h=>h.below hb1) hb1
 have HX:=yh hb1
 have HC:=yh (And.intro p0 p1)
 have HN:=yh (And.intro hn1 hr1)
 have HT:=yh ht
 clear hn hr hb1 hx1 p0 p1 hn1 hr1 ht
 by_cases a1 : (60 : Int) < (g.nodes.length : Int)
 ·have a1b : decide ((60 : Int) < (g.nodes.length : Int)) = true:=decide_eq_true a1
  go_enter Tryz.func9,Tryz.ntmps9
  go_wp2
  go_ret
  exact ⟨⟨_,rfl,by first | (intro _;exact HLN.out) | (intro h;cases h)⟩,HX.out⟩
 have a1b : decide ((60 : Int) < (g.nodes.length : Int)) = false:=decide_eq_false a1
 by_cases a2 : (60 : Int) < (g.rels.length : Int)
 ·have a2b : decide ((60 : Int) < (g.rels.length : Int)) = true:=decide_eq_true a2
  go_enter Tryz.func9,Tryz.ntmps9
  go_wp2
  go_ret
  exact ⟨⟨_,rfl,by first | (intro _;exact HLN.out) | (intro h;cases h)⟩,HX.out⟩
 have a2b : decide ((60 : Int) < (g.rels.length : Int)) = false:=decide_eq_false a2
 have HLN:=yh (show g.nodes.length ≤ 60 ∧ g.rels.length ≤ 60 by omega)
 go_enter Tryz.func9,Tryz.ntmps9
 go_wp2
 clear a1 a1b a2 a2b
 obtain ⟨w2,hw2⟩ : ∃ w2,w2 = (w.alloc (.cells #[.slice pn g.nodes.length cn,.slice pr g.rels.length cr,.int .i64 g.nextNode,.int .i64 g.nextRel] 25)):=⟨_,rfl⟩
 rw [← hw2] at HX HN HC ⊢
 clear hw2
 go_loopw [3] (fun i W=>∃ j : Nat,j ≤ g.nodes.length ∧ i = .int .i64 (j : Int) ∧ Hid (Below w2.heap.size w2 W)) (fun i _=>g.nodes.length - (intOf i).toNat)
 case atStart=>exact ⟨0,Nat.zero_le _,rfl,yh (Below.refl _ _)⟩
 case round =>
  obtain ⟨j,hj,rfl,HI⟩:=hrel
  have gw : wr.cell? ⟨w.heap.size,0,none⟩ = some (.slice pn g.nodes.length cn):=Kad HI.out (ltOf HC.out.1) HC.out.1
  by_cases hlt : j < g.nodes.length
  ·have hlt1 : j + 1 ≤ g.nodes.length:=hlt
   obtain ⟨b1,o1,cs,rfl,_,hcc,hv⟩:=(HN.out.1.below (fun h=>h.below HI.out) HI.out).get hlt
   have htv:=HT.out.1 _ (List.getElem_mem hlt)
   obtain ⟨pl,cl,pp,cp,rfl,hls,hps⟩:=hv
   have g0:=gw
   have c1 : wr.cell? ⟨b1,o1 + j * 3 + 1,none⟩ = some (.slice pl g.nodes[j].labels.length cl):=hcc 1 _ rfl
   have c2 : wr.cell? ⟨b1,o1 + j * 3 + 2,none⟩ = some (.slice pp g.nodes[j].props.length cp):=hcc 2 _ rfl
   have hi1 : ∀ W' : World,(Instr.indexAt 22 (.slice (some ⟨b1,o1,none⟩) g.nodes.length cn) (.int .i64 (j : Int))).run Tryz.prog W' = .ok (.pointer (some ⟨b1,o1 + j * 3,none⟩)) W':=fun W'=>ia_node hlt W'
   have hhv:=fun W (gg : Below wr.heap.size wr W)=>heavy_any (w:=W) (hps.below (fun h=>h.below gg) gg) htv
   have hadd:=fun W=>add_len (n:=g.nodes[j].labels.length) (m:=g.nodes[j].props.length) (by have:=hls.2.1.1;omega) (by have:=hps.1.2.1;omega) W
   have h1:=fun W=>gtr_12 ((g.nodes[j].labels.length : Int) + (g.nodes[j].props.length : Int)) W
   generalize decide (12 < (g.nodes[j].labels.length : Int) + (g.nodes[j].props.length : Int)) = bA at *
   have HB1:=yh HI.out
   have hB0 : Below wr.heap.size wr wr.drew:=(Below.refl _ wr).drew
   clear hps hls hcc htv HI
   generalize g.nodes[j].labels.length = nl at *
   generalize g.nodes[j].props.length = np at *
   have HY:=yh (And.intro hi1 (And.intro hhv (And.intro hadd (And.intro h1 (And.intro g0 (And.intro c1 (And.intro c2 hB0)))))))
   clear hi1 hhv hadd h1 g0 c1 c2 hB0
   go_wp2
   clear gw
   obtain ⟨hi1,hhv,hadd,h1,g0,c1,c2,hB0⟩:=HY.out
   refine Kag (fun W=>Below wr.heap.size wr W) (by kernel_rfl) hB0 (fun hS=>?_)
   refine tk 0 22 (v:=.pointer (some ⟨w.heap.size,0,none⟩)) rfl rfl (fun W hW=>Kab rfl rfl (fa_gr 0 (by omega) _ W)) ?_;simp only [zP]
   refine tk 1 23 (v:=.slice (some ⟨b1,o1,none⟩) g.nodes.length cn) rfl rfl (fun W hW=>Kac rfl rfl (Kaf (w:=W) Tryz.underlying22 rfl (Kad hW (ltOf g0) g0))) ?_;simp only [zP]
   refine tm 2 24 (v:=.int .i64 (j : Int)) rfl rfl rfl ?_;simp only [zP]
   refine tk 3 25 (v:=.pointer (some ⟨b1,o1 + j * 3,none⟩)) rfl rfl (fun W hW=>Kai rfl rfl rfl (hi1 W)) ?_;simp only [zP]
   refine tk 4 26 (v:=.pointer (some ⟨b1,o1 + j * 3 + 1,none⟩)) rfl rfl (fun W hW=>Kab rfl rfl (fa_ndo 1 (by omega) _ _ W)) ?_;simp only [zP]
   refine tk 5 27 (v:=.slice pl nl cl) rfl rfl (fun W hW=>Kac rfl rfl (Kaf (w:=W) Tryz.underlying26 rfl (Kad hW (ltOf c1) c1))) ?_;simp only [zP]
   refine tk 6 28 (v:=.int .i64 (nl : Int)) rfl rfl (fun W hW=>exec_lenTs rfl rfl) ?_;simp only [zP]
   refine tk 7 29 (v:=.pointer (some ⟨w.heap.size,0,none⟩)) rfl rfl (fun W hW=>Kab rfl rfl (fa_gr 0 (by omega) _ W)) ?_;simp only [zP]
   refine tk 8 30 (v:=.slice (some ⟨b1,o1,none⟩) g.nodes.length cn) rfl rfl (fun W hW=>Kac rfl rfl (Kaf (w:=W) Tryz.underlying22 rfl (Kad hW (ltOf g0) g0))) ?_;simp only [zP]
   refine tm 9 31 (v:=.int .i64 (j : Int)) rfl rfl rfl ?_;simp only [zP]
   refine tk 10 32 (v:=.pointer (some ⟨b1,o1 + j * 3,none⟩)) rfl rfl (fun W hW=>Kai rfl rfl rfl (hi1 W)) ?_;simp only [zP]
   refine tk 11 33 (v:=.pointer (some ⟨b1,o1 + j * 3 + 2,none⟩)) rfl rfl (fun W hW=>Kab rfl rfl (fa_ndo 2 (by omega) _ _ W)) ?_;simp only [zP]
   refine tk 12 34 (v:=.slice pp np cp) rfl rfl (fun W hW=>Kac rfl rfl (Kaf (w:=W) Tryz.underlying27 rfl (Kad hW (ltOf c2) c2))) ?_;simp only [zP]
   refine tk 13 35 (v:=.int .i64 (np : Int)) rfl rfl (fun W hW=>exec_lenPs rfl rfl) ?_;simp only [zP]
   refine tk 14 36 (v:=.int .i64 ((nl : Int) + (np : Int))) rfl rfl (fun W hW=>Kal rfl rfl rfl (hadd W)) ?_;simp only [zP]
   cases bA with
   | true =>
     refine tk 15 37 (v:=.bool true) rfl rfl (fun W hW=>Kal rfl rfl rfl (h1 W)) ?_;simp only [zP]
     refine tm 16 38 (v:=.bool true) rfl rfl rfl ?_;simp only [zP]
     refine tx 17 39 ?_;simp only [zP]
     refine tx 18 40 ?_;simp only [zP]
     refine tx 19 41 ?_;simp only [zP]
     refine tx 20 42 ?_;simp only [zP]
     refine tx 21 43 ?_;simp only [zP]
     refine tx 22 44 ?_;simp only [zP]
     refine Kas 23 45 rfl rfl (by kernel_rfl) rfl ?_ (.inr (by assumption));simp only [zP]
     refine tk 24 46 (v:=.bool true) rfl rfl (fun W hW=>rfl) ?_;simp only [zP]
     refine done (by kernel_rfl) ?_ _
     have HB:=yh (Kaa HB1.out hS)
     clear hS hi1 hhv hadd h1 g0 c1 c2 hB0 HY
     go_wp2
     go_ret
     exact ⟨⟨_,rfl,by first | (intro _;exact HLN.out) | (intro h;cases h)⟩,Kaa HX.out HB.out⟩
   | false =>
     refine tk 15 37 (v:=.bool false) rfl rfl (fun W hW=>Kal rfl rfl rfl (h1 W)) ?_;simp only [zP]
     refine tm 16 38 (v:=.bool false) rfl rfl rfl ?_;simp only [zP]
     refine tk 17 39 (v:=.pointer (some ⟨w.heap.size,0,none⟩)) rfl rfl (fun W hW=>Kab rfl rfl (fa_gr 0 (by omega) _ W)) ?_;simp only [zP]
     refine tk 18 40 (v:=.slice (some ⟨b1,o1,none⟩) g.nodes.length cn) rfl rfl (fun W hW=>Kac rfl rfl (Kaf (w:=W) Tryz.underlying22 rfl (Kad hW (ltOf g0) g0))) ?_;simp only [zP]
     refine tm 19 41 (v:=.int .i64 (j : Int)) rfl rfl rfl ?_;simp only [zP]
     refine tk 20 42 (v:=.pointer (some ⟨b1,o1 + j * 3,none⟩)) rfl rfl (fun W hW=>Kai rfl rfl rfl (hi1 W)) ?_;simp only [zP]
     refine tk 21 43 (v:=.pointer (some ⟨b1,o1 + j * 3 + 2,none⟩)) rfl rfl (fun W hW=>Kab rfl rfl (fa_ndo 2 (by omega) _ _ W)) ?_;simp only [zP]
     refine tk 22 44 (v:=.slice pp np cp) rfl rfl (fun W hW=>Kac rfl rfl (Kaf (w:=W) Tryz.underlying27 rfl (Kad hW (ltOf c2) c2))) ?_;simp only [zP]
     refine Kan 23 45 rfl rfl (by kernel_rfl) rfl (Kam [.slice pp np cp] rfl rfl Tryz.func31 (by kernel_rfl) (by kernel_rfl)) ?_
     refine (hhv _ hS).mono ?_
     rintro e W23 ⟨⟨bh,rfl⟩,hb23⟩
     have hS23:=Kaa hS hb23
     refine ⟨_,rfl,.inr hS23,?_⟩;simp only [zP]
     refine tk 24 46 (v:=.bool bh) rfl rfl (fun W hW=>rfl) ?_;simp only [zP]
     refine done (by kernel_rfl) ?_ _
     have HB:=yh (Kaa HB1.out hS23)
     clear hS hS23 hb23 hi1 hhv hadd h1 g0 c1 c2 hB0 HY
     cases bh with
     | true =>
       go_wp2
       go_ret
       exact ⟨⟨_,rfl,by first | (intro _;exact HLN.out) | (intro h;cases h)⟩,Kaa HX.out HB.out⟩
     | false =>
       go_wp2
       go_roundw
       case rel=>exact ⟨j + 1,hlt1,by go_num,yh HB.out⟩
       case measure=>simp [intOf];omega
  ·obtain rfl : j = g.nodes.length:=by omega
   have HB:=yh HI.out
   have gr : wr.cell? ⟨w.heap.size,1,none⟩ = some (.slice pr g.rels.length cr):=Kad HB.out (ltOf HC.out.2) HC.out.2
   clear HI
   go_wp2
   clear gw gr
   go_loopw [4] (fun i W=>∃ j : Nat,j ≤ g.rels.length ∧ i = .int .i64 (j : Int) ∧ Hid (Below w2.heap.size w2 W)) (fun i _=>g.rels.length - (intOf i).toNat)
   case atStart=>exact ⟨0,Nat.zero_le _,rfl,yh HB.out⟩
   case round =>
    rename_i wr0 wr
    clear HB
    obtain ⟨j,hj,rfl,HI⟩:=hrel
    have gw : wr.cell? ⟨w.heap.size,1,none⟩ = some (.slice pr g.rels.length cr):=Kad HI.out (ltOf HC.out.2) HC.out.2
    by_cases hlt : j < g.rels.length
    ·have hlt1 : j + 1 ≤ g.rels.length:=hlt
     obtain ⟨b1,o1,cs,rfl,_,hcc,hv⟩:=(HN.out.2.below (fun h=>h.below HI.out) HI.out).get hlt
     have htv:=HT.out.2 _ (List.getElem_mem hlt)
     obtain ⟨pp,cp,rfl,hty,hps⟩:=hv
     have c4 : wr.cell? ⟨b1,o1 + j * 5 + 4,none⟩ = some (.slice pp g.rels[j].props.length cp):=hcc 4 _ rfl
     have HV:=yh (heavy_any hps htv)
     clear hps hty hcc htv
     generalize g.rels[j].props.length = np at *
     by_cases a3 : (12 : Int) < (np : Int)
     ·have a3b : decide ((12 : Int) < (np : Int)) = true:=decide_eq_true a3
      go_wp2
      go_ret
      exact ⟨⟨_,rfl,by first | (intro _;exact HLN.out) | (intro h;cases h)⟩,Kaa HX.out HI.out⟩
     have a3b : decide ((12 : Int) < (np : Int)) = false:=decide_eq_false a3
     go_wp2_with (go_at_call 31;refine HV.out.mono ?_;rintro e W2 ⟨⟨bh,rfl⟩,hb⟩;have HB:=yh (Kaa HI.out hb);clear hb;cases bh)
     ·go_roundw
      case rel=>exact ⟨j + 1,hlt1,by go_num,HB⟩
      case measure=>simp [intOf];omega
     ·go_ret
      exact ⟨⟨_,rfl,by first | (intro _;exact HLN.out) | (intro h;cases h)⟩,Kaa HX.out HB.out⟩
    ·obtain rfl : j = g.rels.length:=by omega
     go_wp2
     go_ret
     exact ⟨⟨_,rfl,by first | (intro _;exact HLN.out) | (intro h;cases h)⟩,Kaa HX.out HI.out⟩
theorem vast_any {w : World} {g : GraphD} {x : Array Value} (h : GrRd w g x) (ht : GTot g) : Calls Tryz.prog 9 #[.agg x] w fun e w'=>SomeB e ∧ Below w.heap.size w w':=(vastL_any h ht).mono fun e w' h=>⟨⟨h.1.choose,h.1.choose_spec.1⟩,h.2⟩
theorem Kcy : EF GrRd 4:=by
 refine ⟨fun h g=>h.below g,fun h=>?_,fun h u hu=>?_⟩
 ·obtain ⟨pn,cn,pr,cr,rfl,_⟩:=h;rfl
 ·obtain ⟨pn,cn,pr,cr,rfl,_⟩:=h
  simp only [List.mem_cons,List.not_mem_nil,or_false] at hu
  rcases hu with rfl | rfl | rfl | rfl <;> rfl
def Lies (g : Nat) (T : TypeId) (x : Array Value) (W : World) : Prop:=W.heap[g]? = some (.cells x T (0,0))
theorem Lies.below {g : Nat} {T : TypeId} {x : Array Value} {W W' : World} (h : Lies g T x W) (b : Below W.heap.size W W') : Lies g T x W':=Kaj b (Array.getElem?_eq_some_iff.1 h).1 h
theorem Lies.get {g : Nat} {x : Array Value} {W : World} (h : Lies g 25 x W) (hs : x.size = 4) : (loadVar 25 ⟨g,0,none⟩).run Tryz.prog W = .ok (.agg x) W:=StT.get Ka5 hs h
theorem Lies.new (x : Array Value) (T : TypeId) (w : World) : Lies w.heap.size T x (w.alloc (.cells x T)):=heap_alloc_new w _
structure LQ2 (w W : World) (g o : GraphD) (x y : Array Value) : Prop where
 b1 : Lies w.heap.size 25 x W
 b2 : Lies (w.heap.size + 1) 25 y W
 gx : GrRd W g x
 ox : GrRd W o y
 b : Below w.heap.size w W
section
variable {w W W' : World} {g o : GraphD} {x y : Array Value}
theorem LQ2.below (h : LQ2 w W g o x y) (k : Below W.heap.size W W') : LQ2 w W' g o x y:=⟨h.b1.below k,h.b2.below k,h.gx.below k,h.ox.below k,Kaa h.b k⟩
theorem LQ2.lg (h : LQ2 w W g o x y) : (loadVar 25 ⟨w.heap.size,0,none⟩).run Tryz.prog W = .ok (.agg x) W:=h.b1.get (Kcy.size h.gx)
theorem LQ2.lo (h : LQ2 w W g o x y) : (loadVar 25 ⟨w.heap.size + 1,0,none⟩).run Tryz.prog W = .ok (.agg y) W:=h.b2.get (Kcy.size h.ox)
theorem LQ2.start (h1 : GrRd w g x) (h2 : GrRd w o y) : LQ2 w ((w.alloc (.cells x 25)).alloc (.cells y 25)) g o x y:=by
 have b1:=Kah (w:=w) (.cells x 25)
 have b2:=Kah (w:=w.alloc (.cells x 25)) (.cells y 25)
 have hb:=Kaa b1 b2
 have e2:=Lies.new y 25 (w.alloc (.cells x 25))
 rw [World.size_alloc] at e2
 exact ⟨(Lies.new x _ w).below b2,e2,h1.below hb,h2.below hb,hb⟩
end
theorem PsOk.tot {l : List PropD} (h : PsOk l) : ∀ x ∈ l,totV x.val ≤ 1099511627776:=fun x hx=>by have:=(h.2 x hx).2;omega
theorem GOk.tot {g : GraphD} (h : GOk g) : GTot g:=⟨fun n hn=>(h.2.2.1 n hn).2.2.tot,fun r hr=>(h.2.2.2 r hr).2.tot⟩
def two (n : Nat) : Nat → Prop:=fun b=>b = n ∨ b = n + 1
structure AP (w W : World) (h : GraphD) : Prop where
 bx : ∃ xh,W.heap[w.heap.size]? = some (.cells xh 25 (0,0)) ∧ GrRd (mask (two w.heap.size) W) h xh
 re : W.heap[w.heap.size + 1]? = some (.cells grZ 25 (0,0))
 b : Below w.heap.size w W
section
variable {w W W' : World} {h : GraphD}
theorem AP.lt (a : AP w W h) : w.heap.size + 1 < W.heap.size:=(Array.getElem?_eq_some_iff.1 a.re).1
theorem AP.below (a : AP w W h) (g : Below W.heap.size W W') : AP w W' h:=by
 obtain ⟨xh,h1,h2⟩:=a.bx
 exact ⟨⟨xh,Kaj g (Array.getElem?_eq_some_iff.1 h1).1 h1,h2.ext (mask_below g)⟩,Kaj g a.lt a.re,Kaa a.b g⟩
theorem AP.start {x : Array Value} (hx : GrRd w h x) : AP w ((w.alloc (.cells x 25)).alloc (.cells grZ 25)) h:=by
 have b1:=Kah (w:=w) (.cells x 25)
 have b2:=Kah (w:=w.alloc (.cells x 25)) (.cells grZ 25)
 have hb:=Kaa b1 b2
 have e2:=heap_alloc_new (w.alloc (.cells x 25)) (.cells grZ 25)
 rw [World.size_alloc] at e2
 exact ⟨⟨x,Kaj b2 (by simp) (heap_alloc_new w _),hx.ext (mask_of hb fun b hb=>by rcases hb with rfl | rfl <;> omega)⟩,e2,hb⟩
theorem AP.rd (a : AP w W h) : ∃ xh,(loadVar 25 ⟨w.heap.size,0,none⟩).run Tryz.prog W = .ok (.agg xh) W ∧ GrRd W h xh:=by
 obtain ⟨xh,h1,h2⟩:=a.bx
 have h3:=h2.ext (mask_ext _ _)
 exact ⟨xh,StT.get Ka5 (Kcy.size h3) h1,h3⟩
theorem AP.open (a : AP w W h) : ∃ pn cn pr cr,W.heap[w.heap.size]? = some (.cells #[.slice pn h.nodes.length cn,.slice pr h.rels.length cr,.int .i64 h.nextNode,.int .i64 h.nextRel] 25 (0,0)) ∧ GRd NRd 3 (mask (two w.heap.size) W) pn cn h.nodes ∧ GRd RRd 5 (mask (two w.heap.size) W) pr cr h.rels:=by
 obtain ⟨xh,h1,pn,cn,pr,cr,rfl,h2,h3⟩:=a.bx
 exact ⟨pn,cn,pr,cr,h1,h2,h3⟩
theorem AP.set (a : AP w W h) (i : Nat) (u : Value) {h' : GraphD} {x' : Array Value} (e : ∀ xh,GrRd (mask (two w.heap.size) W) h xh → W.heap[w.heap.size]? = some (.cells xh 25 (0,0)) → x' = xh.setIfInBounds i u) (hx : GrRd (mask (two w.heap.size) (W.setCell ⟨w.heap.size,i,none⟩ u)) h' x') : AP w (W.setCell ⟨w.heap.size,i,none⟩ u) h':=by
 obtain ⟨xh,h1,h2⟩:=a.bx
 refine ⟨⟨x',?_,hx⟩,?_,Kct a.b (Nat.le_refl _) u⟩
 ·rw [e xh h2 h1];exact Kb5 u h1
 ·exact (Below.heap_setCell _ ⟨w.heap.size,i,none⟩ _ _ (by show w.heap.size + 1 ≠ w.heap.size;omega)).trans a.re
theorem mask_row {n : Nat} {S : Nat → Prop} {b o : Nat} {u : Value} (hS : S n) : Ext (mask S W) (mask S (W.setCell ⟨n,o,none⟩ u)):=mask_touch ((Touch.refl S W).setCell (.inl hS) u)
theorem AP.nums (a : AP w W h) (n m : Int) : ∃ W1 W2,(storeVar 2 ⟨w.heap.size,2,none⟩ (.int .i64 n)).run Tryz.prog W = .ok () W1 ∧ (storeVar 2 ⟨w.heap.size,3,none⟩ (.int .i64 m)).run Tryz.prog W1 = .ok () W2 ∧ (∀ b,b ≠ w.heap.size → W1.heap[b]? = W.heap[b]?) ∧ AP w W2 ⟨h.nodes,h.rels,n,m⟩:=by
 obtain ⟨pn,cn,pr,cr,h1,h2,h3⟩:=a.open
 have e1:=put_i64 (n:=n) (Kae (o:=2) h1 rfl) (Kbs (o:=2) h1)
 have h4:=Kb5 (k:=2) (.int .i64 n) h1
 have e2:=put_i64 (n:=m) (Kae (o:=3) h4 rfl) (Kbs (o:=3) h4)
 have x1 : Ext (mask (two w.heap.size) W) (mask (two w.heap.size) (W.setCell ⟨w.heap.size,2,none⟩ (.int .i64 n))):=mask_row (b:=0) (.inl rfl)
 have x2 : Ext (mask (two w.heap.size) (W.setCell ⟨w.heap.size,2,none⟩ (.int .i64 n))) (mask (two w.heap.size) ((W.setCell ⟨w.heap.size,2,none⟩ (.int .i64 n)).setCell ⟨w.heap.size,3,none⟩ (.int .i64 m))):=mask_row (b:=0) (.inl rfl)
 have a1 : AP w (W.setCell ⟨w.heap.size,2,none⟩ (.int .i64 n)) ⟨h.nodes,h.rels,n,h.nextRel⟩:=a.set 2 _ (x':=#[.slice pn h.nodes.length cn,.slice pr h.rels.length cr,.int .i64 n,.int .i64 h.nextRel]) (fun xh _ hxh=>by rw [h1] at hxh;cases hxh;simp) ⟨_,_,_,_,rfl,GRd.ext x1 (fun h=>NRd.ext x1 h) h2,GRd.ext x1 (fun h=>RRd.ext x1 h) h3⟩
 exact ⟨_,_,e1,e2,fun b hb=>Below.heap_setCell _ ⟨w.heap.size,2,none⟩ _ b hb,a1.set 3 _ (x':=#[.slice pn h.nodes.length cn,.slice pr h.rels.length cr,.int .i64 n,.int .i64 m]) (fun xh _ hxh=>by rw [h4] at hxh;cases hxh;simp) ⟨_,_,_,_,rfl,GRd.ext (x1.trans x2) (fun h=>NRd.ext (x1.trans x2) h) h2,GRd.ext (x1.trans x2) (fun h=>RRd.ext (x1.trans x2) h) h3⟩⟩
theorem AP.put (a : AP w W h) {g : GraphD} {y : Array Value} (hy : GrRd (mask (two w.heap.size) W) g y) :
 ∃ W3,(storeVar 25 ⟨w.heap.size + 1,0,none⟩ (.agg y)).run Tryz.prog W = .ok () W3 ∧ (loadVar 25 ⟨w.heap.size + 1,0,none⟩).run Tryz.prog W3 = .ok (.agg y) W3 ∧ GrRd W3 g y ∧ Below w.heap.size w W3:=by
 have hs:=Kcy.size hy
 refine ⟨_,StT.put (P:=Tryz.prog) Ka5 hs (Kcy.ones hy) a.re rfl,StT.get (P:=Tryz.prog) Ka5 hs (setRow_heap W _ _ _ _ _ a.re),?_,below_row a.b (Nat.le_succ _) _⟩
 have ht : Touch (two w.heap.size) W (W.setRow (w.heap.size + 1) y):=⟨rfl,rfl,rfl,by rw [show (W.setRow (w.heap.size + 1) y).heap.size = W.heap.size by simp [World.setRow]];exact Nat.le_refl _,fun b _ hb=>setRow_other W _ b _ fun e=>hb (.inr e)⟩
 exact (hy.ext (mask_touch ht)).ext (mask_ext _ _)
theorem AP.done (a : AP w W h) : ∃ y W3,(loadVar 25 ⟨w.heap.size,0,none⟩).run Tryz.prog W = .ok (.agg y) W ∧ (storeVar 25 ⟨w.heap.size + 1,0,none⟩ (.agg y)).run Tryz.prog W = .ok () W3 ∧ (loadVar 25 ⟨w.heap.size + 1,0,none⟩).run Tryz.prog W3 = .ok (.agg y) W3 ∧ GrRd W3 h y ∧ Below w.heap.size w W3:=by
 obtain ⟨xh,h1,h2⟩:=a.bx
 obtain ⟨W3,h3⟩:=a.put h2
 exact ⟨xh,W3,StT.get Ka5 (Kcy.size h2) h1,h3⟩
theorem graph0_rd (V : World) : GrRd V Kck grZ:=⟨none,0,none,0,rfl,GRd.none _ _ _,GRd.none _ _ _⟩
theorem AP.zero (a : AP w W h) : ∃ W3,(storeVar 25 ⟨w.heap.size + 1,0,none⟩ (.agg grZ)).run Tryz.prog W = .ok () W3 ∧ (loadVar 25 ⟨w.heap.size + 1,0,none⟩).run Tryz.prog W3 = .ok (.agg grZ) W3 ∧ GrRd W3 Kck grZ ∧ Below w.heap.size w W3:=a.put (graph0_rd _)
end
theorem ia_change {b o n len c : Nat} (h : n < len) (W : World) : (Instr.indexAt 52 (.slice (some ⟨b,o,none⟩) len c) (.int .i64 (n : Int))).run Tryz.prog W = .ok (.pointer (some ⟨b,o + n * 11,none⟩)) W:=by simp [go_sem,h]
theorem fa_chg34 (b o : Nat) (W : World) : (Instr.fieldAt 55 (.pointer (some ⟨b,o,none⟩)) 3).run Tryz.prog W = .ok (.pointer (some ⟨b,o + 3,none⟩)) W ∧ (Instr.fieldAt 55 (.pointer (some ⟨b,o,none⟩)) 4).run Tryz.prog W = .ok (.pointer (some ⟨b,o + 6,none⟩)) W:=by
 refine ⟨?_,?_⟩ <;> simp [go_sem]
structure LQA (w W : World) (g : GraphD) (x : Array Value) (p : Option Addr) (c : Nat) (l : List ChangeD) : Prop where
 b1 : Lies w.heap.size 25 x W
 gx : GrRd W g x
 cs : GRd CRd 11 W p c l
 b : Below w.heap.size w W
section
variable {w W W' : World} {g : GraphD} {x : Array Value} {p : Option Addr} {c : Nat} {l : List ChangeD}
theorem LQA.below (h : LQA w W g x p c l) (k : Below W.heap.size W W') : LQA w W' g x p c l:=⟨h.b1.below k,h.gx.below k,h.cs.below (fun h=>h.below k) k,Kaa h.b k⟩
theorem LQA.lg (h : LQA w W g x p c l) : (loadVar 25 ⟨w.heap.size,0,none⟩).run Tryz.prog W = .ok (.agg x) W:=h.b1.get (Kcy.size h.gx)
theorem LQA.start (h1 : GrRd w g x) (h2 : GRd CRd 11 w p c l) : LQA w (w.alloc (.cells x 25)) g x p c l:=by
 have b1:=Kah (w:=w) (.cells x 25)
 exact ⟨Lies.new x _ w,h1.below b1,h2.below (fun h=>h.below b1) b1,b1⟩
end
def sameCQ (a b : ChangeD) : Bool:=decide (a.kind = b.kind) && decide (a.id = b.id) && decide (a.other = b.other) && Kbc a.node b.node && Kbd a.rel b.rel
theorem sameCQ_iff (a b : ChangeD) : sameCQ a b = true ↔ a = b:=by
 have h1:=sameNQ_iff a.node b.node
 have h2:=sameRQ_iff a.rel b.rel
 unfold sameCQ
 obtain ⟨x1,x2,x3,x4,x5⟩:=a
 obtain ⟨y1,y2,y3,y4,y5⟩:=b
 simp only [Bool.and_eq_true,decide_eq_true_eq,ChangeD.mk.injEq] at h1 h2 ⊢
 rw [h1,h2,and_assoc,and_assoc,and_assoc]
theorem neq_i (n m : Int) (W : World) : (binOp .neq 2 (.int .i64 n) (.int .i64 m)).run Tryz.prog W = .ok (.bool (!decide (n = m))) W:=by
 by_cases h : n = m
 ·subst h;simp [go_sem]
 ·rw [decide_eq_false h];simp [go_sem,h]
theorem neq_k (n m : Int) (W : World) : (binOp .neq 53 (.int .i64 n) (.int .i64 m)).run Tryz.prog W = .ok (.bool (!decide (n = m))) W:=by
 by_cases h : n = m
 ·subst h;simp [go_sem]
 ·rw [decide_eq_false h];simp [go_sem,h]
theorem fa_chgo (b o : Nat) (W : World) : (Instr.fieldAt 55 (.pointer (some ⟨b,o,none⟩)) 0).run Tryz.prog W = .ok (.pointer (some ⟨b,o,none⟩)) W ∧ (Instr.fieldAt 55 (.pointer (some ⟨b,o,none⟩)) 1).run Tryz.prog W = .ok (.pointer (some ⟨b,o + 1,none⟩)) W ∧ (Instr.fieldAt 55 (.pointer (some ⟨b,o,none⟩)) 2).run Tryz.prog W = .ok (.pointer (some ⟨b,o + 2,none⟩)) W:=by
 refine ⟨?_,?_,?_⟩ <;> simp [go_sem]
theorem change_cells {w : World} {b o : Nat} {c : ChangeD} {cs : Array Value} (hv : CRd w c cs) (hc : ∀ (i : Nat) (u : Value),cs[i]? = some u → w.cell? ⟨b,o + i,none⟩ = some u) :
 w.cell? ⟨b,o,none⟩ = some (.int .i64 c.kind) ∧ w.cell? ⟨b,o + 1,none⟩ = some (.int .i64 c.id) ∧ w.cell? ⟨b,o + 2,none⟩ = some (.int .i64 c.other) ∧ ∃ ca cb,NRd w c.node ca ∧ RRd w c.rel cb ∧ (∀ (i : Nat) (u : Value),ca[i]? = some u → w.cell? ⟨b,o + 3 + i,none⟩ = some u) ∧ ∀ (i : Nat) (u : Value),cb[i]? = some u → w.cell? ⟨b,o + 6 + i,none⟩ = some u:=by
 obtain ⟨ca,cb,ecs,hna,hrb⟩:=hv
 have hsa:=Kb9.size hna
 refine ⟨hc 0 _ (by rw [ecs,Array.append_assoc,Array.getElem?_append_left (by simp)];rfl),hc 1 _ (by rw [ecs,Array.append_assoc,Array.getElem?_append_left (by simp)];rfl),hc 2 _ (by rw [ecs,Array.append_assoc,Array.getElem?_append_left (by simp)];rfl),ca,cb,hna,hrb,fun i u hu=>?_,fun i u hu=>?_⟩
 ·rw [Nat.add_assoc]
  refine hc _ _ ?_
  rw [ecs,Array.append_assoc,Array.getElem?_append_right (by simp),Array.getElem?_append_left (by have:=(Array.getElem?_eq_some_iff.1 hu).1;simp;omega)]
  simpa using hu
 ·rw [Nat.add_assoc]
  refine hc _ _ ?_
  rw [ecs,Array.getElem?_append_right (by rw [Array.size_append,hsa];simp),Array.size_append,hsa]
  simpa using hu
theorem sameChanges_any {w : World} {p1 p2 : Option Addr} {c1 c2 : Nat} {a b : List ChangeD} (ha : GRd CRd 11 w p1 c1 a) (hb : GRd CRd 11 w p2 c2 b) : Calls Tryz.prog 29 #[.slice p1 a.length c1,.slice p2 b.length c2] w fun e w'=>e = .returned (.bool (all2 sameCQ a b)) ∧ Below w.heap.size w w':=by
 have z1 : (a.length : Int) ≤ 140737488355328:=by have:=ha.1.2.1;omega
 have z2 : (b.length : Int) ≤ 140737488355328:=by have:=hb.1.2.1;omega
 have H:=yh (And.intro ha hb)
 clear ha hb
 by_cases hl : a.length = b.length
 rotate_left
 ·have HF:=yh (all2_ne (f:=sameCQ) hl)
  have hl2 : ¬ (a.length : Int) = (b.length : Int):=by omega
  have hl3 : ((a.length : Int) == (b.length : Int)) = false:=by rw [beq_eq_false_iff_ne];exact hl2
  generalize a.length = n1 at *
  generalize b.length = n2 at *
  clear hl
  go_enter Tryz.func29,Tryz.ntmps29
  go_wp2
  go_ret
  exact ⟨Kak HF.out.symm,Below.refl _ _⟩
 ·have HL:=yh hl
  have hle : (b.length : Int) = (a.length : Int):=by omega
  clear hl
  go_enter Tryz.func29,Tryz.ntmps29
  go_wp2
  clear hle
  go_loopw [5] (fun i W=>∃ j : Nat,j ≤ a.length ∧ i = .int .i64 (j : Int) ∧ Hid (AllJ sameCQ a b j ∧ Below w.heap.size w W)) (fun i _=>a.length - (intOf i).toNat)
  case atStart=>exact ⟨0,Nat.zero_le _,rfl,yh ⟨AllJ.zero _ _ _,Below.refl _ _⟩⟩
  case round =>
   obtain ⟨j,hj,rfl,HI⟩:=hrel
   by_cases hlt : j < a.length
   ·have hlt1 : j + 1 ≤ a.length:=hlt
    have hltb : j < b.length:=by have:=HL.out;omega
    obtain ⟨b1,o1,cs1,rfl,_,hcc1,hv1⟩:=(H.out.1.below (fun h=>h.below HI.out.2) HI.out.2).get hlt
    obtain ⟨b2,o2,cs2,rfl,_,hcc2,hv2⟩:=(H.out.2.below (fun h=>h.below HI.out.2) HI.out.2).get hltb
    obtain ⟨p0,p1,p2,ca,cb,hna,hra,ra,sa⟩:=change_cells hv1 hcc1
    obtain ⟨q0,q1,q2,da,db,hnb,hrb,rb,sb⟩:=change_cells hv2 hcc2
    have hi1 : ∀ W' : World,(Instr.indexAt 52 (.slice (some ⟨b1,o1,none⟩) a.length c1) (.int .i64 (j : Int))).run Tryz.prog W' = .ok (.pointer (some ⟨b1,o1 + j * 11,none⟩)) W':=fun W'=>ia_change hlt W'
    have hi2 : ∀ W' : World,(Instr.indexAt 52 (.slice (some ⟨b2,o2,none⟩) b.length c2) (.int .i64 (j : Int))).run Tryz.prog W' = .ok (.pointer (some ⟨b2,o2 + j * 11,none⟩)) W':=fun W'=>ia_change hltb W'
    have h1:=fun W=>neq_k a[j].kind b[j].kind W
    have h2:=fun W=>neq_i a[j].id b[j].id W
    have h3:=fun W=>neq_i a[j].other b[j].other W
    have hcn:=fun W (g : Below wr.heap.size wr W)=>Kep (hna.below g) (hnb.below g)
    have hcr:=fun W (g : Below wr.heap.size wr W)=>sameRelD_any (hra.below g) (hrb.below g)
    have hno:=all2_no (f:=sameCQ) (j:=j) hlt hltb
    have hye:=HI.out.1.succ hlt hltb
    have heq : sameCQ a[j] b[j] = (decide (a[j].kind = b[j].kind) && decide (a[j].id = b[j].id) && decide (a[j].other = b[j].other) && Kbc a[j].node b[j].node && Kbd a[j].rel b[j].rel):=rfl
    rw [heq] at hno hye
    generalize decide (a[j].kind = b[j].kind) = b1' at *
    generalize decide (a[j].id = b[j].id) = b2' at *
    generalize decide (a[j].other = b[j].other) = b3' at *
    generalize Kbc a[j].node b[j].node = b4 at *
    generalize Kbd a[j].rel b[j].rel = b5 at *
    have HM:=yh (And.intro hno hye)
    have HB1:=yh HI.out.2
    have hB0 : Below wr.heap.size wr wr.drew:=(Below.refl _ wr).drew
    clear heq hno hye hv1 hv2 hcc1 hcc2 HI
    generalize a[j].kind = ka at *
    generalize b[j].kind = kb at *
    generalize a[j].id = ia at *
    generalize b[j].id = ib at *
    generalize a[j].other = oa at *
    generalize b[j].other = ob at *
    have HX:=yh (And.intro hi1 (And.intro hi2 (And.intro p0 (And.intro p1 (And.intro p2 (And.intro q0 (And.intro q1 (And.intro q2 (And.intro h1 (And.intro h2 (And.intro h3 (And.intro hna (And.intro hnb (And.intro hra (And.intro hrb (And.intro ra (And.intro rb (And.intro sa (And.intro sb (And.intro hcn (And.intro hcr hB0)))))))))))))))))))))
    clear hi1 hi2 p0 p1 p2 q0 q1 q2 h1 h2 h3 hna hnb hra hrb ra rb sa sb hcn hcr hB0
    go_wp2
    obtain ⟨hi1,hi2,p0,p1,p2,q0,q1,q2,h1,h2,h3,hna,hnb,hra,hrb,ra,rb,sa,sb,hcn,hcr,hB0⟩:=HX.out
    refine Kag (fun W=>Below wr.heap.size wr W) (by kernel_rfl) hB0 (fun hS=>?_)
    refine tm 0 17 (v:=.slice (some ⟨b1,o1,none⟩) a.length c1) rfl rfl rfl ?_;simp only [zP]
    refine tm 1 18 (v:=.int .i64 (j : Int)) rfl rfl rfl ?_;simp only [zP]
    refine tk 2 19 (v:=.pointer (some ⟨b1,o1 + j * 11,none⟩)) rfl rfl (fun W hW=>Kai rfl rfl rfl (hi1 W)) ?_;simp only [zP]
    refine tk 3 20 (v:=.pointer (some ⟨b1,o1 + j * 11,none⟩)) rfl rfl (fun W hW=>Kab rfl rfl ((fa_chgo _ _ W).1)) ?_;simp only [zP]
    refine tk 4 21 (v:=.int .i64 ka) rfl rfl (fun W hW=>Kac rfl rfl (Kaf (w:=W) Tryz.underlying53 rfl (Kad hW (ltOf p0) p0))) ?_;simp only [zP]
    refine tm 5 22 (v:=.slice (some ⟨b2,o2,none⟩) b.length c2) rfl rfl rfl ?_;simp only [zP]
    refine tm 6 23 (v:=.int .i64 (j : Int)) rfl rfl rfl ?_;simp only [zP]
    refine tk 7 24 (v:=.pointer (some ⟨b2,o2 + j * 11,none⟩)) rfl rfl (fun W hW=>Kai rfl rfl rfl (hi2 W)) ?_;simp only [zP]
    refine tk 8 25 (v:=.pointer (some ⟨b2,o2 + j * 11,none⟩)) rfl rfl (fun W hW=>Kab rfl rfl ((fa_chgo _ _ W).1)) ?_;simp only [zP]
    refine tk 9 26 (v:=.int .i64 kb) rfl rfl (fun W hW=>Kac rfl rfl (Kaf (w:=W) Tryz.underlying53 rfl (Kad hW (ltOf q0) q0))) ?_;simp only [zP]
    cases b1' with
    | true =>
      refine tk 10 27 (v:=.bool false) rfl rfl (fun W hW=>Kal rfl rfl rfl (h1 W)) ?_;simp only [zP]
      refine tm 11 28 (v:=.bool false) rfl rfl rfl ?_;simp only [zP]
      refine tm 12 29 (v:=.slice (some ⟨b1,o1,none⟩) a.length c1) rfl rfl rfl ?_;simp only [zP]
      refine tm 13 30 (v:=.int .i64 (j : Int)) rfl rfl rfl ?_;simp only [zP]
      refine tk 14 31 (v:=.pointer (some ⟨b1,o1 + j * 11,none⟩)) rfl rfl (fun W hW=>Kai rfl rfl rfl (hi1 W)) ?_;simp only [zP]
      refine tk 15 32 (v:=.pointer (some ⟨b1,o1 + j * 11 + 1,none⟩)) rfl rfl (fun W hW=>Kab rfl rfl ((fa_chgo _ _ W).2.1)) ?_;simp only [zP]
      refine tk 16 33 (v:=.int .i64 ia) rfl rfl (fun W hW=>Kac rfl rfl (Kaf (w:=W) Tryz.underlying2 rfl (Kad hW (ltOf p1) p1))) ?_;simp only [zP]
      refine tm 17 34 (v:=.slice (some ⟨b2,o2,none⟩) b.length c2) rfl rfl rfl ?_;simp only [zP]
      refine tm 18 35 (v:=.int .i64 (j : Int)) rfl rfl rfl ?_;simp only [zP]
      refine tk 19 36 (v:=.pointer (some ⟨b2,o2 + j * 11,none⟩)) rfl rfl (fun W hW=>Kai rfl rfl rfl (hi2 W)) ?_;simp only [zP]
      refine tk 20 37 (v:=.pointer (some ⟨b2,o2 + j * 11 + 1,none⟩)) rfl rfl (fun W hW=>Kab rfl rfl ((fa_chgo _ _ W).2.1)) ?_;simp only [zP]
      refine tk 21 38 (v:=.int .i64 ib) rfl rfl (fun W hW=>Kac rfl rfl (Kaf (w:=W) Tryz.underlying2 rfl (Kad hW (ltOf q1) q1))) ?_;simp only [zP]
      cases b2' with
      | true =>
        refine tk 22 39 (v:=.bool false) rfl rfl (fun W hW=>Kal rfl rfl rfl (h2 W)) ?_;simp only [zP]
        refine tk 23 40 (v:=.bool false) rfl rfl (fun W hW=>rfl) ?_;simp only [zP]
        refine tm 24 41 (v:=.bool false) rfl rfl rfl ?_;simp only [zP]
        refine tm 25 42 (v:=.slice (some ⟨b1,o1,none⟩) a.length c1) rfl rfl rfl ?_;simp only [zP]
        refine tm 26 43 (v:=.int .i64 (j : Int)) rfl rfl rfl ?_;simp only [zP]
        refine tk 27 44 (v:=.pointer (some ⟨b1,o1 + j * 11,none⟩)) rfl rfl (fun W hW=>Kai rfl rfl rfl (hi1 W)) ?_;simp only [zP]
        refine tk 28 45 (v:=.pointer (some ⟨b1,o1 + j * 11 + 2,none⟩)) rfl rfl (fun W hW=>Kab rfl rfl ((fa_chgo _ _ W).2.2)) ?_;simp only [zP]
        refine tk 29 46 (v:=.int .i64 oa) rfl rfl (fun W hW=>Kac rfl rfl (Kaf (w:=W) Tryz.underlying2 rfl (Kad hW (ltOf p2) p2))) ?_;simp only [zP]
        refine tm 30 47 (v:=.slice (some ⟨b2,o2,none⟩) b.length c2) rfl rfl rfl ?_;simp only [zP]
        refine tm 31 48 (v:=.int .i64 (j : Int)) rfl rfl rfl ?_;simp only [zP]
        refine tk 32 49 (v:=.pointer (some ⟨b2,o2 + j * 11,none⟩)) rfl rfl (fun W hW=>Kai rfl rfl rfl (hi2 W)) ?_;simp only [zP]
        refine tk 33 50 (v:=.pointer (some ⟨b2,o2 + j * 11 + 2,none⟩)) rfl rfl (fun W hW=>Kab rfl rfl ((fa_chgo _ _ W).2.2)) ?_;simp only [zP]
        refine tk 34 51 (v:=.int .i64 ob) rfl rfl (fun W hW=>Kac rfl rfl (Kaf (w:=W) Tryz.underlying2 rfl (Kad hW (ltOf q2) q2))) ?_;simp only [zP]
        cases b3' with
        | true =>
          refine tk 35 52 (v:=.bool false) rfl rfl (fun W hW=>Kal rfl rfl rfl (h3 W)) ?_;simp only [zP]
          refine tk 36 53 (v:=.bool false) rfl rfl (fun W hW=>rfl) ?_;simp only [zP]
          refine tm 37 54 (v:=.bool false) rfl rfl rfl ?_;simp only [zP]
          refine tm 38 55 (v:=.slice (some ⟨b1,o1,none⟩) a.length c1) rfl rfl rfl ?_;simp only [zP]
          refine tm 39 56 (v:=.int .i64 (j : Int)) rfl rfl rfl ?_;simp only [zP]
          refine tk 40 57 (v:=.pointer (some ⟨b1,o1 + j * 11,none⟩)) rfl rfl (fun W hW=>Kai rfl rfl rfl (hi1 W)) ?_;simp only [zP]
          refine tk 41 58 (v:=.pointer (some ⟨b1,o1 + j * 11 + 3,none⟩)) rfl rfl (fun W hW=>Kab rfl rfl ((fa_chg34 _ _ W).1)) ?_;simp only [zP]
          refine tk 42 59 (v:=.agg ca) rfl rfl (fun W hW=>Kac rfl rfl (StT.load (P:=Tryz.prog) (W:=W) Kay (Kb9.size hna) fun i u hu=>Kad hW (ltOf (ra i u hu)) (ra i u hu))) ?_;simp only [zP]
          refine tm 43 60 (v:=.slice (some ⟨b2,o2,none⟩) b.length c2) rfl rfl rfl ?_;simp only [zP]
          refine tm 44 61 (v:=.int .i64 (j : Int)) rfl rfl rfl ?_;simp only [zP]
          refine tk 45 62 (v:=.pointer (some ⟨b2,o2 + j * 11,none⟩)) rfl rfl (fun W hW=>Kai rfl rfl rfl (hi2 W)) ?_;simp only [zP]
          refine tk 46 63 (v:=.pointer (some ⟨b2,o2 + j * 11 + 3,none⟩)) rfl rfl (fun W hW=>Kab rfl rfl ((fa_chg34 _ _ W).1)) ?_;simp only [zP]
          refine tk 47 64 (v:=.agg da) rfl rfl (fun W hW=>Kac rfl rfl (StT.load (P:=Tryz.prog) (W:=W) Kay (Kb9.size hnb) fun i u hu=>Kad hW (ltOf (rb i u hu)) (rb i u hu))) ?_;simp only [zP]
          cases b4 with
          | true =>
            refine Kan 48 65 rfl rfl (by kernel_rfl) rfl (Kam [.agg ca,.agg da] rfl rfl Tryz.func54 (by kernel_rfl) (by kernel_rfl)) ?_
            refine (hcn _ hS).mono ?_
            rintro e W48 ⟨rfl,hb48⟩
            have hS48:=Kaa hS hb48
            refine ⟨_,rfl,.inr hS48,?_⟩;simp only [zP]
            refine tk 49 66 (v:=.bool false) rfl rfl (fun W hW=>Kap (b:=true) rfl rfl) ?_;simp only [zP]
            refine tk 50 67 (v:=.bool false) rfl rfl (fun W hW=>rfl) ?_;simp only [zP]
            refine tm 51 68 (v:=.bool false) rfl rfl rfl ?_;simp only [zP]
            refine tm 52 69 (v:=.slice (some ⟨b1,o1,none⟩) a.length c1) rfl rfl rfl ?_;simp only [zP]
            refine tm 53 70 (v:=.int .i64 (j : Int)) rfl rfl rfl ?_;simp only [zP]
            refine tk 54 71 (v:=.pointer (some ⟨b1,o1 + j * 11,none⟩)) rfl rfl (fun W hW=>Kai rfl rfl rfl (hi1 W)) ?_;simp only [zP]
            refine tk 55 72 (v:=.pointer (some ⟨b1,o1 + j * 11 + 6,none⟩)) rfl rfl (fun W hW=>Kab rfl rfl ((fa_chg34 _ _ W).2)) ?_;simp only [zP]
            refine tk 56 73 (v:=.agg cb) rfl rfl (fun W hW=>Kac rfl rfl (StT.load (P:=Tryz.prog) (W:=W) Kbb (Kc5.size hra) fun i u hu=>Kad hW (ltOf (sa i u hu)) (sa i u hu))) ?_;simp only [zP]
            refine tm 57 74 (v:=.slice (some ⟨b2,o2,none⟩) b.length c2) rfl rfl rfl ?_;simp only [zP]
            refine tm 58 75 (v:=.int .i64 (j : Int)) rfl rfl rfl ?_;simp only [zP]
            refine tk 59 76 (v:=.pointer (some ⟨b2,o2 + j * 11,none⟩)) rfl rfl (fun W hW=>Kai rfl rfl rfl (hi2 W)) ?_;simp only [zP]
            refine tk 60 77 (v:=.pointer (some ⟨b2,o2 + j * 11 + 6,none⟩)) rfl rfl (fun W hW=>Kab rfl rfl ((fa_chg34 _ _ W).2)) ?_;simp only [zP]
            refine tk 61 78 (v:=.agg db) rfl rfl (fun W hW=>Kac rfl rfl (StT.load (P:=Tryz.prog) (W:=W) Kbb (Kc5.size hrb) fun i u hu=>Kad hW (ltOf (sb i u hu)) (sb i u hu))) ?_;simp only [zP]
            cases b5 with
            | true =>
              refine Kan 62 79 rfl rfl (by kernel_rfl) rfl (Kam [.agg cb,.agg db] rfl rfl Tryz.func55 (by kernel_rfl) (by kernel_rfl)) ?_
              refine (hcr _ hS48).mono ?_
              rintro e W62 ⟨rfl,hb62⟩
              have hS62:=Kaa hS48 hb62
              refine ⟨_,rfl,.inr hS62,?_⟩;simp only [zP]
              refine tk 63 80 (v:=.bool false) rfl rfl (fun W hW=>Kap (b:=true) rfl rfl) ?_;simp only [zP]
              refine tk 64 81 (v:=.bool false) rfl rfl (fun W hW=>rfl) ?_;simp only [zP]
              refine done (by kernel_rfl) ?_ _
              have HB:=yh (Kaa HB1.out hS62)
              clear hS hS48 hb48 hS62 hb62 hi1 hi2 p0 p1 p2 q0 q1 q2 h1 h2 h3 hna hnb hra hrb ra rb sa sb hcn hcr hB0 HX
              go_wp2
              go_roundw
              case rel=>exact ⟨j + 1,hlt1,by go_num,yh ⟨HM.out.2 (by simp),HB.out⟩⟩
              case measure=>simp [intOf];omega
            | false =>
              refine Kan 62 79 rfl rfl (by kernel_rfl) rfl (Kam [.agg cb,.agg db] rfl rfl Tryz.func55 (by kernel_rfl) (by kernel_rfl)) ?_
              refine (hcr _ hS48).mono ?_
              rintro e W62 ⟨rfl,hb62⟩
              have hS62:=Kaa hS48 hb62
              refine ⟨_,rfl,.inr hS62,?_⟩;simp only [zP]
              refine tk 63 80 (v:=.bool true) rfl rfl (fun W hW=>Kap (b:=false) rfl rfl) ?_;simp only [zP]
              refine tk 64 81 (v:=.bool true) rfl rfl (fun W hW=>rfl) ?_;simp only [zP]
              refine done (by kernel_rfl) ?_ _
              have HB:=yh (Kaa HB1.out hS62)
              clear hS hS48 hb48 hS62 hb62 hi1 hi2 p0 p1 p2 q0 q1 q2 h1 h2 h3 hna hnb hra hrb ra rb sa sb hcn hcr hB0 HX
              go_wp2
              go_ret
              exact ⟨Kak (HM.out.1 (by simp)).symm,HB.out⟩
          | false =>
            refine Kan 48 65 rfl rfl (by kernel_rfl) rfl (Kam [.agg ca,.agg da] rfl rfl Tryz.func54 (by kernel_rfl) (by kernel_rfl)) ?_
            refine (hcn _ hS).mono ?_
            rintro e W48 ⟨rfl,hb48⟩
            have hS48:=Kaa hS hb48
            refine ⟨_,rfl,.inr hS48,?_⟩;simp only [zP]
            refine tk 49 66 (v:=.bool true) rfl rfl (fun W hW=>Kap (b:=false) rfl rfl) ?_;simp only [zP]
            refine tk 50 67 (v:=.bool true) rfl rfl (fun W hW=>rfl) ?_;simp only [zP]
            refine tm 51 68 (v:=.bool true) rfl rfl rfl ?_;simp only [zP]
            refine tx 52 69 ?_;simp only [zP]
            refine tx 53 70 ?_;simp only [zP]
            refine tx 54 71 ?_;simp only [zP]
            refine tx 55 72 ?_;simp only [zP]
            refine tx 56 73 ?_;simp only [zP]
            refine tx 57 74 ?_;simp only [zP]
            refine tx 58 75 ?_;simp only [zP]
            refine tx 59 76 ?_;simp only [zP]
            refine tx 60 77 ?_;simp only [zP]
            refine tx 61 78 ?_;simp only [zP]
            refine Kas 62 79 rfl rfl (by kernel_rfl) rfl ?_ (.inr (by assumption));simp only [zP]
            refine tx 63 80 ?_;simp only [zP]
            refine tk 64 81 (v:=.bool true) rfl rfl (fun W hW=>rfl) ?_;simp only [zP]
            refine done (by kernel_rfl) ?_ _
            have HB:=yh (Kaa HB1.out hS48)
            clear hS hS48 hb48 hi1 hi2 p0 p1 p2 q0 q1 q2 h1 h2 h3 hna hnb hra hrb ra rb sa sb hcn hcr hB0 HX
            go_wp2
            go_ret
            exact ⟨Kak (HM.out.1 (by simp)).symm,HB.out⟩
        | false =>
          refine tk 35 52 (v:=.bool true) rfl rfl (fun W hW=>Kal rfl rfl rfl (h3 W)) ?_;simp only [zP]
          refine tk 36 53 (v:=.bool true) rfl rfl (fun W hW=>rfl) ?_;simp only [zP]
          refine tm 37 54 (v:=.bool true) rfl rfl rfl ?_;simp only [zP]
          refine tx 38 55 ?_;simp only [zP]
          refine tx 39 56 ?_;simp only [zP]
          refine tx 40 57 ?_;simp only [zP]
          refine tx 41 58 ?_;simp only [zP]
          refine tx 42 59 ?_;simp only [zP]
          refine tx 43 60 ?_;simp only [zP]
          refine tx 44 61 ?_;simp only [zP]
          refine tx 45 62 ?_;simp only [zP]
          refine tx 46 63 ?_;simp only [zP]
          refine tx 47 64 ?_;simp only [zP]
          refine Kas 48 65 rfl rfl (by kernel_rfl) rfl ?_ (.inr (by assumption));simp only [zP]
          refine tx 49 66 ?_;simp only [zP]
          refine tk 50 67 (v:=.bool true) rfl rfl (fun W hW=>rfl) ?_;simp only [zP]
          refine tm 51 68 (v:=.bool true) rfl rfl rfl ?_;simp only [zP]
          refine tx 52 69 ?_;simp only [zP]
          refine tx 53 70 ?_;simp only [zP]
          refine tx 54 71 ?_;simp only [zP]
          refine tx 55 72 ?_;simp only [zP]
          refine tx 56 73 ?_;simp only [zP]
          refine tx 57 74 ?_;simp only [zP]
          refine tx 58 75 ?_;simp only [zP]
          refine tx 59 76 ?_;simp only [zP]
          refine tx 60 77 ?_;simp only [zP]
          refine tx 61 78 ?_;simp only [zP]
          refine Kas 62 79 rfl rfl (by kernel_rfl) rfl ?_ (.inr (by assumption));simp only [zP]
          refine tx 63 80 ?_;simp only [zP]
          refine tk 64 81 (v:=.bool true) rfl rfl (fun W hW=>rfl) ?_;simp only [zP]
          refine done (by kernel_rfl) ?_ _
          have HB:=yh (Kaa HB1.out hS)
          clear hS hi1 hi2 p0 p1 p2 q0 q1 q2 h1 h2 h3 hna hnb hra hrb ra rb sa sb hcn hcr hB0 HX
          go_wp2
          go_ret
          exact ⟨Kak (HM.out.1 (by simp)).symm,HB.out⟩
      | false =>
        refine tk 22 39 (v:=.bool true) rfl rfl (fun W hW=>Kal rfl rfl rfl (h2 W)) ?_;simp only [zP]
        refine tk 23 40 (v:=.bool true) rfl rfl (fun W hW=>rfl) ?_;simp only [zP]
        refine tm 24 41 (v:=.bool true) rfl rfl rfl ?_;simp only [zP]
        refine tx 25 42 ?_;simp only [zP]
        refine tx 26 43 ?_;simp only [zP]
        refine tx 27 44 ?_;simp only [zP]
        refine tx 28 45 ?_;simp only [zP]
        refine tx 29 46 ?_;simp only [zP]
        refine tx 30 47 ?_;simp only [zP]
        refine tx 31 48 ?_;simp only [zP]
        refine tx 32 49 ?_;simp only [zP]
        refine tx 33 50 ?_;simp only [zP]
        refine tx 34 51 ?_;simp only [zP]
        refine tx 35 52 ?_;simp only [zP]
        refine tk 36 53 (v:=.bool true) rfl rfl (fun W hW=>rfl) ?_;simp only [zP]
        refine tm 37 54 (v:=.bool true) rfl rfl rfl ?_;simp only [zP]
        refine tx 38 55 ?_;simp only [zP]
        refine tx 39 56 ?_;simp only [zP]
        refine tx 40 57 ?_;simp only [zP]
        refine tx 41 58 ?_;simp only [zP]
        refine tx 42 59 ?_;simp only [zP]
        refine tx 43 60 ?_;simp only [zP]
        refine tx 44 61 ?_;simp only [zP]
        refine tx 45 62 ?_;simp only [zP]
        refine tx 46 63 ?_;simp only [zP]
        refine tx 47 64 ?_;simp only [zP]
        refine Kas 48 65 rfl rfl (by kernel_rfl) rfl ?_ (.inr (by assumption));simp only [zP]
        refine tx 49 66 ?_;simp only [zP]
        refine tk 50 67 (v:=.bool true) rfl rfl (fun W hW=>rfl) ?_;simp only [zP]
        refine tm 51 68 (v:=.bool true) rfl rfl rfl ?_;simp only [zP]
        refine tx 52 69 ?_;simp only [zP]
        refine tx 53 70 ?_;simp only [zP]
        refine tx 54 71 ?_;simp only [zP]
        refine tx 55 72 ?_;simp only [zP]
        refine tx 56 73 ?_;simp only [zP]
        refine tx 57 74 ?_;simp only [zP]
        refine tx 58 75 ?_;simp only [zP]
        refine tx 59 76 ?_;simp only [zP]
        refine tx 60 77 ?_;simp only [zP]
        refine tx 61 78 ?_;simp only [zP]
        refine Kas 62 79 rfl rfl (by kernel_rfl) rfl ?_ (.inr (by assumption));simp only [zP]
        refine tx 63 80 ?_;simp only [zP]
        refine tk 64 81 (v:=.bool true) rfl rfl (fun W hW=>rfl) ?_;simp only [zP]
        refine done (by kernel_rfl) ?_ _
        have HB:=yh (Kaa HB1.out hS)
        clear hS hi1 hi2 p0 p1 p2 q0 q1 q2 h1 h2 h3 hna hnb hra hrb ra rb sa sb hcn hcr hB0 HX
        go_wp2
        go_ret
        exact ⟨Kak (HM.out.1 (by simp)).symm,HB.out⟩
    | false =>
      refine tk 10 27 (v:=.bool true) rfl rfl (fun W hW=>Kal rfl rfl rfl (h1 W)) ?_;simp only [zP]
      refine tm 11 28 (v:=.bool true) rfl rfl rfl ?_;simp only [zP]
      refine tx 12 29 ?_;simp only [zP]
      refine tx 13 30 ?_;simp only [zP]
      refine tx 14 31 ?_;simp only [zP]
      refine tx 15 32 ?_;simp only [zP]
      refine tx 16 33 ?_;simp only [zP]
      refine tx 17 34 ?_;simp only [zP]
      refine tx 18 35 ?_;simp only [zP]
      refine tx 19 36 ?_;simp only [zP]
      refine tx 20 37 ?_;simp only [zP]
      refine tx 21 38 ?_;simp only [zP]
      refine tx 22 39 ?_;simp only [zP]
      refine tk 23 40 (v:=.bool true) rfl rfl (fun W hW=>rfl) ?_;simp only [zP]
      refine tm 24 41 (v:=.bool true) rfl rfl rfl ?_;simp only [zP]
      refine tx 25 42 ?_;simp only [zP]
      refine tx 26 43 ?_;simp only [zP]
      refine tx 27 44 ?_;simp only [zP]
      refine tx 28 45 ?_;simp only [zP]
      refine tx 29 46 ?_;simp only [zP]
      refine tx 30 47 ?_;simp only [zP]
      refine tx 31 48 ?_;simp only [zP]
      refine tx 32 49 ?_;simp only [zP]
      refine tx 33 50 ?_;simp only [zP]
      refine tx 34 51 ?_;simp only [zP]
      refine tx 35 52 ?_;simp only [zP]
      refine tk 36 53 (v:=.bool true) rfl rfl (fun W hW=>rfl) ?_;simp only [zP]
      refine tm 37 54 (v:=.bool true) rfl rfl rfl ?_;simp only [zP]
      refine tx 38 55 ?_;simp only [zP]
      refine tx 39 56 ?_;simp only [zP]
      refine tx 40 57 ?_;simp only [zP]
      refine tx 41 58 ?_;simp only [zP]
      refine tx 42 59 ?_;simp only [zP]
      refine tx 43 60 ?_;simp only [zP]
      refine tx 44 61 ?_;simp only [zP]
      refine tx 45 62 ?_;simp only [zP]
      refine tx 46 63 ?_;simp only [zP]
      refine tx 47 64 ?_;simp only [zP]
      refine Kas 48 65 rfl rfl (by kernel_rfl) rfl ?_ (.inr (by assumption));simp only [zP]
      refine tx 49 66 ?_;simp only [zP]
      refine tk 50 67 (v:=.bool true) rfl rfl (fun W hW=>rfl) ?_;simp only [zP]
      refine tm 51 68 (v:=.bool true) rfl rfl rfl ?_;simp only [zP]
      refine tx 52 69 ?_;simp only [zP]
      refine tx 53 70 ?_;simp only [zP]
      refine tx 54 71 ?_;simp only [zP]
      refine tx 55 72 ?_;simp only [zP]
      refine tx 56 73 ?_;simp only [zP]
      refine tx 57 74 ?_;simp only [zP]
      refine tx 58 75 ?_;simp only [zP]
      refine tx 59 76 ?_;simp only [zP]
      refine tx 60 77 ?_;simp only [zP]
      refine tx 61 78 ?_;simp only [zP]
      refine Kas 62 79 rfl rfl (by kernel_rfl) rfl ?_ (.inr (by assumption));simp only [zP]
      refine tx 63 80 ?_;simp only [zP]
      refine tk 64 81 (v:=.bool true) rfl rfl (fun W hW=>rfl) ?_;simp only [zP]
      refine done (by kernel_rfl) ?_ _
      have HB:=yh (Kaa HB1.out hS)
      clear hS hi1 hi2 p0 p1 p2 q0 q1 q2 h1 h2 h3 hna hnb hra hrb ra rb sa sb hcn hcr hB0 HX
      go_wp2
      go_ret
      exact ⟨Kak (HM.out.1 (by simp)).symm,HB.out⟩
   ·obtain rfl : j = a.length:=by omega
    have HF:=yh (HI.out.1.all HL.out)
    have HB:=yh HI.out.2
    clear HI
    go_wp2
    go_ret
    exact ⟨Kak HF.out.symm,HB.out⟩
end Go.Proofs.YtihfnegakcghiaaGreatDoor
