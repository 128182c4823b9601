/- GraphNil, for what is of bulk at most 1048576: the law returns true, and the arguments read as they did. The listed tables of Go's library read as the program's text lays them. -/
import Derived.Test.YtihfnegakcghiaaGreatDoorZGnila
import Derived.Test.YtihfnegakcghiaaGreatDoorZGnilb
import Derived.Test.YtihfnegakcghiaaGreatDoorZGnilc
import Derived.Lib.Join
import Derived.Lib.ItoaNum
import Derived.Lib.Bytealg
import Derived.Lib.Small
import Derived.Lib.Replace
import Derived.Lib.SplitLaws
import Derived.Test.YtihfnegakcghiaaGreatDoorCards
import Derived.Test.YtihfnegakcghiaaGreatDoorTie
set_option linter.unusedSimpArgs false
set_option linter.unusedVariables false
set_option linter.unnecessarySimpa false
set_option maxRecDepth 100000
set_option maxHeartbeats 64000000
namespace Go.Proofs.YtihfnegakcghiaaGreatDoor
open Go.RowKit
theorem nes_bytesD (a b : List UInt8) (W : World) : (binOp .neq 9 (.string (strB a)) (.string (strB b))).run Tryz.prog W = .ok (.bool (!decide (a = b))) W:=by
 have e : (strB a = strB b) ↔ a = b:=strB_inj
 by_cases h : a = b
 ·subst h;simp [go_sem]
 ·rw [decide_eq_false h]
  simp [go_sem,Kas,h]
theorem alikeD_any : ∀ (v u : V) (w : World) (x y : Array Value),VRd w v x → VRd w u y →
 Calls Tryz.prog 166 #[.agg x,.agg y] w fun e w'=>e = .returned (.bool (Kck v u)) ∧ Below w.heap.size w w':=by
 refine V.ind fun k b n t ks l ih=>?_
 intro u w x y hx hy
 cases u with
 | mk k' b' n' t' ks' l' =>
 have hal : Kck (.mk k b n t ks l) (.mk k' b' n' t' ks' l') = (decide (k = k') && decide (b = b') && decide (n = n') && decide (t = t') && decide (ks = ks') && Kc2 l l'):=by rw [Kck];rfl
 rw [hal]
 clear hal
 obtain ⟨pk,ck,pl,cl,rfl,htx,hk1,hl1⟩:=Kb0.1 hx
 obtain ⟨qk,dk,ql,dl,rfl,hty,hk2,hl2⟩:=Kb0.1 hy
 clear hx hy
 have z1 : (ks.length : Int) ≤ 140737488355328:=by have:=hk1.2.1.1;omega
 have z2 : (l.length : Int) ≤ 140737488355328:=by have:=hl1.1.2.1.1;omega
 have z3 : (ks'.length : Int) ≤ 140737488355328:=by have:=hk2.2.1.1;omega
 have z4 : (l'.length : Int) ≤ 140737488355328:=by have:=hl2.1.2.1.1;omega
 have hb1:=Kad (w:=w) (.cells #[.int .i64 k,.bool b,.int .i64 n,.string (strB t),.slice pk ks.length ck,.slice pl l.length cl] 31)
 have hb2:=Kad (w:=w.alloc (.cells #[.int .i64 k,.bool b,.int .i64 n,.string (strB t),.slice pk ks.length ck,.slice pl l.length cl] 31)) (.cells #[.int .i64 k',.bool b',.int .i64 n',.string (strB t'),.slice qk ks'.length dk,.slice ql l'.length dl] 31)
 have hbc : Below w.heap.size w ((w.alloc (.cells #[.int .i64 k,.bool b,.int .i64 n,.string (strB t),.slice pk ks.length ck,.slice pl l.length cl] 31)).alloc (.cells #[.int .i64 k',.bool b',.int .i64 n',.string (strB t'),.slice qk ks'.length dk,.slice ql l'.length dl] 31)):=Kaa hb1 hb2
 have hx8:=Kai hb2 (by simp) (heap_alloc_new w (.cells #[.int .i64 k,.bool b,.int .i64 n,.string (strB t),.slice pk ks.length ck,.slice pl l.length cl] 31))
 have hx9:=heap_alloc_new (w.alloc (.cells #[.int .i64 k,.bool b,.int .i64 n,.string (strB t),.slice pk ks.length ck,.slice pl l.length cl] 31)) (.cells #[.int .i64 k',.bool b',.int .i64 n',.string (strB t'),.slice qk ks'.length dk,.slice ql l'.length dl] 31)
 simp only [World.size_alloc] at hx9
 have HG:=yh (And.intro hx8 hx9)
 have HB:=yh hbc
 have HIH:=yh (fun (a : V) (ha : a ∈ l)=>ih a ha)
 have HK1:=yh (hk1.below hbc)
 have HK2:=yh (hk2.below hbc)
 have HL1:=yh (hl1.below hbc)
 have HL2:=yh (hl2.below hbc)
 clear ih hk1 hk2 hl1 hl2 hb1 hb2 hbc hx8 hx9 htx hty
 by_cases h0 : k = k'
 rotate_left
 ·have f0 : (k != k') = true:=by rw [bne_iff_ne];exact h0
  have HNE:=yh h0
  clear h0
  go_enter Tryz.func166,Tryz.ntmps166
  go_wp2
  go_ret
  exact ⟨by simp [HNE.out],HB.out⟩
 subst h0
 by_cases h1 : b = b'
 rotate_left
 ·have HNE:=yh h1
  cases b <;> cases b' <;> first | exact absurd rfl h1 | skip
  all_goals
   clear h1
   go_enter Tryz.func166,Tryz.ntmps166
   go_wp2
   go_ret
   exact ⟨by simp [HNE.out],HB.out⟩
 subst h1
 by_cases h2 : n = n'
 rotate_left
 ·have f0 : (n != n') = true:=by rw [bne_iff_ne];exact h2
  have HNE:=yh h2
  clear h2
  go_enter Tryz.func166,Tryz.ntmps166
  go_wp2
  go_ret
  exact ⟨by simp [HNE.out],HB.out⟩
 subst h2
 by_cases h3 : t = t'
 rotate_left
 ·have f0 : ((strB t).toList == (strB t').toList) = false:=by rw [Kas,Kas,beq_eq_false_iff_ne];exact h3
  have f1 : ((strB t).toList != (strB t').toList) = true:=by rw [bne,f0];rfl
  have HNE:=yh h3
  clear h3
  generalize strB t = s1 at *
  generalize strB t' = s2 at *
  go_enter Tryz.func166,Tryz.ntmps166
  go_wp2
  go_ret
  exact ⟨by simp [HNE.out],HB.out⟩
 subst h3
 by_cases h4 : ks.length = ks'.length
 rotate_left
 ·have f0 : ((ks.length : Int) != (ks'.length : Int)) = true:=by rw [bne_iff_ne];omega
  have HNE:=yh (show ¬ ks = ks' from fun e=>h4 (by rw [e]))
  clear h4
  go_enter Tryz.func166,Tryz.ntmps166
  go_wp2
  go_ret
  exact ⟨by simp [HNE.out],HB.out⟩
 by_cases h5 : l.length = l'.length
 rotate_left
 ·have f0 : ((l.length : Int) != (l'.length : Int)) = true:=by rw [bne_iff_ne];omega
  have HNE:=yh (show Kc2 l l' = false from by rw [Kcz,all2_ne h5])
  have f1 : ((ks.length : Int) != (ks'.length : Int)) = false:=by rw [h4];simp
  clear h5 h4
  go_enter Tryz.func166,Tryz.ntmps166
  go_wp2
  go_ret
  exact ⟨by simp [HNE.out],HB.out⟩
 have f0 : ((ks.length : Int) != (ks'.length : Int)) = false:=by rw [h4];simp
 have f1 : ((l.length : Int) != (l'.length : Int)) = false:=by rw [h5];simp
 have HLK:=yh h4
 have HLL:=yh h5
 clear h4 h5
 simp only [decide_true,Bool.true_and]
 go_enter Tryz.func166,Tryz.ntmps166
 go_wp2
 generalize hW0 : (w.alloc (.cells #[.int .i64 k,.bool b,.int .i64 n,.string (strB t),.slice pk ks.length ck,.slice pl l.length cl] 31)).alloc (.cells #[.int .i64 k,.bool b,.int .i64 n,.string (strB t),.slice qk ks'.length dk,.slice ql l'.length dl] 31) = W0 at *
 clear hW0
 go_loopw [5] (fun i W=>∃ j : Nat,j ≤ ks.length ∧ i = .int .i64 (j : Int) ∧ Hid (ks.take j = ks'.take j ∧ Below W0.heap.size W0 W)) (fun i _=>ks.length - (intOf i).toNat)
 case atStart=>exact ⟨0,Nat.zero_le _,rfl,yh ⟨by simp,Below.refl _ _⟩⟩
 case round =>
  obtain ⟨j,hj,rfl,HI⟩:=hrel
  obtain ⟨hg8,hg9⟩:=HG.out
  have p4:=Kac (o:=4) (Kai HI.out.2 (Array.getElem?_eq_some_iff.1 hg8).1 hg8) rfl
  clear hg8 hg9
  by_cases hlt : j < ks.length
  ·have hlt1 : j + 1 ≤ ks.length:=hlt
   have hlt2 : j < ks'.length:=by rw [← HLK.out];exact hlt
   obtain ⟨bk,ok,rfl,q0,_⟩:=HK1.out.get hlt
   obtain ⟨bk',ok',rfl,q1,_⟩:=HK2.out.get hlt2
   have hstep : ks[j] = ks'[j] → ks.take (j + 1) = ks'.take (j + 1):=fun e=>by rw [List.take_succ_eq_append_getElem hlt,List.take_succ_eq_append_getElem hlt2,HI.out.1,e]
   have hdiff : ks[j] ≠ ks'[j] → ks ≠ ks':=fun e e2=>by subst e2;exact e rfl
   have hnes:=nes_bytesD ks[j] ks'[j]
   generalize ks[j] = a1 at *
   generalize ks'[j] = a2 at *
   have hS0 : Below W0.heap.size W0 wr.drew:=HI.out.2.drew
   have hix : ∀ W' : World,(Instr.indexAt 26 (.slice (some ⟨bk,ok,none⟩) ks.length ck) (.int .i64 (j : Int))).run Tryz.prog W' = .ok (.pointer (some ⟨bk,ok + j,none⟩)) W':=by intro W';simp [go_sem,hlt]
   have hiy : ∀ W' : World,(Instr.indexAt 26 (.slice (some ⟨bk',ok',none⟩) ks'.length dk) (.int .i64 (j : Int))).run Tryz.prog W' = .ok (.pointer (some ⟨bk',ok' + j,none⟩)) W':=by intro W';simp [go_sem,hlt2]
   have hf4 : ∀ (g : Nat) (W' : World),(Instr.fieldAt 31 (.pointer (some ⟨g,0,none⟩)) 4).run Tryz.prog W' = .ok (.pointer (some ⟨g,4,none⟩)) W':=by intro g W';simp [go_sem]
   have HX:=yh (And.intro q0 (And.intro q1 (And.intro hstep (And.intro hdiff (And.intro hnes (And.intro hS0 (And.intro hix (And.intro hiy hf4))))))))
   clear q0 q1 hstep hdiff hnes hS0 hix hiy hf4 HI
   go_wp2
   obtain ⟨q0,q1,hstep,hdiff,hnes,hS0,hix,hiy,hf4⟩:=HX.out
   obtain ⟨hg8,hg9⟩:=HG.out
   refine Kah (fun W=>Below W0.heap.size W0 W) (by kernel_rfl) hS0 (fun hS=>?_)
   by_cases he : a1 = a2
   ·have hne : ∀ W,(binOp .neq 9 (.string (strB a1)) (.string (strB a2))).run Tryz.prog W = .ok (.bool false) W:=fun W=>by rw [hnes,decide_eq_true he];rfl
    refine tk 0 58 (v:=.pointer (some ⟨w.heap.size,4,none⟩)) rfl rfl (fun W hW=>Kab rfl rfl (hf4 _ W)) ?_;simp only [zP]
    refine tk 1 59 (v:=.slice (some ⟨bk,ok,none⟩) ks.length ck) rfl rfl (fun W hW=>Kaf rfl rfl (Kb9 Tryz.underlying26 rfl hW hg8 rfl)) ?_;simp only [zP]
    refine tm 2 60 (v:=.int .i64 (j : Int)) rfl rfl rfl ?_;simp only [zP]
    refine tk 3 61 (v:=.pointer (some ⟨bk,ok + j,none⟩)) rfl rfl (fun W hW=>Kaj rfl rfl rfl (hix W)) ?_;simp only [zP]
    refine tk 4 62 (v:=.string (strB a1)) rfl rfl (fun W hW=>Kaf rfl rfl (Kag Tryz.underlying9 rfl (Kae hW (ltOf q0) q0))) ?_;simp only [zP]
    refine tk 5 63 (v:=.pointer (some ⟨w.heap.size + 1,4,none⟩)) rfl rfl (fun W hW=>Kab rfl rfl (hf4 _ W)) ?_;simp only [zP]
    refine tk 6 64 (v:=.slice (some ⟨bk',ok',none⟩) ks'.length dk) rfl rfl (fun W hW=>Kaf rfl rfl (Kb9 Tryz.underlying26 rfl hW hg9 rfl)) ?_;simp only [zP]
    refine tm 7 65 (v:=.int .i64 (j : Int)) rfl rfl rfl ?_;simp only [zP]
    refine tk 8 66 (v:=.pointer (some ⟨bk',ok' + j,none⟩)) rfl rfl (fun W hW=>Kaj rfl rfl rfl (hiy W)) ?_;simp only [zP]
    refine tk 9 67 (v:=.string (strB a2)) rfl rfl (fun W hW=>Kaf rfl rfl (Kag Tryz.underlying9 rfl (Kae hW (ltOf q1) q1))) ?_;simp only [zP]
    refine tk 10 68 (v:=.bool false) rfl rfl (fun W hW=>Kcj rfl rfl rfl (hne W)) ?_;simp only [zP]
    refine done (by kernel_rfl) ?_ _
    have HS:=yh (And.intro (hstep he) hS)
    clear q0 q1 hstep hdiff hnes hS0 hix hiy hf4 hg8 hg9 hne hS he HX
    go_wp2
    go_roundw
    case rel=>exact ⟨j + 1,hlt1,by go_num,HS⟩
    case measure=>simp [intOf];omega
   ·have hne : ∀ W,(binOp .neq 9 (.string (strB a1)) (.string (strB a2))).run Tryz.prog W = .ok (.bool true) W:=fun W=>by rw [hnes,decide_eq_false he];rfl
    refine tk 0 58 (v:=.pointer (some ⟨w.heap.size,4,none⟩)) rfl rfl (fun W hW=>Kab rfl rfl (hf4 _ W)) ?_;simp only [zP]
    refine tk 1 59 (v:=.slice (some ⟨bk,ok,none⟩) ks.length ck) rfl rfl (fun W hW=>Kaf rfl rfl (Kb9 Tryz.underlying26 rfl hW hg8 rfl)) ?_;simp only [zP]
    refine tm 2 60 (v:=.int .i64 (j : Int)) rfl rfl rfl ?_;simp only [zP]
    refine tk 3 61 (v:=.pointer (some ⟨bk,ok + j,none⟩)) rfl rfl (fun W hW=>Kaj rfl rfl rfl (hix W)) ?_;simp only [zP]
    refine tk 4 62 (v:=.string (strB a1)) rfl rfl (fun W hW=>Kaf rfl rfl (Kag Tryz.underlying9 rfl (Kae hW (ltOf q0) q0))) ?_;simp only [zP]
    refine tk 5 63 (v:=.pointer (some ⟨w.heap.size + 1,4,none⟩)) rfl rfl (fun W hW=>Kab rfl rfl (hf4 _ W)) ?_;simp only [zP]
    refine tk 6 64 (v:=.slice (some ⟨bk',ok',none⟩) ks'.length dk) rfl rfl (fun W hW=>Kaf rfl rfl (Kb9 Tryz.underlying26 rfl hW hg9 rfl)) ?_;simp only [zP]
    refine tm 7 65 (v:=.int .i64 (j : Int)) rfl rfl rfl ?_;simp only [zP]
    refine tk 8 66 (v:=.pointer (some ⟨bk',ok' + j,none⟩)) rfl rfl (fun W hW=>Kaj rfl rfl rfl (hiy W)) ?_;simp only [zP]
    refine tk 9 67 (v:=.string (strB a2)) rfl rfl (fun W hW=>Kaf rfl rfl (Kag Tryz.underlying9 rfl (Kae hW (ltOf q1) q1))) ?_;simp only [zP]
    refine tk 10 68 (v:=.bool true) rfl rfl (fun W hW=>Kcj rfl rfl rfl (hne W)) ?_;simp only [zP]
    refine done (by kernel_rfl) ?_ _
    have HS:=yh (And.intro (hdiff he) hS)
    clear q0 q1 hstep hdiff hnes hS0 hix hiy hf4 hg8 hg9 hne hS he HX
    go_wp2
    go_ret
    exact ⟨by rw [decide_eq_false HS.out.1,Bool.false_and];rfl,Kaa HB.out HS.out.2⟩
  ·obtain rfl : j = ks.length:=by omega
   have HKE:=yh (show ks = ks' from by have h:=HI.out.1;rw [List.take_length,HLK.out,List.take_length] at h;exact h)
   have HW1:=yh HI.out.2
   clear HI
   go_wp2
   go_loopw [6] (fun i W=>∃ j : Nat,j ≤ l.length ∧ i = .int .i64 (j : Int) ∧ Hid ((∀ i (h1 : i < l.length) (h2 : i < l'.length),i < j → Kck l[i] l'[i] = true) ∧ Below W0.heap.size W0 W)) (fun i _=>l.length - (intOf i).toNat)
   case atStart=>exact ⟨0,Nat.zero_le _,rfl,yh ⟨fun i _ _ h=>by omega,HW1.out⟩⟩
   case round =>
    clear HW1 p4
    obtain ⟨j,hj,rfl,HI⟩:=hrel
    obtain ⟨hg8,hg9⟩:=HG.out
    have p5:=Kac (o:=5) (Kai HI.out.2 (Array.getElem?_eq_some_iff.1 hg8).1 hg8) rfl
    clear hg8 hg9
    by_cases hlt : j < l.length
    ·have hlt1 : j + 1 ≤ l.length:=hlt
     have hlt2 : j < l'.length:=by rw [← HLL.out];exact hlt
     obtain ⟨bl,ol,cs,rfl,hs,hc,hv⟩:=HL1.out.grd.get hlt
     obtain ⟨bl',ol',ds,rfl,hs2,hc2,hv2⟩:=HL2.out.grd.get hlt2
     have hcall:=fun W (g : Below W0.heap.size W0 W)=>HIH.out l[j] (List.getElem_mem hlt) l'[j] W cs ds (hv.below g) (hv2.below g)
     have hno:=all2_no (f:=Kck) hlt hlt2
     have hye : Kck l[j] l'[j] = true → ∀ i (h1 : i < l.length) (h2 : i < l'.length),i < j + 1 → Kck l[i] l'[i] = true:=fun he i h1 h2 h3=>by
      rcases Nat.lt_or_ge i j with h4 | h4
      ·exact HI.out.1 i h1 h2 h4
      ·have : i = j:=by omega
       subst this;exact he
     generalize Kck l[j] l'[j] = r at *
     have hS0 : Below W0.heap.size W0 wr.drew:=HI.out.2.drew
     have hix : ∀ W' : World,(Instr.indexAt 29 (.slice (some ⟨bl,ol,none⟩) l.length cl) (.int .i64 (j : Int))).run Tryz.prog W' = .ok (.pointer (some ⟨bl,ol + j * 6,none⟩)) W':=by intro W';simp [go_sem,hlt]
     have hiy : ∀ W' : World,(Instr.indexAt 29 (.slice (some ⟨bl',ol',none⟩) l'.length dl) (.int .i64 (j : Int))).run Tryz.prog W' = .ok (.pointer (some ⟨bl',ol' + j * 6,none⟩)) W':=by intro W';simp [go_sem,hlt2]
     have hf5 : ∀ (g : Nat) (W' : World),(Instr.fieldAt 31 (.pointer (some ⟨g,0,none⟩)) 5).run Tryz.prog W' = .ok (.pointer (some ⟨g,5,none⟩)) W':=by intro g W';simp [go_sem]
     have hlx:=fun W (g : Below W0.heap.size W0 W)=>StT.load (P:=Tryz.prog) (W:=W) (g:=bl) (o:=ol + j * 6) st_val hs fun i u hu=>Kae g (ltOf (hc i u hu)) (hc i u hu)
     have hly:=fun W (g : Below W0.heap.size W0 W)=>StT.load (P:=Tryz.prog) (W:=W) (g:=bl') (o:=ol' + j * 6) st_val hs2 fun i u hu=>Kae g (ltOf (hc2 i u hu)) (hc2 i u hu)
     have HX:=yh (And.intro hcall (And.intro hno (And.intro hye (And.intro hS0 (And.intro hix (And.intro hiy (And.intro hf5 (And.intro hlx hly))))))))
     clear hcall hno hye hS0 hix hiy hf5 hlx hly HI hs hc hv hs2 hc2 hv2
     go_wp2
     obtain ⟨hcall,hno,hye,hS0,hix,hiy,hf5,hlx,hly⟩:=HX.out
     obtain ⟨hg8,hg9⟩:=HG.out
     refine Kah (fun W=>Below W0.heap.size W0 W) (by kernel_rfl) hS0 (fun hS=>?_)
     refine tk 0 76 (v:=.pointer (some ⟨w.heap.size,5,none⟩)) rfl rfl (fun W hW=>Kab rfl rfl (hf5 _ W)) ?_;simp only [zP]
     refine tk 1 77 (v:=.slice (some ⟨bl,ol,none⟩) l.length cl) rfl rfl (fun W hW=>Kaf rfl rfl (Kb9 Tryz.underlying29 rfl hW hg8 rfl)) ?_;simp only [zP]
     refine tm 2 78 (v:=.int .i64 (j : Int)) rfl rfl rfl ?_;simp only [zP]
     refine tk 3 79 (v:=.pointer (some ⟨bl,ol + j * 6,none⟩)) rfl rfl (fun W hW=>Kaj rfl rfl rfl (hix W)) ?_;simp only [zP]
     refine tk 4 80 (v:=.agg cs) rfl rfl (fun W hW=>Kaf rfl rfl (hlx W hW)) ?_;simp only [zP]
     refine tk 5 81 (v:=.pointer (some ⟨w.heap.size + 1,5,none⟩)) rfl rfl (fun W hW=>Kab rfl rfl (hf5 _ W)) ?_;simp only [zP]
     refine tk 6 82 (v:=.slice (some ⟨bl',ol',none⟩) l'.length dl) rfl rfl (fun W hW=>Kaf rfl rfl (Kb9 Tryz.underlying29 rfl hW hg9 rfl)) ?_;simp only [zP]
     refine tm 7 83 (v:=.int .i64 (j : Int)) rfl rfl rfl ?_;simp only [zP]
     refine tk 8 84 (v:=.pointer (some ⟨bl',ol' + j * 6,none⟩)) rfl rfl (fun W hW=>Kaj rfl rfl rfl (hiy W)) ?_;simp only [zP]
     refine tk 9 85 (v:=.agg ds) rfl rfl (fun W hW=>Kaf rfl rfl (hly W hW)) ?_;simp only [zP]
     refine Kay 10 86 rfl rfl (by kernel_rfl) rfl (Kar [.agg cs,.agg ds] rfl rfl Tryz.func166 (by kernel_rfl) (by kernel_rfl)) ?_
     refine (hcall _ hS).mono ?_
     rintro e W8 ⟨rfl,hb8⟩
     have hS8 : Below W0.heap.size W0 W8:=Kaa hS hb8
     refine ⟨_,rfl,.inr hS8,?_⟩;simp only [zP]
     refine tk 11 87 (v:=.bool (!r)) rfl rfl (fun W hW=>Ka5 rfl rfl) ?_;simp only [zP]
     refine done (by kernel_rfl) ?_ _
     have HS:=yh hS8
     have HF:=yh (And.intro hno hye)
     clear hcall hno hye hS0 hix hiy hf5 hlx hly hg8 hg9 hS hS8 hb8 HX
     cases r
     ·go_wp2
      go_ret
      exact ⟨by rw [Kcz,HF.out.1 (by simp),Bool.and_false];rfl,Kaa HB.out HS.out⟩
     ·go_wp2
      go_roundw
      case rel=>exact ⟨j + 1,hlt1,by go_num,yh ⟨HF.out.2 (by simp),HS.out⟩⟩
      case measure=>simp [intOf];omega
    ·obtain rfl : j = l.length:=by omega
     have HFF:=yh (And.intro (all2_of (f:=Kck) HLL.out fun i h1 h2=>HI.out.1 i h1 h2 h1) HI.out.2)
     clear HI
     go_wp2
     go_ret
     exact ⟨by rw [decide_eq_true HKE.out,Kcz,HFF.out.1];rfl,Kaa HB.out HFF.out.2⟩
def sameQ (p q : PropD) : Bool:=decide (p.key = q.key) && Kck p.val q.val
def sameNQ (a b : NodeD) : Bool:=decide (a.id = b.id) && decide (a.labels = b.labels) && all2 sameQ a.props b.props
def sameRQ (a b : RelD) : Bool:=decide (a.id = b.id) && decide (a.src = b.src) && decide (a.dst = b.dst) && decide (a.type = b.type) && all2 sameQ a.props b.props
def Kch (a b : GraphD) : Bool:=decide (a.nextNode = b.nextNode) && decide (a.nextRel = b.nextRel) && all2 sameNQ a.nodes b.nodes && all2 sameRQ a.rels b.rels
theorem sameQ_iff (p q : PropD) : sameQ p q = true ↔ p = q:=by
 obtain ⟨a,b⟩:=p
 obtain ⟨c,d⟩:=q
 unfold sameQ
 simp only [Bool.and_eq_true,decide_eq_true_eq,alikeV_iff,PropD.mk.injEq]
theorem samePsQ_iff (l m : List PropD) : all2 sameQ l m = true ↔ l = m:=all2_eq fun x _ y _=>sameQ_iff x y
theorem sameNQ_iff (a b : NodeD) : sameNQ a b = true ↔ a = b:=by
 have:=samePsQ_iff a.props b.props
 unfold sameNQ
 obtain ⟨x1,x2,x3⟩:=a
 obtain ⟨y1,y2,y3⟩:=b
 simp only [Bool.and_eq_true,decide_eq_true_eq,NodeD.mk.injEq] at this ⊢
 rw [this,and_assoc]
theorem sameRQ_iff (a b : RelD) : sameRQ a b = true ↔ a = b:=by
 have:=samePsQ_iff a.props b.props
 unfold sameRQ
 obtain ⟨x1,x2,x3,x4,x5⟩:=a
 obtain ⟨y1,y2,y3,y4,y5⟩:=b
 simp only [Bool.and_eq_true,decide_eq_true_eq,RelD.mk.injEq] at this ⊢
 rw [this,and_assoc,and_assoc,and_assoc]
theorem sameGQ_iff (a b : GraphD) : Kch a b = true ↔ a = b:=by
 have h1 : all2 sameNQ a.nodes b.nodes = true ↔ a.nodes = b.nodes:=all2_eq fun x _ y _=>sameNQ_iff x y
 have h2 : all2 sameRQ a.rels b.rels = true ↔ a.rels = b.rels:=all2_eq fun x _ y _=>sameRQ_iff x y
 unfold Kch
 obtain ⟨x1,x2,x3,x4⟩:=a
 obtain ⟨y1,y2,y3,y4⟩:=b
 simp only [Bool.and_eq_true,decide_eq_true_eq,GraphD.mk.injEq] at h1 h2 ⊢
 rw [h1,h2]
 constructor
 ·rintro ⟨⟨⟨e1,e2⟩,e3⟩,e4⟩;exact ⟨e3,e4,e1,e2⟩
 ·rintro ⟨e1,e2,e3,e4⟩;exact ⟨⟨⟨e3,e4⟩,e1⟩,e2⟩
def AllJ {α : Type} (f : α → α → Bool) (l m : List α) (j : Nat) : Prop:=∀ i (h1 : i < l.length) (h2 : i < m.length),i < j → f l[i] m[i] = true
theorem AllJ.zero {α : Type} (f : α → α → Bool) (l m : List α) : AllJ f l m 0:=fun i _ _ h=>by omega
theorem AllJ.succ {α : Type} {f : α → α → Bool} {l m : List α} {j : Nat} (h : AllJ f l m j) (h1 : j < l.length) (h2 : j < m.length) (he : f l[j] m[j] = true) : AllJ f l m (j + 1):=fun i a b hi=>by
 by_cases e : i = j
 ·subst e;exact he
 ·exact h i a b (by omega)
theorem AllJ.all {α : Type} {f : α → α → Bool} {l m : List α} (h : AllJ f l m l.length) (hl : l.length = m.length) : all2 f l m = true:=all2_of hl fun i h1 h2=>h i h1 h2 h1
def eqT (a b : List UInt8) : Bool:=decide (a = b)
theorem eqTs_iff (l m : List (List UInt8)) : all2 eqT l m = decide (l = m):=by
 have h : all2 eqT l m = true ↔ l = m:=all2_eq fun x _ y _=>by simp [eqT]
 rw [Bool.eq_iff_iff,h,decide_eq_true_iff]
theorem sameTextsD_any {w : World} {p1 p2 : Option Addr} {c1 c2 : Nat} {a b : List (List UInt8)} (ha : RdS w p1 c1 a) (hb : RdS w p2 c2 b) : Calls Tryz.prog 115 #[.slice p1 a.length c1,.slice p2 b.length c2] w fun e w'=>e = .returned (.bool (decide (a = b))) ∧ Below w.heap.size w w':=by
 have z1 : (a.length : Int) ≤ 140737488355328:=by have:=ha.2.1.1;omega
 have z2 : (b.length : Int) ≤ 140737488355328:=by have:=hb.2.1.1;omega
 have H:=yh (And.intro ha hb)
 clear ha hb
 rw [← eqTs_iff]
 by_cases hl : a.length = b.length
 rotate_left
 ·have HF:=yh (all2_ne (f:=eqT) hl)
  have hl2 : ¬ (a.length : Int) = (b.length : Int):=by omega
  have hl3 : ((a.length : Int) == (b.length : Int)) = false:=by rw [beq_eq_false_iff_ne];exact hl2
  generalize a.length = n1 at *
  generalize b.length = n2 at *
  clear hl
  go_enter Tryz.func115,Tryz.ntmps115
  go_wp2
  go_ret
  exact ⟨Kak HF.out.symm,Below.refl _ _⟩
 ·have HL:=yh hl
  have hl2 : (a.length : Int) = (b.length : Int):=by omega
  have hle : (b.length : Int) = (a.length : Int):=hl2.symm
  clear hl hl2
  go_enter Tryz.func115,Tryz.ntmps115
  go_wp2
  clear hle
  go_loopw [5] (fun i W=>∃ j : Nat,j ≤ a.length ∧ i = .int .i64 (j : Int) ∧ Hid (AllJ eqT a b j ∧ Below w.heap.size w W)) (fun i _=>a.length - (intOf i).toNat)
  case atStart=>exact ⟨0,Nat.zero_le _,rfl,yh ⟨AllJ.zero _ _ _,Below.refl _ _⟩⟩
  case round =>
   obtain ⟨j,hj,rfl,HI⟩:=hrel
   by_cases hlt : j < a.length
   ·have hlt1 : j + 1 ≤ a.length:=hlt
    have hltb : j < b.length:=by have:=HL.out;omega
    obtain ⟨b1,o1,rfl,q1,_⟩:=(H.out.1.below HI.out.2).get hlt
    obtain ⟨b2,o2,rfl,q2,_⟩:=(H.out.2.below HI.out.2).get hltb
    have hi1 : ∀ W' : World,(Instr.indexAt 26 (.slice (some ⟨b1,o1,none⟩) a.length c1) (.int .i64 (j : Int))).run Tryz.prog W' = .ok (.pointer (some ⟨b1,o1 + j,none⟩)) W':=fun W'=>ia_text hlt W'
    have hi2 : ∀ W' : World,(Instr.indexAt 26 (.slice (some ⟨b2,o2,none⟩) b.length c2) (.int .i64 (j : Int))).run Tryz.prog W' = .ok (.pointer (some ⟨b2,o2 + j,none⟩)) W':=fun W'=>ia_text hltb W'
    have hne:=nes_bytesD a[j] b[j]
    have hno:=all2_no (f:=eqT) (j:=j) hlt hltb
    have hye:=HI.out.1.succ hlt hltb
    have heq : eqT a[j] b[j] = decide (a[j] = b[j]):=rfl
    rw [heq] at hno hye
    obtain ⟨bb,hbb⟩ : ∃ bb,bb = !decide (a[j] = b[j]):=⟨_,rfl⟩
    have hde : decide (a[j] = b[j]) = !bb:=by rw [hbb];simp
    rw [hde] at hno hye
    simp only [← hbb] at hne
    have HM:=yh (And.intro hno hye)
    have HB1:=yh HI.out.2
    have hB0 : Below wr.heap.size wr wr.drew:=(Below.refl _ wr).drew
    clear heq hde hbb hno hye
    generalize a[j] = s1 at *
    generalize b[j] = s2 at *
    have HX:=yh (And.intro hi1 (And.intro hi2 (And.intro hne (And.intro q1 (And.intro q2 hB0)))))
    clear hi1 hi2 hne q1 q2 hB0 HI
    go_wp2
    obtain ⟨hi1,hi2,hne,q1,q2,hB0⟩:=HX.out
    refine Kah (fun W=>Below wr.heap.size wr W) (by kernel_rfl) hB0 (fun hS=>?_)
    refine tm 0 17 (v:=.slice (some ⟨b1,o1,none⟩) a.length c1) rfl rfl rfl ?_;simp only [zP]
    refine tm 1 18 (v:=.int .i64 (j : Int)) rfl rfl rfl ?_;simp only [zP]
    refine tk 2 19 (v:=.pointer (some ⟨b1,o1 + j,none⟩)) rfl rfl (fun W hW=>Kaj rfl rfl rfl (hi1 W)) ?_;simp only [zP]
    refine tk 3 20 (v:=.string (strB s1)) rfl rfl (fun W hW=>Kaf rfl rfl (Kag (w:=W) Tryz.underlying9 rfl (Kae hW (ltOf q1) q1))) ?_;simp only [zP]
    refine tm 4 21 (v:=.slice (some ⟨b2,o2,none⟩) b.length c2) rfl rfl rfl ?_;simp only [zP]
    refine tm 5 22 (v:=.int .i64 (j : Int)) rfl rfl rfl ?_;simp only [zP]
    refine tk 6 23 (v:=.pointer (some ⟨b2,o2 + j,none⟩)) rfl rfl (fun W hW=>Kaj rfl rfl rfl (hi2 W)) ?_;simp only [zP]
    refine tk 7 24 (v:=.string (strB s2)) rfl rfl (fun W hW=>Kaf rfl rfl (Kag (w:=W) Tryz.underlying9 rfl (Kae hW (ltOf q2) q2))) ?_;simp only [zP]
    refine tk 8 25 (v:=.bool bb) rfl rfl (fun W hW=>Kcj rfl rfl rfl (hne W)) ?_;simp only [zP]
    refine done (by kernel_rfl) ?_ _
    have HB:=yh (Kaa HB1.out hS)
    clear hi1 hi2 hne q1 q2 hB0 hS HX
    cases bb with
    | true =>
      go_wp2
      go_ret
      exact ⟨Kak (HM.out.1 rfl).symm,HB.out⟩
    | false =>
      go_wp2
      go_roundw
      case rel=>exact ⟨j + 1,hlt1,by go_num,yh ⟨HM.out.2 rfl,HB.out⟩⟩
      case measure=>simp [intOf];omega
   ·obtain rfl : j = a.length:=by omega
    have HF:=yh (HI.out.1.all HL.out)
    have HB:=yh HI.out.2
    clear HI
    go_wp2
    go_ret
    exact ⟨Kak HF.out.symm,HB.out⟩
theorem samePropsD_any {w : World} {p1 p2 : Option Addr} {c1 c2 : Nat} {a b : List PropD} (ha : GRd PRd 7 w p1 c1 a) (hb : GRd PRd 7 w p2 c2 b) : Calls Tryz.prog 116 #[.slice p1 a.length c1,.slice p2 b.length c2] w fun e w'=>e = .returned (.bool (all2 sameQ a b)) ∧ Below w.heap.size w w':=by
 have z1 : (a.length : Int) ≤ 140737488355328:=by have:=ha.1.2.1;omega
 have z2 : (b.length : Int) ≤ 140737488355328:=by have:=hb.1.2.1;omega
 have H:=yh (And.intro ha hb)
 clear ha hb
 by_cases hl : a.length = b.length
 rotate_left
 ·have HF:=yh (all2_ne (f:=sameQ) hl)
  have hl2 : ¬ (a.length : Int) = (b.length : Int):=by omega
  have hl3 : ((a.length : Int) == (b.length : Int)) = false:=by rw [beq_eq_false_iff_ne];exact hl2
  generalize a.length = n1 at *
  generalize b.length = n2 at *
  clear hl
  go_enter Tryz.func116,Tryz.ntmps116
  go_wp2
  go_ret
  exact ⟨Kak HF.out.symm,Below.refl _ _⟩
 ·have HL:=yh hl
  have hl2 : (a.length : Int) = (b.length : Int):=by omega
  have hle : (b.length : Int) = (a.length : Int):=hl2.symm
  clear hl hl2
  go_enter Tryz.func116,Tryz.ntmps116
  go_wp2
  clear hle
  go_loopw [5] (fun i W=>∃ j : Nat,j ≤ a.length ∧ i = .int .i64 (j : Int) ∧ Hid (AllJ sameQ a b j ∧ Below w.heap.size w W)) (fun i _=>a.length - (intOf i).toNat)
  case atStart=>exact ⟨0,Nat.zero_le _,rfl,yh ⟨AllJ.zero _ _ _,Below.refl _ _⟩⟩
  case round =>
   obtain ⟨j,hj,rfl,HI⟩:=hrel
   by_cases hlt : j < a.length
   ·have hlt1 : j + 1 ≤ a.length:=hlt
    have hltb : j < b.length:=by have:=HL.out;omega
    obtain ⟨b1,o1,cs1,rfl,_,hcc1,hv1⟩:=(H.out.1.below (fun h=>h.below HI.out.2) HI.out.2).get hlt
    obtain ⟨b2,o2,cs2,rfl,_,hcc2,hv2⟩:=(H.out.2.below (fun h=>h.below HI.out.2) HI.out.2).get hltb
    obtain ⟨q1,_,y1,hu1,r1⟩:=prop_cells hv1 hcc1
    obtain ⟨q2,_,y2,hu2,r2⟩:=prop_cells hv2 hcc2
    have hy1:=ef_val.size hu1
    have hy2:=ef_val.size hu2
    have hi1 : ∀ W' : World,(Instr.indexAt 27 (.slice (some ⟨b1,o1,none⟩) a.length c1) (.int .i64 (j : Int))).run Tryz.prog W' = .ok (.pointer (some ⟨b1,o1 + j * 7,none⟩)) W':=fun W'=>ia_prop hlt W'
    have hi2 : ∀ W' : World,(Instr.indexAt 27 (.slice (some ⟨b2,o2,none⟩) b.length c2) (.int .i64 (j : Int))).run Tryz.prog W' = .ok (.pointer (some ⟨b2,o2 + j * 7,none⟩)) W':=fun W'=>ia_prop hltb W'
    have hne:=nes_bytesD a[j].key b[j].key
    have hal:=fun W (g : Below wr.heap.size wr W)=>alikeD_any a[j].val b[j].val W y1 y2 (hu1.below g) (hu2.below g)
    have hno:=all2_no (f:=sameQ) (j:=j) hlt hltb
    have hye:=HI.out.1.succ hlt hltb
    have heq : sameQ a[j] b[j] = (decide (a[j].key = b[j].key) && Kck a[j].val b[j].val):=rfl
    rw [heq] at hno hye
    generalize Kck a[j].val b[j].val = av at *
    obtain ⟨kb,hkb⟩ : ∃ kb,kb = decide (a[j].key = b[j].key):=⟨_,rfl⟩
    rw [← hkb] at hno hye
    simp only [← hkb] at hne
    have HM:=yh (And.intro hno hye)
    have HB1:=yh HI.out.2
    have hB0 : Below wr.heap.size wr wr.drew:=(Below.refl _ wr).drew
    clear heq hkb hno hye hv1 hv2 hu1 hu2 hcc1 hcc2
    generalize a[j].key = s1 at *
    generalize b[j].key = s2 at *
    have HX:=yh (And.intro hi1 (And.intro hi2 (And.intro hne (And.intro q1 (And.intro q2 (And.intro hal (And.intro r1 (And.intro r2 (And.intro hy1 (And.intro hy2 hB0))))))))))
    clear hi1 hi2 hne q1 q2 hB0 HI hal r1 r2 hy1 hy2
    go_wp2
    obtain ⟨hi1,hi2,hne,q1,q2,hal,r1,r2,hy1,hy2,hB0⟩:=HX.out
    refine Kah (fun W=>Below wr.heap.size wr W) (by kernel_rfl) hB0 (fun hS=>?_)
    cases kb with
    | false =>
      refine tm 0 17 (v:=.slice (some ⟨b1,o1,none⟩) a.length c1) rfl rfl rfl ?_;simp only [zP]
      refine tm 1 18 (v:=.int .i64 (j : Int)) rfl rfl rfl ?_;simp only [zP]
      refine tk 2 19 (v:=.pointer (some ⟨b1,o1 + j * 7,none⟩)) rfl rfl (fun W hW=>Kaj rfl rfl rfl (hi1 W)) ?_;simp only [zP]
      refine tk 3 20 (v:=.pointer (some ⟨b1,o1 + j * 7,none⟩)) rfl rfl (fun W hW=>Kab rfl rfl (fa_pr0 _ _ W)) ?_;simp only [zP]
      refine tk 4 21 (v:=.string (strB s1)) rfl rfl (fun W hW=>Kaf rfl rfl (Kag (w:=W) Tryz.underlying9 rfl (Kae hW (ltOf q1) q1))) ?_;simp only [zP]
      refine tm 5 22 (v:=.slice (some ⟨b2,o2,none⟩) b.length c2) rfl rfl rfl ?_;simp only [zP]
      refine tm 6 23 (v:=.int .i64 (j : Int)) rfl rfl rfl ?_;simp only [zP]
      refine tk 7 24 (v:=.pointer (some ⟨b2,o2 + j * 7,none⟩)) rfl rfl (fun W hW=>Kaj rfl rfl rfl (hi2 W)) ?_;simp only [zP]
      refine tk 8 25 (v:=.pointer (some ⟨b2,o2 + j * 7,none⟩)) rfl rfl (fun W hW=>Kab rfl rfl (fa_pr0 _ _ W)) ?_;simp only [zP]
      refine tk 9 26 (v:=.string (strB s2)) rfl rfl (fun W hW=>Kaf rfl rfl (Kag (w:=W) Tryz.underlying9 rfl (Kae hW (ltOf q2) q2))) ?_;simp only [zP]
      refine tk 10 27 (v:=.bool true) rfl rfl (fun W hW=>Kcj rfl rfl rfl (hne W)) ?_;simp only [zP]
      refine tm 11 28 (v:=.bool true) rfl rfl rfl ?_;simp only [zP]
      refine tx 12 29 ?_;simp only [zP]
      refine tx 13 30 ?_;simp only [zP]
      refine tx 14 31 ?_;simp only [zP]
      refine tx 15 32 ?_;simp only [zP]
      refine tx 16 33 ?_;simp only [zP]
      refine tx 17 34 ?_;simp only [zP]
      refine tx 18 35 ?_;simp only [zP]
      refine tx 19 36 ?_;simp only [zP]
      refine tx 20 37 ?_;simp only [zP]
      refine tx 21 38 ?_;simp only [zP]
      refine Kdi 22 39 rfl rfl (by kernel_rfl) rfl ?_ (.inr (by assumption));simp only [zP]
      refine tx 23 40 ?_;simp only [zP]
      refine tk 24 41 (v:=.bool true) rfl rfl (fun W hW=>rfl) ?_;simp only [zP]
      refine done (by kernel_rfl) ?_ _
      have HB:=yh (Kaa HB1.out hS)
      clear hi1 hi2 hne q1 q2 hB0 hS HX hal r1 r2 hy1 hy2
      go_wp2
      go_ret
      exact ⟨Kak (HM.out.1 rfl).symm,HB.out⟩
    | true =>
      refine tm 0 17 (v:=.slice (some ⟨b1,o1,none⟩) a.length c1) rfl rfl rfl ?_;simp only [zP]
      refine tm 1 18 (v:=.int .i64 (j : Int)) rfl rfl rfl ?_;simp only [zP]
      refine tk 2 19 (v:=.pointer (some ⟨b1,o1 + j * 7,none⟩)) rfl rfl (fun W hW=>Kaj rfl rfl rfl (hi1 W)) ?_;simp only [zP]
      refine tk 3 20 (v:=.pointer (some ⟨b1,o1 + j * 7,none⟩)) rfl rfl (fun W hW=>Kab rfl rfl (fa_pr0 _ _ W)) ?_;simp only [zP]
      refine tk 4 21 (v:=.string (strB s1)) rfl rfl (fun W hW=>Kaf rfl rfl (Kag (w:=W) Tryz.underlying9 rfl (Kae hW (ltOf q1) q1))) ?_;simp only [zP]
      refine tm 5 22 (v:=.slice (some ⟨b2,o2,none⟩) b.length c2) rfl rfl rfl ?_;simp only [zP]
      refine tm 6 23 (v:=.int .i64 (j : Int)) rfl rfl rfl ?_;simp only [zP]
      refine tk 7 24 (v:=.pointer (some ⟨b2,o2 + j * 7,none⟩)) rfl rfl (fun W hW=>Kaj rfl rfl rfl (hi2 W)) ?_;simp only [zP]
      refine tk 8 25 (v:=.pointer (some ⟨b2,o2 + j * 7,none⟩)) rfl rfl (fun W hW=>Kab rfl rfl (fa_pr0 _ _ W)) ?_;simp only [zP]
      refine tk 9 26 (v:=.string (strB s2)) rfl rfl (fun W hW=>Kaf rfl rfl (Kag (w:=W) Tryz.underlying9 rfl (Kae hW (ltOf q2) q2))) ?_;simp only [zP]
      refine tk 10 27 (v:=.bool false) rfl rfl (fun W hW=>Kcj rfl rfl rfl (hne W)) ?_;simp only [zP]
      refine tm 11 28 (v:=.bool false) rfl rfl rfl ?_;simp only [zP]
      refine tm 12 29 (v:=.slice (some ⟨b1,o1,none⟩) a.length c1) rfl rfl rfl ?_;simp only [zP]
      refine tm 13 30 (v:=.int .i64 (j : Int)) rfl rfl rfl ?_;simp only [zP]
      refine tk 14 31 (v:=.pointer (some ⟨b1,o1 + j * 7,none⟩)) rfl rfl (fun W hW=>Kaj rfl rfl rfl (hi1 W)) ?_;simp only [zP]
      refine tk 15 32 (v:=.pointer (some ⟨b1,o1 + j * 7 + 1,none⟩)) rfl rfl (fun W hW=>Kab rfl rfl (fa_pr1 _ _ W)) ?_;simp only [zP]
      refine tk 16 33 (v:=.agg y1) rfl rfl (fun W hW=>Kaf rfl rfl (StT.load (P:=Tryz.prog) (W:=W) st_val hy1 fun i u hu=>Kae hW (ltOf (r1 i u hu)) (r1 i u hu))) ?_;simp only [zP]
      refine tm 17 34 (v:=.slice (some ⟨b2,o2,none⟩) b.length c2) rfl rfl rfl ?_;simp only [zP]
      refine tm 18 35 (v:=.int .i64 (j : Int)) rfl rfl rfl ?_;simp only [zP]
      refine tk 19 36 (v:=.pointer (some ⟨b2,o2 + j * 7,none⟩)) rfl rfl (fun W hW=>Kaj rfl rfl rfl (hi2 W)) ?_;simp only [zP]
      refine tk 20 37 (v:=.pointer (some ⟨b2,o2 + j * 7 + 1,none⟩)) rfl rfl (fun W hW=>Kab rfl rfl (fa_pr1 _ _ W)) ?_;simp only [zP]
      refine tk 21 38 (v:=.agg y2) rfl rfl (fun W hW=>Kaf rfl rfl (StT.load (P:=Tryz.prog) (W:=W) st_val hy2 fun i u hu=>Kae hW (ltOf (r2 i u hu)) (r2 i u hu))) ?_;simp only [zP]
      refine Kay 22 39 rfl rfl (by kernel_rfl) rfl (Kar [.agg y1,.agg y2] rfl rfl Tryz.func166 (by kernel_rfl) (by kernel_rfl)) ?_
      refine (hal _ hS).mono ?_
      rintro e W22 ⟨rfl,hb22⟩
      have hS22:=Kaa hS hb22
      refine ⟨_,rfl,.inr hS22,?_⟩;simp only [zP]
      refine tk 23 40 (v:=.bool (!av)) rfl rfl (fun W hW=>Ka5 rfl rfl) ?_;simp only [zP]
      refine tk 24 41 (v:=.bool (!av)) rfl rfl (fun W hW=>rfl) ?_;simp only [zP]
      refine done (by kernel_rfl) ?_ _
      have HB:=yh (Kaa HB1.out hS22)
      clear hi1 hi2 hne q1 q2 hB0 hS HX hal r1 r2 hy1 hy2 hS22 hb22
      cases av with
      | false =>
        go_wp2
        go_ret
        exact ⟨Kak (HM.out.1 rfl).symm,HB.out⟩
      | true =>
        go_wp2
        go_roundw
        case rel=>exact ⟨j + 1,hlt1,by go_num,yh ⟨HM.out.2 rfl,HB.out⟩⟩
        case measure=>simp [intOf];omega
   ·obtain rfl : j = a.length:=by omega
    have HF:=yh (HI.out.1.all HL.out)
    have HB:=yh HI.out.2
    clear HI
    go_wp2
    go_ret
    exact ⟨Kak HF.out.symm,HB.out⟩
theorem sameNodeD_any {w : World} {a b : NodeD} {x y : Array Value} (ha : NRd w a x) (hb : NRd w b y) : Calls Tryz.prog 54 #[.agg x,.agg y] w fun e w'=>e = .returned (.bool (sameNQ a b)) ∧ Below w.heap.size w w':=by
 obtain ⟨pl,cl,pp,cp,rfl,hla,hpa⟩:=ha
 obtain ⟨ql,dl,qp,dp,rfl,hlb,hpb⟩:=hb
 have hb1:=Kad (w:=w) (.cells #[.int .i64 a.id,.slice pl a.labels.length cl,.slice pp a.props.length cp] 45)
 have hb2:=Kad (w:=w.alloc (.cells #[.int .i64 a.id,.slice pl a.labels.length cl,.slice pp a.props.length cp] 45)) (.cells #[.int .i64 b.id,.slice ql b.labels.length dl,.slice qp b.props.length dp] 45)
 have hbc:=Kaa hb1 hb2
 have hx8:=Kai hb2 (by simp) (heap_alloc_new w (.cells #[.int .i64 a.id,.slice pl a.labels.length cl,.slice pp a.props.length cp] 45))
 have hx9:=heap_alloc_new (w.alloc (.cells #[.int .i64 a.id,.slice pl a.labels.length cl,.slice pp a.props.length cp] 45)) (.cells #[.int .i64 b.id,.slice ql b.labels.length dl,.slice qp b.props.length dp] 45)
 simp only [World.size_alloc] at hx9
 have HT:=yh (sameTextsD_any (hla.below hbc) (hlb.below hbc))
 have HP:=yh (fun W (g : Below ((w.alloc (.cells #[.int .i64 a.id,.slice pl a.labels.length cl,.slice pp a.props.length cp] 45)).alloc (.cells #[.int .i64 b.id,.slice ql b.labels.length dl,.slice qp b.props.length dp] 45)).heap.size ((w.alloc (.cells #[.int .i64 a.id,.slice pl a.labels.length cl,.slice pp a.props.length cp] 45)).alloc (.cells #[.int .i64 b.id,.slice ql b.labels.length dl,.slice qp b.props.length dp] 45)) W)=>samePropsD_any ((hpa.below (fun h=>h.below hbc) hbc).below (fun h=>h.below g) g) ((hpb.below (fun h=>h.below hbc) hbc).below (fun h=>h.below g) g))
 have HX:=yh (And.intro hbc (And.intro hx8 hx9))
 have HF:=yh (show sameNQ a b = (decide (a.id = b.id) && decide (a.labels = b.labels) && all2 sameQ a.props b.props) from rfl)
 generalize all2 sameQ a.props b.props = pb at *
 generalize hlb' : decide (a.labels = b.labels) = lb at *
 clear hb1 hb2 hbc hx8 hx9 hla hpa hlb hpb hlb'
 by_cases hi : a.id = b.id
 ·have hie : (a.id == b.id) = true:=by rw [beq_iff_eq];exact hi
  have HI:=yh hi
  clear hi
  cases lb with
  | false =>
    go_enter Tryz.func54,Tryz.ntmps54
    go_wp2_with (first
     | (go_at_call 115;refine HT.out.mono ?_;rintro e W2 ⟨rfl,hb⟩;have HB:=yh (Kaa HX.out.1 hb);clear hb))
    go_ret
    exact ⟨Kak (by rw [HF.out];simp),HB.out⟩
  | true =>
    go_enter Tryz.func54,Tryz.ntmps54
    go_wp2_with (first
     | (go_at_call 115
        (
         refine HT.out.mono ?_
         rintro e W2 ⟨rfl,hb⟩
         have HB:=yh (Kaa HX.out.1 hb)
         have p2 : W2.cell? ⟨w.heap.size,2,none⟩ = some (.slice pp a.props.length cp):=Kac (o:=2) (Kai hb (by simp;omega) HX.out.2.1) rfl
         have p3 : W2.cell? ⟨w.heap.size + 1,2,none⟩ = some (.slice qp b.props.length dp):=Kac (o:=2) (Kai hb (by simp) HX.out.2.2) rfl
         have HP2:=yh (HP.out W2 hb)
         clear hb))
     | (go_at_call 116;refine HP2.out.mono ?_;rintro e W3 ⟨rfl,hb⟩;have HB3:=yh (Kaa HB.out hb);clear hb))
    go_ret
    exact ⟨Kak (by rw [HF.out,decide_eq_true HI.out];simp),HB3.out⟩
 ·have hie : (a.id == b.id) = false:=by rw [beq_eq_false_iff_ne];exact hi
  have HI:=yh hi
  clear hi
  go_enter Tryz.func54,Tryz.ntmps54
  go_wp2
  go_ret
  exact ⟨Kak (by rw [HF.out,decide_eq_false HI.out];rfl),HX.out.1⟩
theorem sameRelD_any {w : World} {a b : RelD} {x y : Array Value} (ha : RRd w a x) (hb : RRd w b y) : Calls Tryz.prog 55 #[.agg x,.agg y] w fun e w'=>e = .returned (.bool (sameRQ a b)) ∧ Below w.heap.size w w':=by
 obtain ⟨pp,cp,rfl,hta,hpa⟩:=ha
 obtain ⟨qp,dp,rfl,htb,hpb⟩:=hb
 have hb1:=Kad (w:=w) (.cells #[.int .i64 a.id,.int .i64 a.src,.int .i64 a.dst,.string (strB a.type),.slice pp a.props.length cp] 49)
 have hb2:=Kad (w:=w.alloc (.cells #[.int .i64 a.id,.int .i64 a.src,.int .i64 a.dst,.string (strB a.type),.slice pp a.props.length cp] 49)) (.cells #[.int .i64 b.id,.int .i64 b.src,.int .i64 b.dst,.string (strB b.type),.slice qp b.props.length dp] 49)
 have hbc:=Kaa hb1 hb2
 have HP:=yh (samePropsD_any (hpa.below (fun h=>h.below hbc) hbc) (hpb.below (fun h=>h.below hbc) hbc))
 have HX:=yh hbc
 have HF:=yh (show sameRQ a b = (decide (a.id = b.id) && decide (a.src = b.src) && decide (a.dst = b.dst) && decide (a.type = b.type) && all2 sameQ a.props b.props) from rfl)
 have hes : ((strB a.type).toList == (strB b.type).toList) = decide (a.type = b.type):=by rw [Kas,Kas,Bool.eq_iff_iff,beq_iff_eq,decide_eq_true_iff]
 generalize all2 sameQ a.props b.props = pb at *
 clear hb1 hb2 hbc hta htb hpa hpb
 by_cases h1 : a.id = b.id
 rotate_left
 ·have f1 : (a.id == b.id) = false:=by rw [beq_eq_false_iff_ne];exact h1
  have HN:=yh h1
  clear h1 hes
  go_enter Tryz.func55,Tryz.ntmps55
  go_wp2
  go_ret
  exact ⟨Kak (by rw [HF.out,decide_eq_false HN.out];rfl),HX.out⟩
 have f1 : (a.id == b.id) = true:=by rw [beq_iff_eq];exact h1
 have H1:=yh h1
 clear h1
 by_cases h2 : a.src = b.src
 rotate_left
 ·have f2 : (a.src == b.src) = false:=by rw [beq_eq_false_iff_ne];exact h2
  have HN:=yh h2
  clear h2 hes
  go_enter Tryz.func55,Tryz.ntmps55
  go_wp2
  go_ret
  exact ⟨Kak (by rw [HF.out,decide_eq_false HN.out];simp),HX.out⟩
 have f2 : (a.src == b.src) = true:=by rw [beq_iff_eq];exact h2
 have H2:=yh h2
 clear h2
 by_cases h3 : a.dst = b.dst
 rotate_left
 ·have f3 : (a.dst == b.dst) = false:=by rw [beq_eq_false_iff_ne];exact h3
  have HN:=yh h3
  clear h3 hes
  go_enter Tryz.func55,Tryz.ntmps55
  go_wp2
  go_ret
  exact ⟨Kak (by rw [HF.out,decide_eq_false HN.out];simp),HX.out⟩
 have f3 : (a.dst == b.dst) = true:=by rw [beq_iff_eq];exact h3
 have H3:=yh h3
 clear h3
 by_cases h4 : a.type = b.type
 rotate_left
 ·rw [decide_eq_false h4] at hes
  have HN:=yh h4
  clear h4
  go_enter Tryz.func55,Tryz.ntmps55
  go_wp2
  go_ret
  exact ⟨Kak (by rw [HF.out,decide_eq_false HN.out];simp),HX.out⟩
 rw [decide_eq_true h4] at hes
 have H4:=yh h4
 clear h4
 go_enter Tryz.func55,Tryz.ntmps55
 go_wp2_with (go_at_call 116;refine HP.out.mono ?_;rintro e W3 ⟨rfl,hb⟩;have HB3:=yh (Kaa HX.out hb);clear hb)
 go_ret
 exact ⟨Kak (by rw [HF.out,decide_eq_true H1.out,decide_eq_true H2.out,decide_eq_true H3.out,decide_eq_true H4.out];rfl),HB3.out⟩
theorem sameRefG_any {w : World} {a b : GraphD} {x y : Array Value} (ha : GrRd w a x) (hb : GrRd w b y) : Calls Tryz.prog 17 #[.agg x,.agg y] w fun e w'=>e = .returned (.bool (Kch a b)) ∧ Below w.heap.size w w':=by
 obtain ⟨pn,cn,pr,cr,rfl,hna,hra⟩:=ha
 obtain ⟨qn,dn,qr,dr,rfl,hnb,hrb⟩:=hb
 have hb1:=Kad (w:=w) (.cells #[.slice pn a.nodes.length cn,.slice pr a.rels.length cr,.int .i64 a.nextNode,.int .i64 a.nextRel] 25)
 have hb2:=Kad (w:=w.alloc (.cells #[.slice pn a.nodes.length cn,.slice pr a.rels.length cr,.int .i64 a.nextNode,.int .i64 a.nextRel] 25)) (.cells #[.slice qn b.nodes.length dn,.slice qr b.rels.length dr,.int .i64 b.nextNode,.int .i64 b.nextRel] 25)
 have hbc:=Kaa hb1 hb2
 have hx8:=Kai hb2 (by simp) (heap_alloc_new w (.cells #[.slice pn a.nodes.length cn,.slice pr a.rels.length cr,.int .i64 a.nextNode,.int .i64 a.nextRel] 25))
 have hx9:=heap_alloc_new (w.alloc (.cells #[.slice pn a.nodes.length cn,.slice pr a.rels.length cr,.int .i64 a.nextNode,.int .i64 a.nextRel] 25)) (.cells #[.slice qn b.nodes.length dn,.slice qr b.rels.length dr,.int .i64 b.nextNode,.int .i64 b.nextRel] 25)
 simp only [World.size_alloc] at hx9
 have z1 : (a.nodes.length : Int) ≤ 140737488355328:=by have:=hna.1.2.1;omega
 have z2 : (a.rels.length : Int) ≤ 140737488355328:=by have:=hra.1.2.1;omega
 have z3 : (b.nodes.length : Int) ≤ 140737488355328:=by have:=hnb.1.2.1;omega
 have z4 : (b.rels.length : Int) ≤ 140737488355328:=by have:=hrb.1.2.1;omega
 have HX:=yh hbc
 have hn1:=hna.below (fun h=>h.below hbc) hbc
 have hn2:=hnb.below (fun h=>h.below hbc) hbc
 have hr1:=hra.below (fun h=>h.below hbc) hbc
 have hr2:=hrb.below (fun h=>h.below hbc) hbc
 have HN:=yh (And.intro hn1 hn2)
 have HR:=yh (And.intro hr1 hr2)
 have q1 : ((w.alloc (.cells #[.slice pn a.nodes.length cn,.slice pr a.rels.length cr,.int .i64 a.nextNode,.int .i64 a.nextRel] 25)).alloc (.cells #[.slice qn b.nodes.length dn,.slice qr b.rels.length dr,.int .i64 b.nextNode,.int .i64 b.nextRel] 25)).cell? ⟨w.heap.size,0,none⟩ = some (.slice pn a.nodes.length cn):=Kac (o:=0) hx8 rfl
 have q2 : ((w.alloc (.cells #[.slice pn a.nodes.length cn,.slice pr a.rels.length cr,.int .i64 a.nextNode,.int .i64 a.nextRel] 25)).alloc (.cells #[.slice qn b.nodes.length dn,.slice qr b.rels.length dr,.int .i64 b.nextNode,.int .i64 b.nextRel] 25)).cell? ⟨w.heap.size + 1,0,none⟩ = some (.slice qn b.nodes.length dn):=Kac (o:=0) hx9 rfl
 have q3 : ((w.alloc (.cells #[.slice pn a.nodes.length cn,.slice pr a.rels.length cr,.int .i64 a.nextNode,.int .i64 a.nextRel] 25)).alloc (.cells #[.slice qn b.nodes.length dn,.slice qr b.rels.length dr,.int .i64 b.nextNode,.int .i64 b.nextRel] 25)).cell? ⟨w.heap.size,1,none⟩ = some (.slice pr a.rels.length cr):=Kac (o:=1) hx8 rfl
 have q4 : ((w.alloc (.cells #[.slice pn a.nodes.length cn,.slice pr a.rels.length cr,.int .i64 a.nextNode,.int .i64 a.nextRel] 25)).alloc (.cells #[.slice qn b.nodes.length dn,.slice qr b.rels.length dr,.int .i64 b.nextNode,.int .i64 b.nextRel] 25)).cell? ⟨w.heap.size + 1,1,none⟩ = some (.slice qr b.rels.length dr):=Kac (o:=1) hx9 rfl
 have HC:=yh (And.intro q1 (And.intro q2 (And.intro q3 q4)))
 clear hb1 hb2 hbc hx8 hx9 hna hnb hra hrb hn1 hn2 hr1 hr2 q1 q2 q3 q4
 have HQ1:=yh (fun e : ¬ a.nextNode = b.nextNode=>show Kch a b = false by unfold Kch;rw [decide_eq_false e];simp)
 have HQ2:=yh (fun e : ¬ a.nextRel = b.nextRel=>show Kch a b = false by unfold Kch;rw [decide_eq_false e];simp)
 have HQ3:=yh (fun e : ¬ a.nodes.length = b.nodes.length=>show Kch a b = false by unfold Kch;rw [all2_ne e];simp)
 have HQ4:=yh (fun e : ¬ a.rels.length = b.rels.length=>show Kch a b = false by unfold Kch;rw [all2_ne e];simp)
 have HNO:=yh (And.intro (fun e : all2 sameNQ a.nodes b.nodes = false=>show Kch a b = false by unfold Kch;rw [e];simp) (fun e : all2 sameRQ a.rels b.rels = false=>show Kch a b = false by unfold Kch;rw [e];simp))
 have HYES:=yh (fun (e3 : a.nextNode = b.nextNode) (e4 : a.nextRel = b.nextRel) (e1 : all2 sameNQ a.nodes b.nodes = true) (e2 : all2 sameRQ a.rels b.rels = true)=>show Kch a b = true by unfold Kch;rw [e1,e2,decide_eq_true e3,decide_eq_true e4];rfl)
 generalize a.nextNode = m1 at *
 generalize b.nextNode = m2 at *
 generalize a.nextRel = m3 at *
 generalize b.nextRel = m4 at *
 by_cases h1 : m1 = m2
 rotate_left
 ·have f1 : (m1 == m2) = false:=by rw [beq_eq_false_iff_ne];exact h1
  have f1b : (m1 != m2) = true:=by simp [h1]
  have HF:=yh (HQ1.out h1)
  clear h1
  go_enter Tryz.func17,Tryz.ntmps17
  go_wp2
  go_ret
  exact ⟨Kak HF.out.symm,HX.out⟩
 subst h1
 by_cases h2 : m3 = m4
 rotate_left
 ·have f2 : (m3 == m4) = false:=by rw [beq_eq_false_iff_ne];exact h2
  have f2b : (m3 != m4) = true:=by simp [h2]
  have HF:=yh (HQ2.out h2)
  clear h2
  go_enter Tryz.func17,Tryz.ntmps17
  go_wp2
  go_ret
  exact ⟨Kak HF.out.symm,HX.out⟩
 subst h2
 by_cases h3 : a.nodes.length = b.nodes.length
 rotate_left
 ·have f3 : ¬ (a.nodes.length : Int) = (b.nodes.length : Int):=by omega
  have k3 : ((a.nodes.length : Int) == (b.nodes.length : Int)) = false:=by rw [beq_eq_false_iff_ne];exact f3
  have HF:=yh (HQ3.out h3)
  clear h3
  go_enter Tryz.func17,Tryz.ntmps17
  go_wp2
  go_ret
  exact ⟨Kak HF.out.symm,HX.out⟩
 have HL1:=yh h3
 have f3 : (b.nodes.length : Int) = (a.nodes.length : Int):=by omega
 clear h3
 by_cases h4 : a.rels.length = b.rels.length
 rotate_left
 ·have f4 : ¬ (a.rels.length : Int) = (b.rels.length : Int):=by omega
  have k4 : ((a.rels.length : Int) == (b.rels.length : Int)) = false:=by rw [beq_eq_false_iff_ne];exact f4
  have HF:=yh (HQ4.out h4)
  clear h4
  go_enter Tryz.func17,Tryz.ntmps17
  go_wp2
  go_ret
  exact ⟨Kak HF.out.symm,HX.out⟩
 have HL2:=yh h4
 have f4 : (b.rels.length : Int) = (a.rels.length : Int):=by omega
 clear h4
 go_enter Tryz.func17,Tryz.ntmps17
 go_wp2
 clear f3 f4
 obtain ⟨w2,hw2⟩ : ∃ w2,w2 = ((w.alloc (.cells #[.slice pn a.nodes.length cn,.slice pr a.rels.length cr,.int .i64 m1,.int .i64 m3] 25)).alloc (.cells #[.slice qn b.nodes.length dn,.slice qr b.rels.length dr,.int .i64 m1,.int .i64 m3] 25)):=⟨_,rfl⟩
 rw [← hw2] at HX HN HR HC ⊢
 clear hw2
 go_loopw [5] (fun i W=>∃ j : Nat,j ≤ a.nodes.length ∧ i = .int .i64 (j : Int) ∧ Hid (AllJ sameNQ a.nodes b.nodes j ∧ Below w2.heap.size w2 W)) (fun i _=>a.nodes.length - (intOf i).toNat)
 case atStart=>exact ⟨0,Nat.zero_le _,rfl,yh ⟨AllJ.zero _ _ _,Below.refl _ _⟩⟩
 case round =>
  obtain ⟨j,hj,rfl,HI⟩:=hrel
  have gw : wr.cell? ⟨w.heap.size,0,none⟩ = some (.slice pn a.nodes.length cn):=Kae HI.out.2 (ltOf HC.out.1) HC.out.1
  by_cases hlt : j < a.nodes.length
  ·have hlt1 : j + 1 ≤ a.nodes.length:=hlt
   have hltb : j < b.nodes.length:=by have:=HL1.out;omega
   obtain ⟨b1,o1,y1,rfl,hs1,hcc1,hv1⟩:=(HN.out.1.below (fun h=>h.below HI.out.2) HI.out.2).get hlt
   obtain ⟨b2,o2,y2,rfl,hs2,hcc2,hv2⟩:=(HN.out.2.below (fun h=>h.below HI.out.2) HI.out.2).get hltb
   have g1:=gw
   have g2 : wr.cell? ⟨w.heap.size + 1,0,none⟩ = some (.slice (some ⟨b2,o2,none⟩) b.nodes.length dn):=Kae HI.out.2 (ltOf HC.out.2.1) HC.out.2.1
   have hi1 : ∀ W' : World,(Instr.indexAt 22 (.slice (some ⟨b1,o1,none⟩) a.nodes.length cn) (.int .i64 (j : Int))).run Tryz.prog W' = .ok (.pointer (some ⟨b1,o1 + j * 3,none⟩)) W':=fun W'=>ia_node hlt W'
   have hi2 : ∀ W' : World,(Instr.indexAt 22 (.slice (some ⟨b2,o2,none⟩) b.nodes.length dn) (.int .i64 (j : Int))).run Tryz.prog W' = .ok (.pointer (some ⟨b2,o2 + j * 3,none⟩)) W':=fun W'=>ia_node hltb W'
   have hal:=fun W (g : Below wr.heap.size wr W)=>sameNodeD_any (hv1.below g) (hv2.below g)
   have hno:=all2_no (f:=sameNQ) (j:=j) hlt hltb
   have hye:=HI.out.1.succ hlt hltb
   generalize sameNQ a.nodes[j] b.nodes[j] = av at *
   have HM:=yh (And.intro hno hye)
   have HB1:=yh HI.out.2
   have hB0 : Below wr.heap.size wr wr.drew:=(Below.refl _ wr).drew
   have HY:=yh (And.intro hi1 (And.intro hi2 (And.intro hal (And.intro g1 (And.intro g2 (And.intro hs1 (And.intro hs2 (And.intro hcc1 (And.intro hcc2 hB0)))))))))
   clear hi1 hi2 hal g1 g2 hs1 hs2 hcc1 hcc2 hv1 hv2 hB0 hno hye HI
   go_wp2
   clear gw
   obtain ⟨hi1,hi2,hal,g1,g2,hs1,hs2,hc1,hc2,hB0⟩:=HY.out
   refine Kah (fun W=>Below wr.heap.size wr W) (by kernel_rfl) hB0 (fun hS=>?_)
   refine tk 0 44 (v:=.pointer (some ⟨w.heap.size,0,none⟩)) rfl rfl (fun W hW=>Kab rfl rfl (fa_gr 0 (by omega) _ W)) ?_;simp only [zP]
   refine tk 1 45 (v:=.slice (some ⟨b1,o1,none⟩) a.nodes.length cn) rfl rfl (fun W hW=>Kaf rfl rfl (Kag (w:=W) Tryz.underlying22 rfl (Kae hW (ltOf g1) g1))) ?_;simp only [zP]
   refine tm 2 46 (v:=.int .i64 (j : Int)) rfl rfl rfl ?_;simp only [zP]
   refine tk 3 47 (v:=.pointer (some ⟨b1,o1 + j * 3,none⟩)) rfl rfl (fun W hW=>Kaj rfl rfl rfl (hi1 W)) ?_;simp only [zP]
   refine tk 4 48 (v:=.agg y1) rfl rfl (fun W hW=>Kaf rfl rfl (StT.load (P:=Tryz.prog) (W:=W) Kbc hs1 fun i u hu=>Kae hW (ltOf (hc1 i u hu)) (hc1 i u hu))) ?_;simp only [zP]
   refine tk 5 49 (v:=.pointer (some ⟨w.heap.size + 1,0,none⟩)) rfl rfl (fun W hW=>Kab rfl rfl (fa_gr 0 (by omega) _ W)) ?_;simp only [zP]
   refine tk 6 50 (v:=.slice (some ⟨b2,o2,none⟩) b.nodes.length dn) rfl rfl (fun W hW=>Kaf rfl rfl (Kag (w:=W) Tryz.underlying22 rfl (Kae hW (ltOf g2) g2))) ?_;simp only [zP]
   refine tm 7 51 (v:=.int .i64 (j : Int)) rfl rfl rfl ?_;simp only [zP]
   refine tk 8 52 (v:=.pointer (some ⟨b2,o2 + j * 3,none⟩)) rfl rfl (fun W hW=>Kaj rfl rfl rfl (hi2 W)) ?_;simp only [zP]
   refine tk 9 53 (v:=.agg y2) rfl rfl (fun W hW=>Kaf rfl rfl (StT.load (P:=Tryz.prog) (W:=W) Kbc hs2 fun i u hu=>Kae hW (ltOf (hc2 i u hu)) (hc2 i u hu))) ?_;simp only [zP]
   refine Kay 10 54 rfl rfl (by kernel_rfl) rfl (Kar [.agg y1,.agg y2] rfl rfl Tryz.func54 (by kernel_rfl) (by kernel_rfl)) ?_
   refine (hal _ hS).mono ?_
   rintro e W10 ⟨rfl,hb10⟩
   have hS10:=Kaa hS hb10
   refine ⟨_,rfl,.inr hS10,?_⟩;simp only [zP]
   refine tk 11 55 (v:=.bool (!av)) rfl rfl (fun W hW=>Ka5 rfl rfl) ?_;simp only [zP]
   refine done (by kernel_rfl) ?_ _
   have HB:=yh (Kaa HB1.out hS10)
   clear hi1 hi2 hal g1 g2 hs1 hs2 hc1 hc2 hB0 hS HY hS10 hb10
   cases av with
   | false =>
     have HF:=yh (HNO.out.1 (HM.out.1 rfl))
     clear HM
     go_wp2
     go_ret
     exact ⟨Kak HF.out.symm,Kaa HX.out HB.out⟩
   | true =>
     go_wp2
     go_roundw
     case rel=>exact ⟨j + 1,hlt1,by go_num,yh ⟨HM.out.2 rfl,HB.out⟩⟩
     case measure=>simp [intOf];omega
  ·obtain rfl : j = a.nodes.length:=by omega
   have HAN:=yh (HI.out.1.all HL1.out)
   have HB:=yh HI.out.2
   clear HI
   have gr : wr.cell? ⟨w.heap.size,1,none⟩ = some (.slice pr a.rels.length cr):=Kae HB.out (ltOf HC.out.2.2.1) HC.out.2.2.1
   go_wp2
   clear gw gr
   go_loopw [6] (fun i W=>∃ j : Nat,j ≤ a.rels.length ∧ i = .int .i64 (j : Int) ∧ Hid (AllJ sameRQ a.rels b.rels j ∧ Below w2.heap.size w2 W)) (fun i _=>a.rels.length - (intOf i).toNat)
   case atStart=>exact ⟨0,Nat.zero_le _,rfl,yh ⟨AllJ.zero _ _ _,HB.out⟩⟩
   case round =>
    obtain ⟨j,hj,rfl,HI⟩:=hrel
    have gw : wr.cell? ⟨w.heap.size,1,none⟩ = some (.slice pr a.rels.length cr):=Kae HI.out.2 (ltOf HC.out.2.2.1) HC.out.2.2.1
    by_cases hlt : j < a.rels.length
    ·have hlt1 : j + 1 ≤ a.rels.length:=hlt
     have hltb : j < b.rels.length:=by have:=HL2.out;omega
     obtain ⟨b1,o1,y1,rfl,hs1,hcc1,hv1⟩:=(HR.out.1.below (fun h=>h.below HI.out.2) HI.out.2).get hlt
     obtain ⟨b2,o2,y2,rfl,hs2,hcc2,hv2⟩:=(HR.out.2.below (fun h=>h.below HI.out.2) HI.out.2).get hltb
     have g1:=gw
     have g2 : wr.cell? ⟨w.heap.size + 1,1,none⟩ = some (.slice (some ⟨b2,o2,none⟩) b.rels.length dr):=Kae HI.out.2 (ltOf HC.out.2.2.2) HC.out.2.2.2
     have hi1 : ∀ W' : World,(Instr.indexAt 23 (.slice (some ⟨b1,o1,none⟩) a.rels.length cr) (.int .i64 (j : Int))).run Tryz.prog W' = .ok (.pointer (some ⟨b1,o1 + j * 5,none⟩)) W':=fun W'=>ia_rel hlt W'
     have hi2 : ∀ W' : World,(Instr.indexAt 23 (.slice (some ⟨b2,o2,none⟩) b.rels.length dr) (.int .i64 (j : Int))).run Tryz.prog W' = .ok (.pointer (some ⟨b2,o2 + j * 5,none⟩)) W':=fun W'=>ia_rel hltb W'
     have hal:=fun W (g : Below wr.heap.size wr W)=>sameRelD_any (hv1.below g) (hv2.below g)
     have hno:=all2_no (f:=sameRQ) (j:=j) hlt hltb
     have hye:=HI.out.1.succ hlt hltb
     generalize sameRQ a.rels[j] b.rels[j] = av at *
     have HM:=yh (And.intro hno hye)
     have HB1:=yh HI.out.2
     have hB0 : Below wr.heap.size wr wr.drew:=(Below.refl _ wr).drew
     have HY:=yh (And.intro hi1 (And.intro hi2 (And.intro hal (And.intro g1 (And.intro g2 (And.intro hs1 (And.intro hs2 (And.intro hcc1 (And.intro hcc2 hB0)))))))))
     clear hi1 hi2 hal g1 g2 hs1 hs2 hcc1 hcc2 hv1 hv2 hB0 hno hye HI
     go_wp2
     clear gw
     obtain ⟨hi1,hi2,hal,g1,g2,hs1,hs2,hc1,hc2,hB0⟩:=HY.out
     refine Kah (fun W=>Below wr.heap.size wr W) (by kernel_rfl) hB0 (fun hS=>?_)
     refine tk 0 63 (v:=.pointer (some ⟨w.heap.size,1,none⟩)) rfl rfl (fun W hW=>Kab rfl rfl (fa_gr 1 (by omega) _ W)) ?_;simp only [zP]
     refine tk 1 64 (v:=.slice (some ⟨b1,o1,none⟩) a.rels.length cr) rfl rfl (fun W hW=>Kaf rfl rfl (Kag (w:=W) Tryz.underlying23 rfl (Kae hW (ltOf g1) g1))) ?_;simp only [zP]
     refine tm 2 65 (v:=.int .i64 (j : Int)) rfl rfl rfl ?_;simp only [zP]
     refine tk 3 66 (v:=.pointer (some ⟨b1,o1 + j * 5,none⟩)) rfl rfl (fun W hW=>Kaj rfl rfl rfl (hi1 W)) ?_;simp only [zP]
     refine tk 4 67 (v:=.agg y1) rfl rfl (fun W hW=>Kaf rfl rfl (StT.load (P:=Tryz.prog) (W:=W) Kb1 hs1 fun i u hu=>Kae hW (ltOf (hc1 i u hu)) (hc1 i u hu))) ?_;simp only [zP]
     refine tk 5 68 (v:=.pointer (some ⟨w.heap.size + 1,1,none⟩)) rfl rfl (fun W hW=>Kab rfl rfl (fa_gr 1 (by omega) _ W)) ?_;simp only [zP]
     refine tk 6 69 (v:=.slice (some ⟨b2,o2,none⟩) b.rels.length dr) rfl rfl (fun W hW=>Kaf rfl rfl (Kag (w:=W) Tryz.underlying23 rfl (Kae hW (ltOf g2) g2))) ?_;simp only [zP]
     refine tm 7 70 (v:=.int .i64 (j : Int)) rfl rfl rfl ?_;simp only [zP]
     refine tk 8 71 (v:=.pointer (some ⟨b2,o2 + j * 5,none⟩)) rfl rfl (fun W hW=>Kaj rfl rfl rfl (hi2 W)) ?_;simp only [zP]
     refine tk 9 72 (v:=.agg y2) rfl rfl (fun W hW=>Kaf rfl rfl (StT.load (P:=Tryz.prog) (W:=W) Kb1 hs2 fun i u hu=>Kae hW (ltOf (hc2 i u hu)) (hc2 i u hu))) ?_;simp only [zP]
     refine Kay 10 73 rfl rfl (by kernel_rfl) rfl (Kar [.agg y1,.agg y2] rfl rfl Tryz.func55 (by kernel_rfl) (by kernel_rfl)) ?_
     refine (hal _ hS).mono ?_
     rintro e W10 ⟨rfl,hb10⟩
     have hS10:=Kaa hS hb10
     refine ⟨_,rfl,.inr hS10,?_⟩;simp only [zP]
     refine tk 11 74 (v:=.bool (!av)) rfl rfl (fun W hW=>Ka5 rfl rfl) ?_;simp only [zP]
     refine done (by kernel_rfl) ?_ _
     have HB:=yh (Kaa HB1.out hS10)
     clear hi1 hi2 hal g1 g2 hs1 hs2 hc1 hc2 hB0 hS HY hS10 hb10
     cases av with
     | false =>
       have HF:=yh (HNO.out.2 (HM.out.1 rfl))
       clear HM
       go_wp2
       go_ret
       exact ⟨Kak HF.out.symm,Kaa HX.out HB.out⟩
     | true =>
       go_wp2
       go_roundw
       case rel=>exact ⟨j + 1,hlt1,by go_num,yh ⟨HM.out.2 rfl,HB.out⟩⟩
       case measure=>simp [intOf];omega
    ·obtain rfl : j = a.rels.length:=by omega
     have HAR:=yh (HI.out.1.all HL2.out)
     have HB:=yh HI.out.2
     clear HI
     go_wp2
     go_ret
     exact ⟨Kak (HYES.out trivial trivial HAN.out HAR.out).symm,Kaa HX.out HB.out⟩
theorem addNode_gg {S : Nat → Prop} {w : World} {B : GB} {g : GraphD} (hE : Env w) (hg : GG S w B g) (hS : ∀ b,w.heap.size ≤ b → S b) (hok : okG g = true) {pl : Option Addr} {cl : Nat} {labels : List (List UInt8)} (hl : RdS w pl cl labels) (hl1 : labels.length ≤ 1100000) {pp : Option Addr} {cp : Nat} {props : List PropD} (hp : GRd PRd 7 w pp cp props) (hp1 : PsOk props) :
 Calls Tryz.prog 15 #[.pointer (some ⟨B.gx,0,none⟩),.slice pl labels.length cl,.slice pp props.length cp] w fun e w'=>e = .returned (.tuple #[.int .i64 (Kbm g labels props).2.1,.int .i64 (Kbm g labels props).2.2]) ∧ GG S w' B (Kbm g labels props).1 ∧ Touch S w w':=by
 obtain ⟨ma,h⟩:=hg
 refine (addNode_any hE h hS hok hl hl1 hp hp1).mono ?_
 rintro e w' ⟨he,h1,h2⟩
 have hgr : (gsOf g).graph = g:=rfl
 rw [hgr] at he h1
 refine ⟨he,⟨ma,?_⟩,h2⟩
 have hr : (Kbm g labels props).1.rels = g.rels:=by
  unfold Kbm
  split
  ·rfl
  ·split <;> rfl
 unfold gsOf
 rw [hr]
 exact h1
theorem drop_gg {S : Nat → Prop} {w : World} {B : GB} {g : GraphD} (hg : GG S w B g) (hS : ∀ b,w.heap.size ≤ b → S b) (hok : okG g = true) (rel : Bool) (i : Int) :
 Calls Tryz.prog 38 #[.pointer (some ⟨B.gx,0,none⟩),.bool rel,.int .i64 i] w fun e w'=>e = .returned (.int .i64 (dropD g rel i).2) ∧ GG S w' B (dropD g rel i).1 ∧ Touch S w w':=by
 cases rel with
 | false=>exact dropN_any hg hS hok i
 | true=>exact dropR_any hg hS hok i
theorem RdS.pair {W : World} {g : Nat} {a b : List UInt8} (h : W.heap[g]? = some (.cells #[.string (strB a),.string (strB b)] 9 (0,0))) (ha : a.length ≤ 1000) (hb : b.length ≤ 1000) : RdS W (some ⟨g,0,none⟩) 2 [a,b]:=by
 refine ⟨Nat.le_refl _,by simp,fun e=>(by cases e),fun s hs=>?_,fun ad had=>?_⟩
 ·rcases List.mem_cons.1 hs with rfl | hs
  ·omega
  ·rw [List.mem_singleton.1 hs];omega
 ·cases had
  refine ⟨fun _=>rfl,fun i s hs=>?_⟩
  match i,hs with
  | 0,hs=>cases hs;exact Kac (o:=0) h rfl
  | 1,hs=>cases hs;exact Kac (o:=1) h rfl
  | n + 2,hs=>simp at hs
theorem GRd.single {W : World} {g : Nat} {p : PropD} {x : Array Value} (h : W.heap[g]? = some (.cells x 47 (0,0))) (hx : PRd W p x) : GRd PRd 7 W (some ⟨g,0,none⟩) 1 [p]:=by
 refine ⟨⟨Nat.le_refl _,by simp,fun e=>(by cases e)⟩,fun ad had=>?_⟩
 cases had
 refine ⟨fun _=>rfl,fun j v hv=>?_⟩
 match j,hv with
 | 0,hv =>
   cases hv
   refine ⟨x,ef_prop.size hx,fun i u hu=>?_,hx⟩
   have:=Kac (o:=i) h hu
   simpa using this
 | n + 1,hv=>simp at hv
theorem RdS.none (W : World) : RdS W none 0 []:=⟨Nat.le_refl _,by simp,fun _=>rfl,fun s hs=>by simp at hs,fun ad had=>by cases had⟩
theorem GRd.none {α : Type} (F : World → α → Array Value → Prop) (K : Nat) (W : World) : GRd F K W none 0 ([] : List α):=⟨⟨Nat.le_refl _,by simp,fun _=>rfl⟩,fun ad had=>by cases had⟩
def kLabels : List (List UInt8):=[[66],[65]]
def kVal : V:=.mk 2 false 1 [] [] []
def kProps : List PropD:=[⟨[107],kVal⟩]
def kg1 : GraphD:=⟨[⟨0,[[65],[66]],kProps⟩],[],1,0⟩
def kg2 : GraphD:=⟨[⟨0,[[65],[66]],kProps⟩,⟨1,[],[]⟩],[],2,0⟩
def kg3 : GraphD:=⟨[⟨0,[[65],[66]],kProps⟩,⟨1,[],[]⟩],[⟨0,0,1,[84],[]⟩],2,1⟩
def kg4 : GraphD:=⟨[⟨0,[[65],[66]],kProps⟩,⟨1,[],[]⟩],[],2,1⟩
def kg5 : GraphD:=⟨[⟨1,[],[]⟩],[],2,1⟩
theorem kok0 : okG graph0 = true:=by kernel_rfl
theorem kok1 : okG kg1 = true:=by kernel_rfl
theorem kok2 : okG kg2 = true:=by kernel_rfl
theorem kok3 : okG kg3 = true:=by kernel_rfl
theorem kok4 : okG kg4 = true:=by kernel_rfl
theorem kadd1 : Kbm graph0 kLabels kProps = (kg1,0,0):=by kernel_rfl
theorem kadd2 : Kbm kg1 [] [] = (kg2,1,0):=by kernel_rfl
theorem kadd3 : addRelD kg2 0 1 [84] [] = (kg3,0,0):=by kernel_rfl
theorem kadd4 : addRelD kg3 0 2 [84] [] = (kg3,0,5):=by kernel_rfl
theorem kdrop1 : dropD kg3 false 0 = (kg3,150):=by kernel_rfl
theorem kdrop2 : dropD kg3 true 0 = (kg4,0):=by kernel_rfl
theorem kdrop3 : dropD kg4 false 0 = (kg5,0):=by kernel_rfl
theorem kbound : GOk kg5:=by refine ⟨by decide,by decide,?_,?_⟩ <;> simp [kg5,NOk,PsOk]
theorem kbound0 : GOk graph0:=by refine ⟨by decide,by decide,?_,?_⟩ <;> simp [graph0]
theorem Touch.low {w W W' : World} (h : Touch (fun b=>w.heap.size ≤ b) W W') (hb : Below w.heap.size w W) : Below w.heap.size w W':=h.below hb (fun b h1 h2=>by omega) hb.size
def kCells : Array Value:=#[.string (strB [107]),.int .i64 2,.bool false,.int .i64 1,.string (strB []),.slice none 0 0,.slice none 0 0]
theorem kcells_rd (W : World) : PRd W ⟨[107],kVal⟩ kCells:=⟨#[.int .i64 2,.bool false,.int .i64 1,.string (strB []),.slice none 0 0,.slice none 0 0],rfl,by simp,Kb0.2 ⟨none,0,none,0,rfl,by simp,RdS.none W,⟨Nat.le_refl _,by simp,fun _=>rfl⟩,fun ad had=>by cases had⟩⟩
theorem kPsOk : PsOk kProps:=⟨by simp [kProps],fun p hp=>by rw [List.mem_singleton.1 hp];exact ⟨by simp,by simp [kVal,totV,totVs]⟩⟩
theorem run_bs2s (x y : List UInt8) (w : World) : (Instr.buildSlice 26 2 #[(0,.string (strB x)),(1,.string (strB y))]).run Tryz.prog w = .ok (.slice (some ⟨w.heap.size,0,none⟩) 2 2) (w.alloc (.cells #[.string (strB x),.string (strB y)] 9)):=by
 simp [Instr.buildSlice,go_sem,Instr.fill]
theorem known_any {w : World} (hE : Env w) : Calls Tryz.prog 12 #[] w fun e w'=>e = .returned (.bool true) ∧ Below w.heap.size w w':=by
 have hr0 : GrRd w graph0 #[.slice none 0 0,.slice none 0 0,.int .i64 0,.int .i64 0]:=⟨none,0,none,0,rfl,GRd.none _ _ _,GRd.none _ _ _⟩
 have HMK:=yh (make_any hE hr0 kbound0)
 have HE:=yh hE
 clear hE hr0
 go_enter Tryz.func12,Tryz.ntmps12
 go_wp2_with (first
  | (go_at_call 14
     (
      refine HMK.out.mono ?_
      rintro e w1 ⟨hb,_,h2⟩
      obtain ⟨B,ma,rfl,hgm⟩:=h2 kok0
      have hg1 : GG (fun b=>w.heap.size ≤ b) w1 B graph0:=GG.made kok0 hgm
      have hn2:=Kad (w:=w1) (.cells #[.string (strB [66]),.string (strB [65])] 9)
      have hn3:=Kad (w:=w1.alloc (.cells #[.string (strB [66]),.string (strB [65])] 9)) (.cells kCells 47)
      have hl3:=RdS.pair (Kai hn3 (by simp) (heap_alloc_new w1 (.cells #[.string (strB [66]),.string (strB [65])] 9))) (by decide) (by decide)
      have hx3:=heap_alloc_new (w1.alloc (.cells #[.string (strB [66]),.string (strB [65])] 9)) (.cells kCells 47)
      simp only [World.size_alloc] at hx3
      have hp3:=GRd.single hx3 (kcells_rd _)
      have hb3:=Kaa hb (Kaa hn2 hn3)
      have hc1:=addNode_gg (HE.out.b hb3) (hg1.below (Kaa hn2 hn3)) (fun b h=>Nat.le_trans hb3.size h) kok0 (labels:=kLabels) hl3 (by decide) (props:=kProps) hp3 kPsOk
      rw [kadd1] at hc1
      have HBS2:=yh (run_bs2s [66] [65] w1)
      have hbs1:=Ka0 (P:=Tryz.prog) (w:=w1.alloc (.cells #[.string (strB [66]),.string (strB [65])] 9)) (v:=.agg kCells) Tryz.underlying27 Tryz.sizeOf47 Tryz.zeroValue47 rfl (by omega) (by omega)
      simp only [World.size_alloc] at hbs1
      have HBS1:=yh hbs1
      have HC1:=yh hc1
      have HB3:=yh hb3
      clear hb h2 hgm hg1 hn2 hn3 hl3 hx3 hp3 hb3 hc1 HMK hbs1))
  | ((with_reducible apply op_bs2);exact HBS2.out;exact rfl;exact rfl;clear HBS2)
  | ((with_reducible apply op_bs1);exact HBS1.out;exact rfl;clear HBS1)
  | (go_at_call 15
     (
      refine HC1.out.mono ?_
      rintro e w4 ⟨rfl,hg4,hT4⟩
      have hb4:=hT4.low HB3.out
      have hc2:=addNode_gg (HE.out.b hb4) hg4 (fun b h=>Nat.le_trans hb4.size h) kok1 (RdS.none w4) (by decide) (GRd.none PRd 7 w4) ⟨by simp,fun p hp=>by simp at hp⟩
      rw [kadd2] at hc2
      have HC2:=yh hc2
      have HB4:=yh hb4
      clear hg4 hT4 hb4 hc2 HC1))
  | (go_at_call 15
     (
      refine HC2.out.mono ?_
      rintro e w5 ⟨rfl,hg5,hT5⟩
      have hb5:=hT5.low HB4.out
      have hc3:=addRel_any (HE.out.b hb5) hg5 (fun b h=>Nat.le_trans hb5.size h) kok2 0 1 (type:=[84]) (by decide) (GRd.none PRd 7 w5) ⟨by simp,fun p hp=>by simp at hp⟩
      rw [kadd3] at hc3
      have HC3:=yh hc3
      have HB5:=yh hb5
      clear hg5 hT5 hb5 hc3 HC2))
  | (go_at_call 37
     (
      refine HC3.out.mono ?_
      rintro e w6 ⟨rfl,hg6,hT6⟩
      have hb6:=hT6.low HB5.out
      have hc4:=addRel_any (HE.out.b hb6) hg6 (fun b h=>Nat.le_trans hb6.size h) kok3 0 2 (type:=[84]) (by decide) (GRd.none PRd 7 w6) ⟨by simp,fun p hp=>by simp at hp⟩
      rw [kadd4] at hc4
      have HC4:=yh hc4
      have HB6:=yh hb6
      clear hg6 hT6 hb6 hc4 HC3))
  | (go_at_call 37
     (
      refine HC4.out.mono ?_
      rintro e w7 ⟨rfl,hg7,hT7⟩
      have hb7:=hT7.low HB6.out
      have hc5:=drop_gg hg7 (fun b h=>Nat.le_trans hb7.size h) kok3 false 0
      rw [kdrop1] at hc5
      have HC5:=yh hc5
      have HB7:=yh hb7
      clear hg7 hT7 hb7 hc5 HC4))
  | (go_at_call 38
     (
      refine HC5.out.mono ?_
      rintro e w8 ⟨rfl,hg8,hT8⟩
      have hb8:=hT8.low HB7.out
      have hc6:=drop_gg hg8 (fun b h=>Nat.le_trans hb8.size h) kok3 true 0
      rw [kdrop2] at hc6
      have HC6:=yh hc6
      have HB8:=yh hb8
      clear hg8 hT8 hb8 hc6 HC5))
  | (go_at_call 38
     (
      refine HC6.out.mono ?_
      rintro e w9 ⟨rfl,hg9,hT9⟩
      have hb9:=hT9.low HB8.out
      have hc7:=drop_gg hg9 (fun b h=>Nat.le_trans hb9.size h) kok4 false 0
      rw [kdrop3] at hc7
      have HC7:=yh hc7
      have HB9:=yh hb9
      clear hg9 hT9 hb9 hc7 HC6))
  | (go_at_call 38
     (
      refine HC7.out.mono ?_
      rintro e w10 ⟨rfl,⟨m10,hg10⟩,hT10⟩
      have hb10:=hT10.low HB9.out
      have hc8:=tellG_any hg10 kbound.2.2.1 kbound.2.2.2 (by decide) (by decide)
      have HC8:=yh hc8
      have HB10:=yh hb10
      clear hg10 hT10 hb10 hc8 HC7))
  | (go_at_call 16
     (
      refine HC8.out.mono ?_
      rintro e w11 ⟨x,rfl,hx,hb⟩
      obtain ⟨pn,cn,pr,cr,rfl,_,_⟩:=hx.rdO kbound
      have HFR:=yh (StT.fresh (P:=Tryz.prog) (W:=w11) Kb5 (show (#[.slice pn kg5.nodes.length cn,.slice pr kg5.rels.length cr,.int .i64 kg5.nextNode,.int .i64 kg5.nextRel] : Array Value).size = 4 from rfl) (by simp [Value.oneCell']))
      have hb11:=Kaa HB10.out hb
      have hx12:=heap_alloc_new w11 (.cells #[.slice pn kg5.nodes.length cn,.slice pr kg5.rels.length cr,.int .i64 kg5.nextNode,.int .i64 kg5.nextRel] 25)
      have p0 : (w11.alloc (.cells #[.slice pn kg5.nodes.length cn,.slice pr kg5.rels.length cr,.int .i64 kg5.nextNode,.int .i64 kg5.nextRel] 25)).cell? ⟨w11.heap.size,0,none⟩ = some (.slice pn 1 cn):=Kac (o:=0) hx12 rfl
      have p2 : (w11.alloc (.cells #[.slice pn kg5.nodes.length cn,.slice pr kg5.rels.length cr,.int .i64 kg5.nextNode,.int .i64 kg5.nextRel] 25)).cell? ⟨w11.heap.size,2,none⟩ = some (.int .i64 2):=Kac (o:=2) hx12 rfl
      have p3 : (w11.alloc (.cells #[.slice pn kg5.nodes.length cn,.slice pr kg5.rels.length cr,.int .i64 kg5.nextNode,.int .i64 kg5.nextRel] 25)).cell? ⟨w11.heap.size,3,none⟩ = some (.int .i64 1):=Kac (o:=3) hx12 rfl
      have HB12:=yh (Kaa hb11 (Kad (w:=w11) (.cells #[.slice pn kg5.nodes.length cn,.slice pr kg5.rels.length cr,.int .i64 kg5.nextNode,.int .i64 kg5.nextRel] 25)))
      clear hx hb hb11 hx12 HC8))
  | ((with_reducible apply Kam);exact HFR.out _ rfl;exact rfl;exact rfl;clear HFR))
 go_ret
 exact ⟨rfl,HB12.out⟩
def SomeB (e : Ending) : Prop:=∃ b : Bool,e = .returned (.bool b)
theorem heavy_any {w : World} {p : Option Addr} {c : Nat} {l : List PropD} (h : GRd PRd 7 w p c l) (ht : ∀ x ∈ l,totV x.val ≤ 1099511627776) : Calls Tryz.prog 31 #[.slice p l.length c] w fun e w'=>SomeB e ∧ Below w.heap.size w w':=by
 have z1 : (l.length : Int) ≤ 140737488355328:=by have:=h.1.2.1;omega
 have H:=yh (And.intro h ht)
 clear h ht
 go_enter Tryz.func31,Tryz.ntmps31
 go_wp2
 go_loopw [3] (fun i W=>∃ j : Nat,j ≤ l.length ∧ i = .int .i64 (j : Int) ∧ Hid (Below w.heap.size w W)) (fun i _=>l.length - (intOf i).toNat)
 case atStart=>exact ⟨0,Nat.zero_le _,rfl,yh (Below.refl _ _)⟩
 case round =>
  obtain ⟨j,hj,rfl,HI⟩:=hrel
  by_cases hlt : j < l.length
  ·have hlt1 : j + 1 ≤ l.length:=hlt
   obtain ⟨b1,o1,cs1,rfl,_,hcc1,hv1⟩:=(H.out.1.below (fun h=>h.below HI.out) HI.out).get hlt
   have hto:=H.out.2 _ (List.getElem_mem hlt)
   obtain ⟨q1,hkl,y1,hu1,r1⟩:=prop_cells hv1 hcc1
   have HL:=yh (StT.load (P:=Tryz.prog) (W:=wr) st_val (ef_val.size hu1) fun i u hu=>r1 i u hu)
   have HZ:=yh (sizeR_any _ wr y1 hto hu1)
   have HK:=yh q1
   have hsz : (strB l[j].key).size = l[j].key.length:=by simp [strB,ByteArray.size]
   clear hcc1 hv1 hu1 r1 hto q1
   generalize (countV l[j].val : Int) = n1 at *
   generalize (Kci l[j].val : Int) = n2 at *
   generalize l[j].key = s at *
   by_cases a1 : 200 < n1
   ·have a1b : decide (200 < n1) = true:=decide_eq_true a1
    clear a1
    go_wp2_with (first
     | ((with_reducible apply Kal);exact HL.out;exact rfl)
     | (go_at_call 32;refine HZ.out.mono ?_;rintro e W2 ⟨rfl,hb⟩;have HB:=yh (Kaa HI.out hb);have hk0:=Kae hb (ltOf HK.out) HK.out;clear hb))
    go_ret
    exact ⟨⟨_,rfl⟩,HB.out⟩
   have a1b : decide (200 < n1) = false:=decide_eq_false a1
   clear a1
   by_cases a2 : 5000 < n2
   ·have a2b : decide (5000 < n2) = true:=decide_eq_true a2
    clear a2
    go_wp2_with (first
     | ((with_reducible apply Kal);exact HL.out;exact rfl)
     | (go_at_call 32;refine HZ.out.mono ?_;rintro e W2 ⟨rfl,hb⟩;have HB:=yh (Kaa HI.out hb);have hk0:=Kae hb (ltOf HK.out) HK.out;clear hb))
    go_ret
    exact ⟨⟨_,rfl⟩,HB.out⟩
   have a2b : decide (5000 < n2) = false:=decide_eq_false a2
   clear a2
   by_cases a3 : 1000 < (s.length : Int)
   ·have a3b : decide (1000 < (s.length : Int)) = true:=decide_eq_true a3
    go_wp2_with (first
     | ((with_reducible apply Kal);exact HL.out;exact rfl)
     | (go_at_call 32;refine HZ.out.mono ?_;rintro e W2 ⟨rfl,hb⟩;have HB:=yh (Kaa HI.out hb);have hk0:=Kae hb (ltOf HK.out) HK.out;clear hb))
    go_ret
    exact ⟨⟨_,rfl⟩,HB.out⟩
   ·have a3b : decide (1000 < (s.length : Int)) = false:=decide_eq_false a3
    go_wp2_with (first
     | ((with_reducible apply Kal);exact HL.out;exact rfl)
     | (go_at_call 32;refine HZ.out.mono ?_;rintro e W2 ⟨rfl,hb⟩;have HB:=yh (Kaa HI.out hb);have hk0:=Kae hb (ltOf HK.out) HK.out;clear hb))
    go_roundw
    case rel=>exact ⟨j + 1,hlt1,by go_num,HB⟩
    case measure=>simp [intOf];omega
  ·obtain rfl : j = l.length:=by omega
   go_wp2
   go_ret
   exact ⟨⟨_,rfl⟩,HI.out⟩
theorem ef_graph : EF GrRd 4:=by
 refine ⟨fun h g=>h.below g,fun h=>?_,fun h u hu=>?_⟩
 ·obtain ⟨pn,cn,pr,cr,rfl,_⟩:=h;rfl
 ·obtain ⟨pn,cn,pr,cr,rfl,_⟩:=h
  simp only [List.mem_cons,List.not_mem_nil,or_false] at hu
  rcases hu with rfl | rfl | rfl | rfl <;> rfl
def Lies (g : Nat) (T : TypeId) (x : Array Value) (W : World) : Prop:=W.heap[g]? = some (.cells x T (0,0))
theorem Lies.below {g : Nat} {T : TypeId} {x : Array Value} {W W' : World} (h : Lies g T x W) (b : Below W.heap.size W W') : Lies g T x W':=Kai b (Array.getElem?_eq_some_iff.1 h).1 h
theorem Lies.get {g : Nat} {x : Array Value} {W : World} (h : Lies g 25 x W) (hs : x.size = 4) : (loadVar 25 ⟨g,0,none⟩).run Tryz.prog W = .ok (.agg x) W:=StT.get Kb5 hs h
theorem Lies.new (x : Array Value) (T : TypeId) (w : World) : Lies w.heap.size T x (w.alloc (.cells x T)):=heap_alloc_new w _
structure LQ2 (w W : World) (g o : GraphD) (x y : Array Value) : Prop where
 b1 : Lies w.heap.size 25 x W
 b2 : Lies (w.heap.size + 1) 25 y W
 gx : GrRd W g x
 ox : GrRd W o y
 b : Below w.heap.size w W
section
variable {w W W' : World} {g o : GraphD} {x y : Array Value}
theorem LQ2.below (h : LQ2 w W g o x y) (k : Below W.heap.size W W') : LQ2 w W' g o x y:=⟨h.b1.below k,h.b2.below k,h.gx.below k,h.ox.below k,Kaa h.b k⟩
theorem LQ2.lo (h : LQ2 w W g o x y) : (loadVar 25 ⟨w.heap.size + 1,0,none⟩).run Tryz.prog W = .ok (.agg y) W:=h.b2.get (ef_graph.size h.ox)
theorem LQ2.start (h1 : GrRd w g x) (h2 : GrRd w o y) : LQ2 w ((w.alloc (.cells x 25)).alloc (.cells y 25)) g o x y:=by
 have b1:=Kad (w:=w) (.cells x 25)
 have b2:=Kad (w:=w.alloc (.cells x 25)) (.cells y 25)
 have hb:=Kaa b1 b2
 have e2:=Lies.new y 25 (w.alloc (.cells x 25))
 rw [World.size_alloc] at e2
 exact ⟨(Lies.new x _ w).below b2,e2,h1.below hb,h2.below hb,hb⟩
end
theorem PsOk.tot {l : List PropD} (h : PsOk l) : ∀ x ∈ l,totV x.val ≤ 1099511627776:=fun x hx=>by have:=(h.2 x hx).2;omega
theorem GOk.tot {g : GraphD} (h : GOk g) : GTot g:=⟨fun n hn=>(h.2.2.1 n hn).2.2.tot,fun r hr=>(h.2.2.2 r hr).2.tot⟩
def zeroGB : Array Value:=#[.map none,.map none,.map none,.int .i64 0,.int .i64 0]
def NoG (w : World) (p : Option Addr) : Prop:=p = none ∨ ∃ g,p = some ⟨g,0,none⟩ ∧ w.heap[g]? = some (.cells zeroGB 72 (0,0))
theorem NoG.below {w w' : World} {p : Option Addr} (h : NoG w p) (g : Below w.heap.size w w') : NoG w' p:=by
 rcases h with rfl | ⟨b,rfl,hb⟩
 ·exact .inl rfl
 ·exact .inr ⟨b,rfl,Kai g (Array.getElem?_eq_some_iff.1 hb).1 hb⟩
theorem Kbx {w : World} {p : Option Addr} (h : NoG w p) : Calls Tryz.prog 42 #[.pointer p] w fun e w'=>e = .returned (.bool true) ∧ w' = w:=by
 rcases h with rfl | ⟨g,rfl,hb⟩
 ·go_enter Tryz.func42,Tryz.ntmps42
  go_wp2
  go_ret
  exact ⟨rfl,rfl⟩
 ·have p0 : w.cell? ⟨g,0,none⟩ = some (.map none):=Kac (o:=0) hb rfl
  clear hb
  have hq : ∀ W : World,(binOp .eql 68 (.map none) (.map none)).run Tryz.prog W = .ok (.bool true) W:=fun W=>by
   have he:=run_equal_map_nil (P:=Tryz.prog) (w:=W) 68 _ _ none Tryz.underlying68
   simp [binOp,go_sem,he]
  go_enter Tryz.func42,Tryz.ntmps42
  go_wp2
  go_ret
  exact ⟨rfl,rfl⟩
theorem there_none {w : World} {p : Option Addr} (h : NoG w p)  : Calls Tryz.prog 27 #[.pointer p] w fun e w'=>e = .returned (.bool false) ∧ w' = w:=by
 have HN:=yh (Kbx h)
 clear h
 go_enter Tryz.func27,Tryz.ntmps27
 go_wp2_with (first
  | (go_at_call 42;refine HN.out.mono ?_;rintro e w1 ⟨rfl,hw1⟩;have hw1:=hw1.symm;subst hw1))
 go_ret
 exact ⟨rfl,rfl⟩
theorem addNode_none {w : World} {p : Option Addr} (h : NoG w p) (v1 v2 : Value) : Calls Tryz.prog 15 #[.pointer p,v1,v2] w fun e w'=>e = .returned (.tuple #[.int .i64 0,.int .i64 1]) ∧ w' = w:=by
 have HN:=yh (Kbx h)
 clear h
 go_enter Tryz.func15,Tryz.ntmps15
 go_wp2_with (first
  | (go_at_call 42;refine HN.out.mono ?_;rintro e w1 ⟨rfl,hw1⟩;have hw1:=hw1.symm;subst hw1))
 go_ret2
 exact ⟨rfl,rfl⟩
theorem addRel_none {w : World} {p : Option Addr} (h : NoG w p) (v1 v2 v3 v4 : Value) : Calls Tryz.prog 37 #[.pointer p,v1,v2,v3,v4] w fun e w'=>e = .returned (.tuple #[.int .i64 0,.int .i64 1]) ∧ w' = w:=by
 have HN:=yh (Kbx h)
 clear h
 go_enter Tryz.func37,Tryz.ntmps37
 go_wp2_with (first
  | (go_at_call 42;refine HN.out.mono ?_;rintro e w1 ⟨rfl,hw1⟩;have hw1:=hw1.symm;subst hw1))
 go_ret2
 exact ⟨rfl,rfl⟩
theorem setLabel_none {w : World} {p : Option Addr} (h : NoG w p) (v1 v2 v3 : Value) : Calls Tryz.prog 64 #[.pointer p,v1,v2,v3] w fun e w'=>e = .returned (.int .i64 1) ∧ w' = w:=by
 have HN:=yh (Kbx h)
 clear h
 go_enter Tryz.func64,Tryz.ntmps64
 go_wp2_with (first
  | (go_at_call 42;refine HN.out.mono ?_;rintro e w1 ⟨rfl,hw1⟩;have hw1:=hw1.symm;subst hw1))
 go_ret
 exact ⟨rfl,rfl⟩
theorem drop_none {w : World} {p : Option Addr} (h : NoG w p) (v1 v2 : Value) : Calls Tryz.prog 38 #[.pointer p,v1,v2] w fun e w'=>e = .returned (.int .i64 1) ∧ w' = w:=by
 have HN:=yh (Kbx h)
 clear h
 go_enter Tryz.func38,Tryz.ntmps38
 go_wp2_with (first
  | (go_at_call 42;refine HN.out.mono ?_;rintro e w1 ⟨rfl,hw1⟩;have hw1:=hw1.symm;subst hw1))
 go_ret
 exact ⟨rfl,rfl⟩
theorem copyM_none {w : World} {p : Option Addr} (h : NoG w p)  : Calls Tryz.prog 20 #[.pointer p] w fun e w'=>e = .returned (.pointer none) ∧ w' = w:=by
 have HN:=yh (Kbx h)
 clear h
 go_enter Tryz.func20,Tryz.ntmps20
 go_wp2_with (first
  | (go_at_call 42;refine HN.out.mono ?_;rintro e w1 ⟨rfl,hw1⟩;have hw1:=hw1.symm;subst hw1))
 go_ret
 exact ⟨rfl,rfl⟩
theorem rels_none {w : World} {p : Option Addr} (h : NoG w p) (v1 : Value) (n : Int) : Calls Tryz.prog 75 #[.pointer p,v1,.int .i64 n] w fun e w'=>e = .returned (.slice none 0 0) ∧ w' = w:=by
 have HN:=yh (Kbx h)
 clear h
 go_enter Tryz.func75,Tryz.ntmps75
 go_wp2_with (first
  | (go_at_call 42;refine HN.out.mono ?_;rintro e w1 ⟨rfl,hw1⟩;have hw1:=hw1.symm;subst hw1))
 go_ret
 exact ⟨rfl,rfl⟩
theorem setProp_none {w : World} {p : Option Addr} (h : NoG w p) (v1 v2 v3 : Value) (y : Array Value) : Calls Tryz.prog 62 #[.pointer p,v1,v2,v3,.agg y] w fun e w'=>e = .returned (.int .i64 1) ∧ Below w.heap.size w w':=by
 have hb:=Kad (w:=w) (.cells y 31)
 have HN:=yh (Kbx (h.below hb))
 have HB:=yh hb
 clear h hb
 go_enter Tryz.func62,Tryz.ntmps62
 go_wp2_with (first
  | (go_at_call 42;refine HN.out.mono ?_;rintro e w1 ⟨rfl,hw1⟩;have hw1:=hw1.symm;subst hw1))
 go_ret
 exact ⟨rfl,HB.out⟩
theorem node_none {w : World} {p : Option Addr} (h : NoG w p) (v1 : Value) : Calls Tryz.prog 67 #[.pointer p,v1] w fun e w'=>e = .returned (.tuple #[.agg #[.int .i64 0,.slice none 0 0,.slice none 0 0],.bool false]) ∧ Below w.heap.size w w':=by
 have hb:=Kad (w:=w) (.cells nodeZ 45)
 have HN:=yh (Kbx (h.below hb))
 have HB:=yh hb
 have HS:=yh (StT.fresh (P:=Tryz.prog) (W:=w) Kbc (cs:=nodeZ) rfl (by simp [nodeZ,Value.oneCell']) nodeZ rfl)
 have HL:=yh (StT.get (P:=Tryz.prog) Kbc (cs:=nodeZ) rfl (heap_alloc_new w (.cells nodeZ 45)))
 clear h hb
 unfold nodeZ at *
 go_enter Tryz.func67,Tryz.ntmps67
 go_wp2_with (first
  | (go_at_call 42;refine HN.out.mono ?_;rintro e w1 ⟨rfl,hw1⟩;have hw1:=hw1.symm;subst hw1)
  | ((with_reducible apply Kam);exact HS.out;exact rfl;exact rfl))
 refine bodyPost_ret (Kdc rfl _ _ ⟨w.heap.size,0,none⟩ _ rfl HL.out) rfl ⟨rfl,HB.out⟩
theorem rel_none {w : World} {p : Option Addr} (h : NoG w p) (v1 : Value) : Calls Tryz.prog 68 #[.pointer p,v1] w fun e w'=>e = .returned (.tuple #[.agg #[.int .i64 0,.int .i64 0,.int .i64 0,.string ⟨#[]⟩,.slice none 0 0],.bool false]) ∧ Below w.heap.size w w':=by
 have hb:=Kad (w:=w) (.cells relZ 49)
 have HN:=yh (Kbx (h.below hb))
 have HB:=yh hb
 have HS:=yh (StT.fresh (P:=Tryz.prog) (W:=w) Kb1 (cs:=relZ) rfl (by simp [relZ,Value.oneCell']) relZ rfl)
 have HL:=yh (StT.get (P:=Tryz.prog) Kb1 (cs:=relZ) rfl (heap_alloc_new w (.cells relZ 49)))
 clear h hb
 unfold relZ at *
 go_enter Tryz.func68,Tryz.ntmps68
 go_wp2_with (first
  | (go_at_call 42;refine HN.out.mono ?_;rintro e w1 ⟨rfl,hw1⟩;have hw1:=hw1.symm;subst hw1)
  | ((with_reducible apply Kam);exact HS.out;exact rfl;exact rfl))
 refine bodyPost_ret (Kdc rfl _ _ ⟨w.heap.size,0,none⟩ _ rfl HL.out) rfl ⟨rfl,HB.out⟩
theorem tell_none {w : World} {p : Option Addr} (h : NoG w p)  : Calls Tryz.prog 16 #[.pointer p] w fun e w'=>e = .returned (.agg #[.slice none 0 0,.slice none 0 0,.int .i64 0,.int .i64 0]) ∧ Below w.heap.size w w':=by
 have hb:=Kad (w:=w) (.cells grZ 25)
 have HN:=yh (Kbx (h.below hb))
 have HB:=yh hb
 have HS:=yh (StT.fresh (P:=Tryz.prog) (W:=w) Kb5 (cs:=grZ) rfl (by simp [grZ,Value.oneCell']) grZ rfl)
 have HL:=yh (StT.get (P:=Tryz.prog) Kb5 (cs:=grZ) rfl (heap_alloc_new w (.cells grZ 25)))
 clear h hb
 unfold grZ at *
 go_enter Tryz.func16,Tryz.ntmps16
 go_wp2_with (first
  | (go_at_call 42;refine HN.out.mono ?_;rintro e w1 ⟨rfl,hw1⟩;have hw1:=hw1.symm;subst hw1)
  | ((with_reducible apply Kam);exact HS.out;exact rfl;exact rfl))
 refine bodyPost_ret (Ka3 rfl _ _ ⟨w.heap.size,0,none⟩ _ rfl HL.out) rfl ⟨rfl,HB.out⟩
section
variable {P : Program} {t e : TypeId} {s : Nat}
theorem runSl (ht : P.underlying t = some (.slice e)) (hs : ∀ w,(sizeOf e).run P w = .ok s w) (a : Option Addr) (len cap : Nat) (lo hi : Option Int) (l h : Nat)
 (hlo : ∀ i,lo = some i → i = (l : Int)) (hlo' : lo = none → l = 0) (hhi : ∀ i,hi = some i → i = (h : Int)) (hhi' : hi = none → h = len) (h1 : l ≤ h) (h2 : h ≤ cap) (W : World) :
 (Instr.slice t (.slice a len cap) (lo.map (.int .i64)) (hi.map (.int .i64)) none).run P W = .ok (.slice (if cap = l then a else a.map (·.add (l * s))) (h - l) (cap - l)) W:=by
 have hb : (Instr.sliceBounds true len cap (lo.map (.int .i64)) (hi.map (.int .i64)) none).run P W = .ok (l,h,cap) W:=by
  have e1 : ∀ (x y : Nat) (code : BoundsCode),x ≤ y → (Instr.sliceBound (.int .i64 (x : Int)) y code).run P W = .ok x W:=fun x y code hxy=>by
   simp [Instr.sliceBound,asIntOf,Sem.run_bind,hxy]
  cases lo with
  | none =>
    obtain rfl:=hlo' rfl
    cases hi with
    | none=>obtain rfl:=hhi' rfl;simp [Instr.sliceBounds]
    | some i=>obtain rfl:=hhi i rfl;simp [Instr.sliceBounds,Sem.run_bind,e1 h cap _ h2]
  | some j =>
    obtain rfl:=hlo j rfl
    cases hi with
    | none=>obtain rfl:=hhi' rfl;simp [Instr.sliceBounds,Sem.run_bind,e1 l h _ h1]
    | some i=>obtain rfl:=hhi i rfl;simp [Instr.sliceBounds,Sem.run_bind,e1 h cap _ h2,e1 l h _ h1]
 simp only [Instr.slice,Sem.run_bind,run_underlying ht,Result.andThen_ok,hb,hs,Sem.run_pure]
theorem runSlAt (ht : P.underlying t = some (.slice e)) (x : Value) (lo hi mx : Option Value) (W : World) : (Instr.sliceAt t x lo hi mx).run P W = (Instr.slice t x lo hi mx).run P W:=by
 simp [Instr.sliceAt,run_underlying ht]
end
section
variable {α : Type} {F : World → α → Array Value → Prop} {K : Nat} {P : Program} {t T : TypeId} {w : World} {l : List α} {p : Option Addr} {c : Nat}
theorem GRd.rest (h : GRd F K w p c l) (hT : P.underlying T = some (.slice t)) (hs : ∀ w,(sizeOf t).run P w = .ok K w) {n : Nat} (hn : n ≤ l.length) :
 ∃ q d,(∀ W,(Instr.sliceAt T (.slice p l.length c) (some (.int .i64 (n : Int))) Option.none Option.none).run P W = .ok (.slice q (l.drop n).length d) W) ∧ GRd F K w q d (l.drop n):=by
 have hc:=h.1.1
 have hr:=fun W=>(runSlAt (P:=P) hT (.slice p l.length c) (some (.int .i64 (n : Int))) Option.none Option.none W).trans (runSl (P:=P) hT hs p l.length c (some (n : Int)) Option.none n l.length (fun i e=>by cases e;rfl) (fun e=>by cases e) (fun i e=>by cases e) (fun _=>rfl) hn hc W)
 have hl : (l.drop n).length = l.length - n:=List.length_drop
 refine ⟨_,_,fun W=>by rw [hl];simpa using hr W,?_⟩
 have hd:=h.drop hn
 unfold dropAt at hd
 by_cases h0 : c = n
 ·rw [if_pos h0] at hd ⊢;exact hd
 ·rw [if_neg h0] at hd ⊢
  cases p with
  | none=>exact hd
  | some ad =>
    by_cases hne : l.drop n = []
    ·have h1:=hd.1
     rw [hne] at h1 ⊢
     exact ⟨⟨h1.1,h1.2.1,fun e=>by cases e⟩,fun ad' _=>⟨fun e=>absurd rfl e,fun j v hv=>by simp at hv⟩⟩
    ·have hsp:=(hd.2 _ rfl).1 hne
     obtain ⟨b,o,sp⟩:=ad
     simp only at hsp
     subst hsp
     simp only [Option.map_some,Kap] at hd ⊢
     exact hd
end
end Go.Proofs.YtihfnegakcghiaaGreatDoor
namespace Go.Proofs.YtihfnegakcghiaaGreatDoor
open Go.RowKit
def Ext (V W : World) : Prop:=∀ (ad : Addr) (v : Value),V.cell? ad = some v → W.cell? ad = some v
theorem Ext.refl (W : World) : Ext W W:=fun _ _ h=>h
theorem Ext.trans {U V W : World} (h : Ext U V) (g : Ext V W) : Ext U W:=fun ad v e=>g ad v (h ad v e)
theorem Ext.of_below {V W : World} (g : Below V.heap.size V W) : Ext V W:=fun ad v h=>by
 rw [g.cell (World.block_lt_of_cell? V _ h)];exact h
section
variable {X W : World} (x : Ext X W)
include x
end
section
variable {S : Nat → Prop} {W W' : World}
end
section
variable {α : Type} {F : World → α → Array Value → Prop} {K : Nat} {P : Program} {t T : TypeId} {U V w w' W W1 : World} {l m : List α} {xs ys : List (Array Value)} {v : Value} {p : Option Addr} {c : Nat}
def VRow (F : World → α → Array Value → Prop) (t : TypeId) (K : Nat) (V w W : World) (v : Value) (l : List α) : Prop:=∃ xs,OwnsP W (fun b=>w.heap.size ≤ b) t K v l.length (xs.flatMap Array.toList) ∧ FRs F V l xs ∧ Below w.heap.size w W
theorem VRow.b (h : VRow F t K V w W v l) : Below w.heap.size w W:=by obtain ⟨_,_,_,h⟩:=h;exact h
theorem VRow.slice (h : VRow F t K V w W v l) : ∃ p c,v = .slice p l.length c:=by obtain ⟨_,h,_,_⟩:=h;exact Kbb h
theorem VRow.nil (h : Below w.heap.size w W) : VRow F t K V w W (.slice none 0 0) ([] : List α):=⟨[],⟨⟨by simp,.inl ⟨rfl,rfl⟩⟩,fun g hg=>by simp [Value.ownBlock] at hg⟩,.nil,h⟩
theorem VRow.below (h : VRow F t K V w W v l) (g : Below W.heap.size W W1) : VRow F t K V w W1 v l:=by
 obtain ⟨xs,h1,h2,h3⟩:=h
 exact ⟨xs,h1.keep fun b _ hb=>g.block b hb,h2,Kaa h3 g⟩
theorem VRow.base (h : VRow F t K V w W v l) (g : Below U.heap.size U w) : VRow F t K V U W v l:=by
 obtain ⟨xs,h1,h2,h3⟩:=h
 exact ⟨xs,h1.imp fun b _ hb=>Nat.le_trans g.size hb,h2,Kaa g h3⟩
theorem VRow.many (hF : EF F K) (hA : GA P t T K) (hV : Ext V w) (h : VRow F t K V w W v l) (hm : GRd F K V p c m) (hn : l.length + m.length ≤ 1200000) (ty : TypeId) :
 ∃ v' W',(Builtin.append_ #[T,T] ty #[v,.slice p m.length c]).run P W = .ok v' W' ∧ VRow F t K V w W' v' (l ++ m):=by
 obtain ⟨xs,h1,h2,h3⟩:=h
 obtain ⟨ys,hy,hcell⟩:=hm.cells hF
 have hy6 : ∀ x ∈ ys,x.size = K:=fun x hx=>by obtain ⟨v,hv⟩:=hy.mem hx;exact hF.size hv
 cases p with
 | none =>
   have hc:=hm.1.2.2 rfl
   have hl : m = []:=List.eq_nil_of_length_eq_zero (by have:=hm.1.1;omega)
   subst hc hl
   refine ⟨v,W,hA.none h1.1 ty,?_⟩
   rw [List.append_nil]
   exact ⟨xs,h1,h2,h3⟩
 | some ad =>
   obtain ⟨v',W2,a1,a2,a3,a4,a5⟩:=hA.many h1.1 (ad:=ad) (m:=m.length) (c:=c) (news:=ys.flatMap Array.toList)
    (by rw [flatG_len hy6,hy.1]) (fun j u hu=>Ext.of_below h3 _ _ (hV _ _ (hcell ad rfl j u hu))) (fun u hu=>by
      obtain ⟨x,hx,hu⟩:=List.mem_flatMap.1 hu
      obtain ⟨v,hv⟩:=hy.mem hx
      exact hF.ones hv u hu) (by omega) ty
   refine ⟨v',W2,a1,xs ++ ys,⟨?_,fun g hg=>?_⟩,h2.append hy,?_⟩
   ·rw [List.flatMap_append,List.length_append];exact a2
   ·rcases a4 with e | e
    ·exact h1.2 g (e.symm.trans hg)
    ·rw [e] at hg;cases hg;exact h3.size
   ·exact a3.below h3 (fun b hb e=>by have:=h1.2 b e;omega) h3.size
theorem VRow.one (hF : EF F K) (hA : GA P t T K) (h : VRow F t K V w W v l) {u : α} {x : Array Value} (hu : F V u x) (hn : l.length ≤ 1100000) (ty : TypeId) :
 ∃ v' W',(Builtin.append_ #[T,T] ty #[v,.slice (some ⟨W.heap.size,0,none⟩) 1 1]).run P (W.alloc (.cells x t)) = .ok v' W' ∧ VRow F t K V w W' v' (l ++ [u]):=by
 have g:=Kad (w:=W) (.cells x t)
 obtain ⟨xs,h1,h2,h3⟩:=h.below g
 obtain ⟨v',W2,a1,a2,a3,a4,a5⟩:=hA.many h1.1 (ad:=⟨W.heap.size,0,none⟩) (m:=1) (c:=1) (news:=x.toList)
  (by rw [Nat.one_mul];simpa using hF.size hu) (fun j u hj=>by rw [Kap,Nat.zero_add];exact Kac (heap_alloc_new W (.cells x t)) (by simpa using hj)) (hF.ones hu) (by omega) ty
 refine ⟨v',W2,a1,xs ++ [x],⟨?_,fun g hg=>?_⟩,h2.append (.one hu),?_⟩
 ·rw [List.flatMap_append,List.length_append]
  simpa using a2
 ·rcases a4 with e | e
  ·exact h1.2 g (e.symm.trans hg)
  ·rw [e] at hg;cases hg;exact h3.size
 ·exact a3.below h3 (fun b hb e=>by have:=h1.2 b e;omega) h3.size
theorem VRow.rd (hF : EF F K) (hx : ∀ {v : α} {cs : Array Value},F V v cs → F U v cs) (h : VRow F t K V w W v l) (hU : ∀ b,w.heap.size ≤ b → b < W.heap.size → U.heap[b]? = W.heap[b]?) (hn : l.length ≤ 140737488355328) : ∃ p c,v = .slice p l.length c ∧ GRd F K U p c l:=by
 obtain ⟨xs,h1,h2,h3⟩:=h
 have hc:=fun g=>h1.1.cells (g:=g)
 have h6 : ∀ x ∈ xs,x.size = K:=fun x hx=>by obtain ⟨v,hv⟩:=h2.mem hx;exact hF.size hv
 have hown:=h1.2
 rcases h1.1.2 with ⟨rfl,h0⟩ | ⟨g,cap,cur,rfl,_,hg,hnc,hcm,_⟩
 ·have : l = []:=List.eq_nil_of_length_eq_zero h0
  subst this
  exact ⟨none,0,rfl,⟨Nat.le_refl _,⟨by simp,by omega⟩,fun _=>rfl⟩,fun ad h=>by cases h⟩
 ·refine ⟨some ⟨g,0,none⟩,cap,rfl,⟨hnc,⟨hn,by unfold maxLen at hcm;omega⟩,fun h=>by cases h⟩,fun ad had=>?_⟩
  cases had
  refine ⟨fun _=>rfl,fun j v hv=>?_⟩
  obtain ⟨x,hxx,hvx⟩:=h2.2 j v hv
  refine ⟨x,hF.size hvx,fun i u hu=>?_,hx hvx⟩
  have hi : i < K:=by
   have:=(Array.getElem?_eq_some_iff.1 hu).1
   rw [hF.size hvx] at this;exact this
  have:=hc g rfl (j * K + i) u (by rw [flat_K h6 j x hxx i hi];exact hu)
  rw [Kap] at this
  rw [Nat.zero_add] at this ⊢
  rw [World.cell?_of_block (w:=W) (hU g (hown g rfl) (ltOf this))]
  exact this
end
end Go.Proofs.YtihfnegakcghiaaGreatDoor
namespace Go.Proofs.YtihfnegakcghiaaGreatDoor
open Go.RowKit
theorem ga_i64 : GA Tryz.prog 2 96 1:=.of (bytes:=8) Tryz.underlying96 info_i64 rfl (by decide)
theorem ints_rd {w : World} {base : Nat} {v : Value} {l : List Int} (h : w.ownsRow base 2 1 v l.length (l.map (Value.int .i64))) (hs : l.length ≤ 1100000) : ∃ p c,v = .slice p l.length c ∧ GRd IRd 1 w p c l:=by
 obtain ⟨p,c,e,h1,h2,h3⟩:=ids_at (id : Int → Int) (by simpa using h)
 refine ⟨p,c,e,⟨h1,⟨by omega,h2⟩,fun hp=>?_⟩,fun ad had=>⟨fun hne=>?_,fun j k hk=>?_⟩⟩
 ·subst hp
  rcases h.2 with ⟨e2,_⟩ | ⟨g,cap,cur,e2,_⟩
  ·rw [e2] at e;injection e with _ _ e3;exact e3.symm
  ·rw [e2] at e;injection e with e3;cases e3
 ·have : 0 < l.length:=List.length_pos_iff.2 hne
  obtain ⟨g,e2,_⟩:=h3 0 this
  rw [had] at e2;cases e2;rfl
 ·obtain ⟨hj,rfl⟩:=List.getElem?_eq_some_iff.1 hk
  obtain ⟨g,e2,_,_,cs,h4,h5⟩:=h3 j hj
  rw [had] at e2;cases e2
  refine ⟨#[.int .i64 l[j]],rfl,fun i u hu=>?_,rfl⟩
  match i,hu with
  | 0,hu=>cases hu;rw [Nat.mul_one,Nat.add_zero,Nat.zero_add];exact Kac h4 h5
  | n + 1,hu=>simp at hu
theorem ints_get {w : World} {p : Option Addr} {c : Nat} {l : List Int} (h : GRd IRd 1 w p c l) {i : Nat} (hi : i < l.length) : ∃ b o,p = some ⟨b,o,none⟩ ∧ w.cell? ⟨b,o + i,none⟩ = some (.int .i64 l[i]):=by
 obtain ⟨b,o,cs,e,h1,h2,h3⟩:=h.get hi
 have:=h2 0 (.int .i64 l[i]) (by rw [h3];rfl)
 rw [Nat.mul_one,Nat.add_zero] at this
 exact ⟨b,o,e,this⟩
def ItR (W : World) (b : Nat) (p : Option Addr) (c : Nat) (l : List Int) : Prop:=W.cell? ⟨b,0,none⟩ = some (.slice p l.length c) ∧ GRd IRd 1 W p c l
theorem ItR.below {W W' : World} {b : Nat} {p : Option Addr} {c : Nat} {l : List Int} (h : ItR W b p c l) (g : Below W.heap.size W W') : ItR W' b p c l:=⟨Kae g (ltOf h.1) h.1,GRd.below (w:=W) (w':=W') (F:=IRd) (fun h=>h) h.2 g⟩
attribute [local go_sem] Oper.semAt_some
theorem iter_ids (b : Nat) (p : Option Addr) (c : Nat) (l : List Int) :
 Iter Tryz.prog 175 #[.pointer (some ⟨b,0,none⟩)] (fun x : Int=>#[.int .i64 x]) (fun pre=>∃ k,k ≤ l.length ∧ pre = l.take k) (fun xs=>xs = l) 0 (fun W=>ItR W b p c l):=by
 intro L J Jx w hL hpre hkeep hY h0
 refine callsIn_of_wp Tryz.func175 rfl trivial ?_ rfl
 refine (wpIn_wide (n:=0)).2 ?_
 simp only [Tryz.ntmps175,List.size_toArray,List.length_cons,List.length_nil,Nat.reduceAdd,Nat.reduceSub,Array.replicate_succ,Array.replicate_zero,List.push_toArray,List.append_toArray,List.nil_append,List.cons_append]
 obtain ⟨hB,hR⟩:=hpre _ _ h0
 have z1 : (l.length : Int) ≤ 140737488355328:=by have:=hR.1.2.1;omega
 have Hpre:=yh hpre
 have Hkeep:=yh hkeep
 have HY:=yh hY
 have H0:=yh h0
 clear hpre hkeep hY h0 hR
 go_wp2
 clear hB
 go_loopw [7] (fun i wr=>∃ k : Nat,k ≤ l.length ∧ i = .int .i64 (k : Int) ∧ Hid (J (l.take k) wr ∧ w.heap.size ≤ wr.heap.size)) (fun i _=>l.length - (intOf i).toNat)
 case atStart=>exact ⟨0,Nat.zero_le _,rfl,yh ⟨by simpa using H0.out,Nat.le_refl _⟩⟩
 case round =>
  obtain ⟨k,hk,rfl,HJ⟩:=hrel
  by_cases hlt : k < l.length
  ·have hlt1:=Nat.succ_le_of_lt hlt
   obtain ⟨b1,o1,rfl,hcell⟩:=ints_get (Hpre.out _ _ HJ.out.1).2 hlt
   have hok : l.take k ++ [l[k]] = l.take (k + 1):=(List.take_succ_eq_append_getElem hlt).symm
   obtain ⟨fn,tmps,assign,body,hy,hR⟩:=HY.out (l.take k) l[k] wr ⟨k + 1,hlt1,hok⟩ HJ.out.1 (by have:=HJ.out.2;omega)
   rw [hok] at hR
   generalize l[k] = x at *
   have HRR:=yh hR
   clear hR hok
   refine (wpIn_wide (n:=0)).1 ?_
   gi_wp2
   refine ⟨rfl,HRR.out.mono ?_⟩
   rintro e W3 ⟨_,hsz3,⟨rfl,hJ3⟩ | ⟨rfl,hJx3⟩⟩
   ·have HJ3:=yh (show J (l.take (k + 1)) W3 ∧ w.heap.size ≤ W3.heap.size from ⟨hJ3,Nat.le_trans HJ.out.2 hsz3⟩)
    clear hJ3
    gi_wp2
    go_wp2
    go_roundw
    case rel=>exact ⟨k + 1,hlt1,by go_num,HJ3⟩
    case measure=>simp [intOf];omega
   ·gi_wp2
    refine bodyPost_ret (results_none rfl _ _ _) rfl ?_
    exact ⟨rfl,.inr hJx3⟩
  ·obtain rfl : k = l.length:=by omega
   have hj:=HJ.out.1
   rw [List.take_length] at hj
   have HF:=yh hj
   clear hj HJ
   go_wp2
   go_end0
   exact ⟨rfl,.inl ⟨_,rfl,HF.out⟩⟩
def NodesP (w : World) (l : List Int) (e : Ending) (w' : World) : Prop:=∃ b p c,e = .returned (.func (.func 175) #[] #[.pointer (some ⟨b,0,none⟩)]) ∧ ItR w' b p c l ∧ w.heap.size ≤ b ∧ (∀ ad,p = some ad → w.heap.size ≤ ad.block) ∧ Below w.heap.size w w' ∧ l.length ≤ 1100000
theorem nodes_none {w : World} {p : Option Addr} (h : NoG w p) : Calls Tryz.prog 125 #[.pointer p] w (NodesP w []):=by
 have hb:=Kad (w:=w) (.cells #[.slice none 0 0] 96)
 have HN:=yh (Kbx (h.below hb))
 have HF:=yh (show ItR (w.alloc (.cells #[.slice none 0 0] 96)) w.heap.size none 0 [] ∧ Below w.heap.size w (w.alloc (.cells #[.slice none 0 0] 96)) from ⟨⟨Kac (o:=0) (heap_alloc_new w _) rfl,⟨Nat.le_refl _,by simp,fun _=>rfl⟩,fun ad had=>by cases had⟩,hb⟩)
 clear h hb
 go_enter Tryz.func125,Tryz.ntmps125
 go_wp2_with (first
  | (go_at_call 42;refine HN.out.mono ?_;rintro e w1 ⟨rfl,hw1⟩;have hw1:=hw1.symm;subst hw1))
 go_ret
 exact ⟨_,_,_,rfl,HF.out.1,Nat.le_refl _,(fun ad had=>by cases had),HF.out.2,Nat.zero_le _⟩
theorem run_eq_func (d : Nat) (t : TypeId) (fn : Fn) (xs lb : Array Value) (w : World) {ps rs : Array TypeId} {vv : Bool} (h : Tryz.prog.underlying t = some (.func ps rs vv)) : (Op.equalIn (d + 1) t (.func fn xs lb) .nilFunc).run Tryz.prog w = .ok false w:=by
 simp [Op.equalIn,run_underlying h]
theorem eql_func (t : TypeId) (fn : Fn) (xs lb : Array Value) (w : World) {ps rs : Array TypeId} {vv : Bool} (h : Tryz.prog.underlying t = some (.func ps rs vv)) : (binOp .eql t (.func fn xs lb) .nilFunc).run Tryz.prog w = .ok (.bool false) w:=by
 have he : (Op.equal t (.func fn xs lb) .nilFunc).run Tryz.prog w = .ok false w:=run_eq_func 9999 t fn xs lb w h
 simp [binOp,go_sem,he]
def AccI (w2 W : World) (c0 : Nat) (l : List Int) : Prop:=Touch (fun y=>y = c0 ∨ w2.heap.size ≤ y) w2 W ∧ ∃ p k,W.heap[c0]? = some (.cells #[.slice p l.length k] 96 (0,0)) ∧ OwnsP W (fun g=>w2.heap.size + 2 ≤ g) 2 1 (.slice p l.length k) l.length (l.map (Value.int .i64))
section
variable {w2 W W' : World} {c0 : Nat} {l : List Int}
theorem AccI.start (hc : w2.heap[c0]? = some (.cells #[.slice none 0 0] 96 (0,0))) (g : Below w2.heap.size w2 W) : AccI w2 W c0 [] :=
 ⟨Kao g,none,0,Kai g (Array.getElem?_eq_some_iff.1 hc).1 hc,⟨by simp,.inl ⟨rfl,rfl⟩⟩,fun g hg=>by simp [Value.ownBlock] at hg⟩
theorem AccI.lt (h : AccI w2 W c0 l) : c0 < W.heap.size:=by obtain ⟨_,p,k,h1,_⟩:=h;exact (Array.getElem?_eq_some_iff.1 h1).1
theorem AccI.keep {D : Nat → Prop} (hc : c0 < w2.heap.size) (h : AccI w2 W c0 l) (g : Touch D W W') (hD : ∀ y,D y → w2.heap.size ≤ y ∧ (y < w2.heap.size + 2 ∨ W.heap.size ≤ y)) : AccI w2 W' c0 l:=by
 have hlt:=h.lt
 obtain ⟨h1,p,k,h2,h3⟩:=h
 exact ⟨h1.step g fun b _ hb=>.inr (hD b hb).1,p,k,(g.block c0 hlt fun hd=>by have:=(hD _ hd).1;omega).trans h2,h3.keep fun b hb hl=>g.block b hl fun hd=>by have h4:=(hD _ hd).2;have h5 : w2.heap.size + 2 ≤ b:=hb;omega⟩
theorem AccI.push (hc : c0 < w2.heap.size) (h : AccI w2 W c0 l) (x : Int) (hl : l.length ≤ 1100000) (hz : w2.heap.size + 2 ≤ W.heap.size) :
 ∃ p k p' k' W3,W.heap[c0]? = some (.cells #[.slice p l.length k] 96 (0,0)) ∧ (Builtin.append_ #[96,96] 96 #[.slice p l.length k,.slice (some ⟨W.heap.size,0,none⟩) 1 1]).run Tryz.prog (W.alloc (.cells #[.int .i64 x] 2)) = .ok (.slice p' (l.length + 1) k') W3 ∧ W3.heap[c0]? = some (.cells #[.slice p l.length k] 96 (0,0)) ∧
  AccI w2 (W3.setCell ⟨c0,0,none⟩ (.slice p' (l.length + 1) k')) c0 (l ++ [x]) ∧ Touch (fun y=>y = c0 ∨ w2.heap.size + 2 ≤ y) W (W3.setCell ⟨c0,0,none⟩ (.slice p' (l.length + 1) k')):=by
 have hlt:=h.lt
 obtain ⟨h1,p,k,h2,h3⟩:=h
 have hn:=Kad (w:=W) (.cells #[.int .i64 x] 2)
 have h4:=h3.keep (w':=W.alloc (.cells #[.int .i64 x] 2)) fun b _ hl=>hn.block b hl
 obtain ⟨v',W3,a1,a2,a3,a4,a5⟩:=ga_i64.many h4.1 (ad:=⟨W.heap.size,0,none⟩) (m:=1) (c:=1) (news:=[.int .i64 x]) rfl (fun j u hu=>by
  match j,hu with
  | 0,hu=>cases hu;rw [Kap];exact Kac (o:=0) (heap_alloc_new W _) rfl
  | n + 1,hu=>simp at hu) (fun u hu=>by rw [List.mem_singleton.1 hu];rfl) (by omega) 96
 have hown : ∀ b,v'.ownBlock = some b → w2.heap.size + 2 ≤ b:=fun b hb=>by
  rcases a4 with e | e
  ·exact h3.2 b (e ▸ hb)
  ·rw [e] at hb;simp at hb;omega
 have h5 : OwnsP W3 (fun g=>w2.heap.size + 2 ≤ g) 2 1 v' (l.length + 1) (l.map (Value.int .i64) ++ [.int .i64 x]):=⟨a2,hown⟩
 obtain ⟨p',k',rfl⟩:=Kbb h5
 have hT3 : Touch (fun y=>w2.heap.size + 2 ≤ y) W W3:=(Kao hn).step a3 fun b _ hb=>h3.2 b hb
 have hc3 : W3.heap[c0]? = some (.cells #[.slice p l.length k] 96 (0,0)):=(hT3.block c0 hlt (by omega)).trans h2
 have hTf:=(hT3.mono (S':=fun y=>y = c0 ∨ w2.heap.size + 2 ≤ y) fun b _ hb=>.inr hb).setCell (b:=c0) (o:=0) (.inl (.inl rfl)) (.slice p' (l.length + 1) k')
 have hbox : (W3.setCell ⟨c0,0,none⟩ (.slice p' (l.length + 1) k')).heap[c0]? = some (.cells #[.slice p' (l.length + 1) k'] 96 (0,0)):=Kbs _ hc3
 refine ⟨p,k,p',k',W3,h2,a1,hc3,⟨h1.step hTf fun b _ hb=>by rcases hb with hb | hb;exact .inl hb;exact .inr (by omega),p',k',by rw [List.length_append];exact hbox,?_⟩,hTf⟩
 rw [List.length_append,List.map_append]
 exact h5.keep fun b hb _=>Below.heap_setCell _ ⟨c0,0,none⟩ _ b (by have h6 : w2.heap.size + 2 ≤ b:=hb;show b ≠ c0;omega)
theorem AccI.rd (h : AccI w2 W c0 l) (hl : l.length ≤ 1100000) : ∃ p k,W.cell? ⟨c0,0,none⟩ = some (.slice p l.length k) ∧ GRd IRd 1 W p k l:=by
 obtain ⟨h1,p,k,h2,h3⟩:=h
 obtain ⟨p',k',e,hg⟩:=ints_rd h3.1 hl
 cases e
 exact ⟨_,_,Kac (o:=0) h2 rfl,hg⟩
theorem ItR.turn {b n : Nat} {p : Option Addr} {c : Nat} {m : List Int} (h : ItR w2 b p c m) (hn : n ≤ b ∧ ∀ ad,p = some ad → n ≤ ad.block) (hc : c0 < n) (g : Touch (fun y=>y = c0 ∨ w2.heap.size ≤ y) w2 W) : ItR W b p c m:=by
 obtain ⟨h1,h2,h3⟩:=h
 have hlt:=ltOf h1
 refine ⟨g.cell h1 (by omega),h2,fun ad had=>⟨(h3 ad had).1,fun j v hv=>?_⟩⟩
 obtain ⟨cs,e1,e2,e3⟩:=(h3 ad had).2 j v hv
 have:=hn.2 ad had
 exact ⟨cs,e1,fun i u hu=>g.cell (e2 i u hu) (by have:=ltOf (e2 i u hu);omega),e3⟩
end
theorem list_of {w : World} {p : Option Addr} {l : List Int} (hN : Calls Tryz.prog 125 #[.pointer p] (w.alloc (.cells #[.slice none 0 0] 96)) (NodesP (w.alloc (.cells #[.slice none 0 0] 96)) l)) :
 Calls Tryz.prog 70 #[.pointer p] w fun e w'=>∃ q d,e = .returned (.slice q l.length d) ∧ GRd IRd 1 w' q d l ∧ Below w.heap.size w w':=by
 have hb1:=Kad (w:=w) (.cells #[.slice none 0 0] 96)
 have hx1:=heap_alloc_new w (.cells #[.slice none 0 0] 96)
 have hs1 : (w.alloc (.cells #[.slice none 0 0] 96)).heap.size = w.heap.size + 1:=by simp
 have HN:=yh hN
 have HX:=yh (And.intro hb1 (And.intro hx1 hs1))
 have hef:=fun (b : Nat) (W : World)=>eql_func 99 (.func 175) #[] #[.pointer (some ⟨b,0,none⟩)] W Tryz.underlying99
 clear hN hb1 hx1 hs1
 refine Kcc Tryz.func70 rfl ?_
 simp only [Tryz.ntmps70,List.size_toArray,List.length_cons,List.length_nil,Nat.reduceAdd,Nat.reduceSub,Array.replicate_succ,Array.replicate_zero,List.push_toArray,List.append_toArray,List.nil_append,List.cons_append]
 go_wp2_with (first
  | (go_at_call 125
     (
      refine HN.out.mono ?_
      rintro e w2 ⟨b,q,c,rfl,h1,h2,h3,h4,h5⟩
      have HI:=yh (And.intro h1 (And.intro (And.intro h2 h3) (And.intro h4 h5)))
      clear h1 h2 h3 h4 h5)))
 clear hef
 obtain ⟨h1,h2,h4,h5⟩:=HI.out
 have hx2:=Kai h4 (by rw [HX.out.2.2];omega) HX.out.2.1
 have hc2 : w.heap.size < w2.heap.size:=(Array.getElem?_eq_some_iff.1 hx2).1
 have hn2:=HX.out.2.2
 have hbw:=Kaa HX.out.1 h4
 rw [hn2] at h2
 refine wp_range (gf:=175) (gfn:=Tryz.f175) (lb:=#[.pointer (some ⟨b,0,none⟩)]) rfl Tryz.func175 rfl rfl
  (iter_ids b q c l) (fun _=>rfl) (fun pre W=>AccI w2 W w.heap.size pre) (fun _ _=>False) (fun y=>y = w.heap.size ∨ w2.heap.size + 2 ≤ y) (fun y hy=>by rcases hy with h | h;exact .inl (by omega);exact .inr h) ?h0 ?hpre ?hkeep ?hput ?hputx ?hround ?hdone ?hstop
 case h0=>intro W hB hsz;exact AccI.start hx2 hB
 case hpre=>exact fun pre W h=>h1.turn (c0:=w.heap.size) h2 (by omega) h.1
 case hkeep=>intro pre W W' h hs hk;exact h.keep hc2 hk fun y hy=>by omega
 case hput =>
  intro pre W o h
  exact h.keep hc2 (D:=fun y=>y = w2.heap.size + 1) ((Touch.refl _ _).putObj (.inl (by exact rfl)) o) fun y hy=>by omega
 case hputx=>exact fun _ _ _ h=>h
 case hstop=>exact fun _ _ h=>h.elim
 case hdone =>
  rintro xs W rfl hI hD
  obtain ⟨p9,k9,hc9,_⟩:=hI.rd h5
  have hI2:=hI.keep hc2 (D:=fun y=>y = w2.heap.size) ((Touch.refl _ W).putObj (.inl (by exact rfl)) (.deferred none)) fun y hy=>by omega
  have hb9:=hI2.1.below hbw (fun y hy e=>by omega) hbw.size
  obtain ⟨p8,k8,hc8,hg8⟩:=hI2.rd h5
  have he : p8 = p9 ∧ k8 = k9:=by
   rw [cell_putObj (by omega),hc9] at hc8
   injection hc8 with h6
   injection h6 with h7 _ h8
   exact ⟨h7.symm,h8.symm⟩
  obtain ⟨rfl,rfl⟩:=he
  have H:=yh (And.intro hg8 hb9)
  have HD:=yh hD
  clear hI hI2 hg8 hb9 hc8 h1 h2 h4 h5 hx2 hD
  go_wp2
  exact leave_mark HD.out (results_tmp rfl _ _ _) ⟨p8,k8,rfl,H.out.1,H.out.2⟩
 case hround =>
  rintro r r' pre x W ⟨k,hk,hpk⟩ hI hsz hl
  have hlen : pre.length ≤ 1100000:=by
   have:=congrArg List.length hpk
   rw [List.length_append,List.length_take] at this
   simp at this;omega
  have HH:=yh (And.intro hl (And.intro hI hlen))
  clear hl hI hlen hpk h1 h2 h4 h5 hx2
  gi_wp2
  obtain ⟨hl,hI,hlen⟩:=HH.out
  refine ⟨Touch.refl _ _,hl,fun w₂ hw2=>?_⟩
  have hI2 : AccI w2 w₂ w.heap.size pre:=by rw [hw2];exact hI.keep hc2 (D:=fun y=>y = w2.heap.size + 1) ((Touch.refl _ _).putObj (.inl (by exact rfl)) r') fun y hy=>by omega
  obtain ⟨p1,k1,p2,k2,W3,a1,a2,a3,a4,a5⟩:=hI2.push hc2 x hlen (by rw [hw2];simpa using hsz)
  have c1 : w₂.cell? ⟨w.heap.size,0,none⟩ = some (.slice p1 pre.length k1):=Kac (o:=0) a1 rfl
  have c3 : W3.cell? ⟨w.heap.size,0,none⟩ = some (.slice p1 pre.length k1):=Kac (o:=0) a3 rfl
  have f3 : W3.frozen? ⟨w.heap.size,0,none⟩ = false:=Kbe a3
  have Ha:=yh a2
  have Hf:=yh (show Over (fun y=>y = w.heap.size ∨ w2.heap.size + 2 ≤ y) w₂ (W3.setCell ⟨w.heap.size,0,none⟩ (.slice p2 (pre.length + 1) k2)) ∧ AccI w2 (W3.setCell ⟨w.heap.size,0,none⟩ (.slice p2 (pre.length + 1) k2)) w.heap.size (pre ++ [x]) from ⟨a5,a4⟩)
  clear hl hI hlen hI2 a1 a2 a3 a4 a5 hw2
  generalize pre.length = np at *
  gi_wp2_with (refine wpListIn_run (fun _=>trivial) rfl (by simp) (Kcb rfl rfl rfl Ha.out) ?_)
  exact Hf.out
end Go.Proofs.YtihfnegakcghiaaGreatDoor
namespace Go.Proofs.YtihfnegakcghiaaGreatDoor
open Go.RowKit
attribute [local go_sem] Oper.semAt_some
theorem fresh_func {w : World} {fn : Fn} {xs lb : Array Value} : (storeVar 95 ⟨w.heap.size,0,none⟩ (.func fn xs lb)).run Tryz.prog (w.alloc (.cells #[.nilFunc] 95)) = .ok () (w.alloc (.cells #[.func fn xs lb] 95)):=by
 have h:=run_storeVar_row (P:=Tryz.prog) (w.alloc (.cells #[.nilFunc] 95)) w.heap.size 95 95 _ #[.func fn xs lb] (heap_alloc_new w _) (by kernel_rfl) rfl (by simp [Value.oneCell'])
 rw [World.setRow_alloc_new] at h
 exact h
theorem labelled_of {w : World} {p : Option Addr} {s : ByteArray} {l : List Int} {fn : Int → Bool} (hN : Calls Tryz.prog 125 #[.pointer p] ((((w.alloc (.cells #[.pointer p] 37)).alloc (.cells #[.string s] 9)).alloc (.cells #[.func (.func 126) #[] #[.pointer (some ⟨w.heap.size,0,none⟩),.pointer (some ⟨w.heap.size + 1,0,none⟩)]] 95)).alloc (.cells #[.slice none 0 0] 96)) (NodesP ((((w.alloc (.cells #[.pointer p] 37)).alloc (.cells #[.string s] 9)).alloc (.cells #[.func (.func 126) #[] #[.pointer (some ⟨w.heap.size,0,none⟩),.pointer (some ⟨w.heap.size + 1,0,none⟩)]] 95)).alloc (.cells #[.slice none 0 0] 96)) l))
 (hF : ∀ (W : World) (x : Int),x ∈ l → Below w.heap.size w W → W.cell? ⟨w.heap.size,0,none⟩ = some (.pointer p) → W.cell? ⟨w.heap.size + 1,0,none⟩ = some (.string s) → Calls Tryz.prog 126 #[.int .i64 x,.pointer (some ⟨w.heap.size,0,none⟩),.pointer (some ⟨w.heap.size + 1,0,none⟩)] W fun e w'=>e = .returned (.bool (fn x)) ∧ Below W.heap.size W w') :
 Calls Tryz.prog 73 #[.pointer p,.string s] w fun e w'=>∃ q d,e = .returned (.slice q (l.filter fn).length d) ∧ GRd IRd 1 w' q d (l.filter fn) ∧ Below w.heap.size w w':=by
 have hb4 : Below w.heap.size w ((((w.alloc (.cells #[.pointer p] 37)).alloc (.cells #[.string s] 9)).alloc (.cells #[.func (.func 126) #[] #[.pointer (some ⟨w.heap.size,0,none⟩),.pointer (some ⟨w.heap.size + 1,0,none⟩)]] 95)).alloc (.cells #[.slice none 0 0] 96)):=(((Kad (w:=w) _).alloc (by simp) _).alloc (by simp;omega) _).alloc (by simp;omega) _
 have hs4 : ((((w.alloc (.cells #[.pointer p] 37)).alloc (.cells #[.string s] 9)).alloc (.cells #[.func (.func 126) #[] #[.pointer (some ⟨w.heap.size,0,none⟩),.pointer (some ⟨w.heap.size + 1,0,none⟩)]] 95)).alloc (.cells #[.slice none 0 0] 96)).heap.size = w.heap.size + 4:=by simp
 have hx0 : ((((w.alloc (.cells #[.pointer p] 37)).alloc (.cells #[.string s] 9)).alloc (.cells #[.func (.func 126) #[] #[.pointer (some ⟨w.heap.size,0,none⟩),.pointer (some ⟨w.heap.size + 1,0,none⟩)]] 95)).alloc (.cells #[.slice none 0 0] 96)).heap[w.heap.size]? = some (.cells #[.pointer p] 37 (0,0)):=by
  simp only [Kaw,World.size_alloc];rw [if_neg (by omega),if_neg (by omega),if_neg (by omega),if_pos trivial]
 have hx1 : ((((w.alloc (.cells #[.pointer p] 37)).alloc (.cells #[.string s] 9)).alloc (.cells #[.func (.func 126) #[] #[.pointer (some ⟨w.heap.size,0,none⟩),.pointer (some ⟨w.heap.size + 1,0,none⟩)]] 95)).alloc (.cells #[.slice none 0 0] 96)).heap[w.heap.size + 1]? = some (.cells #[.string s] 9 (0,0)):=by
  simp only [Kaw,World.size_alloc];rw [if_neg (by omega),if_neg (by omega),if_pos trivial]
 have hx2 : ((((w.alloc (.cells #[.pointer p] 37)).alloc (.cells #[.string s] 9)).alloc (.cells #[.func (.func 126) #[] #[.pointer (some ⟨w.heap.size,0,none⟩),.pointer (some ⟨w.heap.size + 1,0,none⟩)]] 95)).alloc (.cells #[.slice none 0 0] 96)).heap[w.heap.size + 1 + 1]? = some (.cells #[.func (.func 126) #[] #[.pointer (some ⟨w.heap.size,0,none⟩),.pointer (some ⟨w.heap.size + 1,0,none⟩)]] 95 (0,0)):=by
  simp only [Kaw,World.size_alloc];rw [if_neg (by omega),if_pos trivial]
 have hx3 : ((((w.alloc (.cells #[.pointer p] 37)).alloc (.cells #[.string s] 9)).alloc (.cells #[.func (.func 126) #[] #[.pointer (some ⟨w.heap.size,0,none⟩),.pointer (some ⟨w.heap.size + 1,0,none⟩)]] 95)).alloc (.cells #[.slice none 0 0] 96)).heap[w.heap.size + 1 + 1 + 1]? = some (.cells #[.slice none 0 0] 96 (0,0)):=by
  simp only [Kaw,World.size_alloc];rw [if_pos trivial]
 have hst:=fresh_func (w:=((w.alloc (.cells #[.pointer p] 37)).alloc (.cells #[.string s] 9))) (fn:=.func 126) (xs:=#[]) (lb:=#[.pointer (some ⟨w.heap.size,0,none⟩),.pointer (some ⟨w.heap.size + 1,0,none⟩)])
 simp only [World.size_alloc] at hst
 have HST:=yh hst
 have HN:=yh hN
 have HF:=yh hF
 have HX:=yh (And.intro hb4 (And.intro hs4 (And.intro hx0 (And.intro hx1 (And.intro hx2 hx3)))))
 clear hst hN hF hb4 hs4 hx0 hx1 hx2 hx3
 refine Kcc Tryz.func73 rfl ?_
 simp only [Tryz.ntmps73,List.size_toArray,List.length_cons,List.length_nil,Nat.reduceAdd,Nat.reduceSub,Array.replicate_succ,Array.replicate_zero,List.push_toArray,List.append_toArray,List.nil_append,List.cons_append]
 go_wp2_with (first
  | ((with_reducible apply Kam);exact HST.out;exact rfl;exact rfl;clear HST)
  | (go_at_call 125
     (
      refine HN.out.mono ?_
      rintro e w2 ⟨b,q,c,rfl,h1,h2,h3,h4,h5⟩
      have HI:=yh (And.intro h1 (And.intro (And.intro h2 h3) (And.intro h4 h5)))
      clear h1 h2 h3 h4 h5)))
 obtain ⟨h1,h2,h4,h5⟩:=HI.out
 obtain ⟨hb4,hs4,hx0,hx1,hx2,hx3⟩:=HX.out
 have y0:=Kai h4 (by omega) hx0
 have y1:=Kai h4 (by omega) hx1
 have y2:=Kai h4 (by omega) hx2
 have y3:=Kai h4 (by omega) hx3
 have hc2 : w.heap.size + 1 + 1 + 1 < w2.heap.size:=(Array.getElem?_eq_some_iff.1 y3).1
 have hbw:=Kaa hb4 h4
 rw [hs4] at h2
 refine wp_range (gf:=175) (gfn:=Tryz.f175) (lb:=#[.pointer (some ⟨b,0,none⟩)]) rfl Tryz.func175 rfl rfl
  (iter_ids b q c l) (fun _=>rfl) (fun pre W=>AccI w2 W (w.heap.size + 1 + 1 + 1) (pre.filter fn)) (fun _ _=>False) (fun y=>y = w.heap.size + 1 + 1 + 1 ∨ w2.heap.size + 2 ≤ y) (fun y hy=>by rcases hy with h | h;exact .inl (by omega);exact .inr h) ?h0 ?hpre ?hkeep ?hput ?hputx ?hround ?hdone ?hstop
 case h0=>intro W hB hsz;exact AccI.start y3 hB
 case hpre=>exact fun pre W h=>h1.turn (c0:=w.heap.size + 1 + 1 + 1) h2 (by omega) h.1
 case hkeep=>intro pre W W' h hs hk;exact h.keep hc2 hk fun y hy=>by omega
 case hput =>
  intro pre W o h
  exact h.keep hc2 (D:=fun y=>y = w2.heap.size + 1) ((Touch.refl _ _).putObj (.inl (by exact rfl)) o) fun y hy=>by omega
 case hputx=>exact fun _ _ _ h=>h
 case hstop=>exact fun _ _ h=>h.elim
 case hdone =>
  rintro xs W rfl hI hD
  have hfl : (xs.filter fn).length ≤ 1100000:=Nat.le_trans (List.length_filter_le _ _) h5
  obtain ⟨p9,k9,hc9,_⟩:=hI.rd hfl
  have hI2:=hI.keep hc2 (D:=fun y=>y = w2.heap.size) ((Touch.refl _ W).putObj (.inl (by exact rfl)) (.deferred none)) fun y hy=>by omega
  have hb9:=hI2.1.below hbw (fun y hy e=>by omega) hbw.size
  obtain ⟨p8,k8,hc8,hg8⟩:=hI2.rd hfl
  have he : p8 = p9 ∧ k8 = k9:=by
   rw [cell_putObj (by omega),hc9] at hc8
   injection hc8 with h6
   injection h6 with h7 _ h8
   exact ⟨h7.symm,h8.symm⟩
  obtain ⟨rfl,rfl⟩:=he
  have H:=yh (And.intro hg8 hb9)
  have HD:=yh hD
  clear hI hI2 hg8 hb9 hc8 h1 h2 h4 h5 hx0 hx1 hx2 hx3 y0 y1 y2 y3 hb4 hs4 hbw hD hfl
  generalize hfx : (xs.filter fn).length = nf at hc9
  have HFX:=yh hfx
  clear hfx
  go_wp2
  exact leave_mark HD.out (results_tmp rfl _ _ _) ⟨p8,k8,by rw [HFX.out];rfl,H.out.1,H.out.2⟩
 case hround =>
  rintro r r' pre x W ⟨k,hk,hpk⟩ hI hsz hl
  have hlen : (pre.filter fn).length ≤ 1100000:=by
   have:=congrArg List.length hpk
   rw [List.length_append,List.length_take] at this
   simp at this
   have:=List.length_filter_le fn pre
   omega
  have hxm : x ∈ l:=List.mem_of_mem_take (by rw [← hpk];simp : x ∈ l.take k)
  have HH:=yh (And.intro hl (And.intro hI (And.intro hlen hxm)))
  have HY:=yh (And.intro y0 (And.intro y1 (And.intro y2 (And.intro y3 hbw))))
  clear hl hI hlen hpk h1 h2 h4 h5 hx0 hx1 hx2 hx3 y0 y1 y2 y3 hb4 hs4 hxm hbw
  gi_wp2
  obtain ⟨hl,hI,hlen,hxm⟩:=HH.out
  obtain ⟨y0,y1,y2,y3,hbw⟩:=HY.out
  refine ⟨Touch.refl _ _,hl,fun w₂ hw2=>?_⟩
  have hI2 : AccI w2 w₂ (w.heap.size + 1 + 1 + 1) (pre.filter fn):=by rw [hw2];exact hI.keep hc2 (D:=fun y=>y = w2.heap.size + 1) ((Touch.refl _ _).putObj (.inl (by exact rfl)) r') fun y hy=>by omega
  have hz2 : w2.heap.size + 2 ≤ w₂.heap.size:=by rw [hw2];simpa using hsz
  have c0 : w₂.cell? ⟨w.heap.size,0,none⟩ = some (.pointer p):=hI2.1.cell (Kac (o:=0) y0 rfl) (by omega)
  have c1 : w₂.cell? ⟨w.heap.size + 1,0,none⟩ = some (.string s):=hI2.1.cell (Kac (o:=0) y1 rfl) (by omega)
  have c2 : w₂.cell? ⟨w.heap.size + 1 + 1,0,none⟩ = some (.func (.func 126) #[] #[.pointer (some ⟨w.heap.size,0,none⟩),.pointer (some ⟨w.heap.size + 1,0,none⟩)]):=hI2.1.cell (Kac (o:=0) y2 rfl) (by omega)
  have hB2 : Below w.heap.size w w₂:=hI2.1.below hbw (fun y hy e=>by omega) hbw.size
  have HC:=yh (HF.out w₂ x hxm hB2 c0 c1)
  have HI2:=yh (And.intro hI2 (And.intro hlen hz2))
  clear hl hI hlen hxm hI2 hz2 hB2 c0 c1 y0 y1 y2 y3 hbw hw2
  refine wpIn_block ?_
  refine wpIn_seq_k (fun K2 hK2=>?_)
  have HK2:=yh hK2
  clear hK2
  refine Kaq (by kernel_rfl) ?_
  cases hfx : fn x with
  | true =>
    rw [hfx] at HC
    have HFX:=yh hfx
    clear hfx
    go_wp2_with (first
     | (go_at_call 126
        (
         refine HC.out.mono ?_
         rintro e w3 ⟨rfl,hb3⟩
         have HB3:=yh hb3
         clear hb3 HC)))
    refine HK2.out _ _ ?_
    refine wpIn_cond_true rfl ?_
    refine Kaq (by kernel_rfl) ?_
    have hI3:=HI2.out.1.keep hc2 (D:=fun _=>False) (Kao HB3.out) fun y hy=>hy.elim
    obtain ⟨p1,k1,p2,k2,W3,a1,a2,a3,a4,a5⟩:=hI3.push hc2 x HI2.out.2.1 (by have:=HB3.out.size;have:=HI2.out.2.2;omega)
    have e1 : w3.cell? ⟨w.heap.size + 1 + 1 + 1,0,none⟩ = some (.slice p1 (pre.filter fn).length k1):=Kac (o:=0) a1 rfl
    have e3 : W3.cell? ⟨w.heap.size + 1 + 1 + 1,0,none⟩ = some (.slice p1 (pre.filter fn).length k1):=Kac (o:=0) a3 rfl
    have f3 : W3.frozen? ⟨w.heap.size + 1 + 1 + 1,0,none⟩ = false:=Kbe a3
    have hfl : (pre ++ [x]).filter fn = pre.filter fn ++ [x]:=by rw [List.filter_append];simp [List.filter,HFX.out]
    rw [← hfl] at a4
    have Ha:=yh a2
    have Hf:=yh (show Over (fun y=>y = w.heap.size + 1 + 1 + 1 ∨ w2.heap.size + 2 ≤ y) w₂ (W3.setCell ⟨w.heap.size + 1 + 1 + 1,0,none⟩ (.slice p2 ((pre.filter fn).length + 1) k2)) ∧ AccI w2 (W3.setCell ⟨w.heap.size + 1 + 1 + 1,0,none⟩ (.slice p2 ((pre.filter fn).length + 1) k2)) (w.heap.size + 1 + 1 + 1) ((pre ++ [x]).filter fn) from ⟨(Kao HB3.out).trans a5,a4⟩)
    clear hI3 a1 a2 a3 a4 a5 hfl c2
    generalize (pre.filter fn).length = np at *
    go_wp2_with ((with_reducible apply op_append);exact Ha.out;exact rfl;exact rfl;clear Ha)
    exact Hf.out
  | false =>
    rw [hfx] at HC
    have HFX:=yh hfx
    clear hfx
    go_wp2_with (first
     | (go_at_call 126
        (
         refine HC.out.mono ?_
         rintro e w3 ⟨rfl,hb3⟩
         have HB3:=yh hb3
         clear hb3 HC)))
    refine HK2.out _ _ ?_
    refine wpIn_cond_false rfl ?_
    refine wpIn_skip ?_
    have hfl : (pre ++ [x]).filter fn = pre.filter fn:=by rw [List.filter_append];simp [List.filter,HFX.out]
    exact ⟨Kao HB3.out,by rw [hfl];exact HI2.out.1.keep hc2 (D:=fun _=>False) (Kao HB3.out) fun y hy=>hy.elim⟩
theorem list_none {w : World} {p : Option Addr} (h : NoG w p) : Calls Tryz.prog 70 #[.pointer p] w fun e w'=>∃ q d,e = .returned (.slice q 0 d) ∧ Below w.heap.size w w' :=
 (list_of (nodes_none (h.below (Kad _)))).mono fun e w' ⟨q,d,h1,_,h3⟩=>⟨q,d,h1,h3⟩
theorem labelled_none {w : World} {p : Option Addr} (s : ByteArray) (h : NoG w p) : Calls Tryz.prog 73 #[.pointer p,.string s] w fun e w'=>∃ q d,e = .returned (.slice q 0 d) ∧ Below w.heap.size w w' :=
 (labelled_of (fn:=fun _=>true) (nodes_none (h.below ((((Kad (w:=w) _).alloc (by simp) _).alloc (by simp;omega) _).alloc (by simp;omega) _))) fun W x hx=>by simp at hx).mono fun e w' ⟨q,d,h1,_,h3⟩=>⟨q,d,h1,h3⟩
end Go.Proofs.YtihfnegakcghiaaGreatDoor
namespace Go.Proofs.YtihfnegakcghiaaGreatDoor
open Go.RowKit
structure StepD where
 kind : Int
 id : Int
 tgt : Int
 rel : Bool
 key : List UInt8
 labels : List (List UInt8)
 props : List PropD
 val : V
def stepX (s : StepD) (pl : Option Addr) (cl : Nat) (pp : Option Addr) (cp : Nat) (y : Array Value) : Array Value:=#[.int .i64 s.kind,.int .i64 s.id,.int .i64 s.tgt,.bool s.rel,.string (strB s.key),.slice pl s.labels.length cl,.slice pp s.props.length cp] ++ y
def SpRd (w : World) (s : StepD) (x : Array Value) : Prop:=∃ pl cl pp cp y,x = stepX s pl cl pp cp y ∧ s.key.length ≤ 140737488355328 ∧ RdS w pl cl s.labels ∧ GRd PRd 7 w pp cp s.props ∧ VRd w s.val y
theorem SpRd.below {w w' : World} {s : StepD} {x : Array Value} (h : SpRd w s x) (g : Below w.heap.size w w') : SpRd w' s x:=by
 obtain ⟨pl,cl,pp,cp,y,e,h1,h2,h3,h4⟩:=h
 exact ⟨pl,cl,pp,cp,y,e,h1,h2.below g,h3.below (fun h=>h.below g) g,h4.below g⟩
theorem ef_step : EF SpRd 13:=by
 refine ⟨fun h g=>h.below g,fun h=>?_,fun h=>?_⟩
 ·obtain ⟨_,_,_,_,y,rfl,_,_,_,h4⟩:=h
  unfold stepX
  rw [Array.size_append,ef_val.size h4];rfl
 ·obtain ⟨_,_,_,_,y,rfl,_,_,_,h4⟩:=h
  exact ones_append (by simp [Value.oneCell']) (ef_val.ones h4)
theorem st_step : StT Tryz.prog 33 13:=.of Tryz.underlying33 (by rfl) (by kernel_rfl)
def SOk (s : StepD) : Prop:=s.labels.length ≤ 1100000 ∧ PsOk s.props ∧ totV s.val ≤ 1100000 ∧ s.key.length ≤ 1100000
theorem SpRd.cells {W : World} {s : StepD} {x : Array Value} {g : Nat} (h : SpRd W s x) (hb : W.heap[g]? = some (.cells x 33 (0,0))) :
 W.cell? ⟨g,0,none⟩ = some (.int .i64 s.kind) ∧ W.cell? ⟨g,1,none⟩ = some (.int .i64 s.id) ∧ W.cell? ⟨g,2,none⟩ = some (.int .i64 s.tgt) ∧ W.cell? ⟨g,3,none⟩ = some (.bool s.rel) ∧ W.cell? ⟨g,4,none⟩ = some (.string (strB s.key)) ∧
 (∃ pl cl,W.cell? ⟨g,5,none⟩ = some (.slice pl s.labels.length cl) ∧ RdS W pl cl s.labels) ∧ (∃ pp cp,W.cell? ⟨g,6,none⟩ = some (.slice pp s.props.length cp) ∧ GRd PRd 7 W pp cp s.props) ∧
 ∃ y,VRd W s.val y ∧ (loadVar 31 ⟨g,7,none⟩).run Tryz.prog W = .ok (.agg y) W:=by
 obtain ⟨pl,cl,pp,cp,y,rfl,h1,h2,h3,h4⟩:=h
 have hc : ∀ (o : Nat) (v : Value),(stepX s pl cl pp cp y)[o]? = some v → W.cell? ⟨g,o,none⟩ = some v:=fun o v hv=>Kac hb hv
 have hs : ∀ o,o < 7 → (stepX s pl cl pp cp y)[o]? = (#[.int .i64 s.kind,.int .i64 s.id,.int .i64 s.tgt,.bool s.rel,.string (strB s.key),.slice pl s.labels.length cl,.slice pp s.props.length cp] : Array Value)[o]?:=fun o ho=>by
  unfold stepX;rw [Array.getElem?_append_left (by simpa using ho)]
 refine ⟨hc _ _ (hs 0 (by omega)),hc _ _ (hs 1 (by omega)),hc _ _ (hs 2 (by omega)),hc _ _ (hs 3 (by omega)),hc _ _ (hs 4 (by omega)),⟨pl,cl,hc _ _ (hs 5 (by omega)),h2⟩,⟨pp,cp,hc _ _ (hs 6 (by omega)),h3⟩,y,h4,?_⟩
 refine StT.load (P:=Tryz.prog) (g:=g) (o:=7) (W:=W) st_val (ef_val.size h4) fun i u hu=>hc _ _ ?_
 unfold stepX
 rw [Array.getElem?_append_right (by simp)]
 simpa using hu
theorem big_any {w : World} {s : StepD} {x : Array Value} (h : SpRd w s x) (hk : SOk s) : Calls Tryz.prog 10 #[.agg x] w fun e w'=>SomeB e ∧ Below w.heap.size w w':=by
 have hb1:=Kad (w:=w) (.cells x 33)
 have hx1:=heap_alloc_new w (.cells x 33)
 have h1:=h.below hb1
 obtain ⟨_,_,_,_,q4,⟨pl,cl,q5,hls⟩,⟨pp,cp,q6,hps⟩,y,hy,hlv⟩:=h1.cells hx1
 have HLV:=yh hlv
 have HZ:=yh (sizeR_any _ _ y (by have:=hk.2.2.1;omega) hy)
 have HV:=yh (fun W (g : Below (w.alloc (.cells x 33)).heap.size (w.alloc (.cells x 33)) W)=>heavy_any (w:=W) (hps.below (fun h=>h.below g) g) hk.2.1.tot)
 have HC:=yh (And.intro q4 (And.intro q5 q6))
 have HX:=yh hb1
 have hsz : (strB s.key).size = s.key.length:=by simp [strB,ByteArray.size]
 have z1 : (s.labels.length : Int) ≤ 1100000:=by have:=hk.1;omega
 have z2 : (s.props.length : Int) ≤ 1100000:=by have:=hk.2.1.1;omega
 have z3 : (s.key.length : Int) ≤ 1100000:=by have:=hk.2.2.2;omega
 generalize (countV s.val : Int) = n1 at *
 generalize (Kci s.val : Int) = n2 at *
 generalize s.key = ky at *
 clear hb1 hx1 h1 q4 q5 q6 hls hps hy hlv h hk
 by_cases a1 : (12 : Int) < (s.labels.length : Int)
 ·have a1b : decide ((12 : Int) < (s.labels.length : Int)) = true:=decide_eq_true a1
  clear a1
  go_enter Tryz.func10,Tryz.ntmps10
  go_wp2_with (first
   | ((with_reducible apply Kal);exact HLV.out;exact rfl;clear HLV)
   | (go_at_call 32
      (
       refine HZ.out.mono ?_
       rintro e W2 ⟨rfl,hb⟩
       have c4:=Kae hb (ltOf HC.out.1) HC.out.1
       have c5:=Kae hb (ltOf HC.out.2.1) HC.out.2.1
       have c6:=Kae hb (ltOf HC.out.2.2) HC.out.2.2
       have HV2:=yh (HV.out W2 hb)
       have HB:=yh hb
       clear hb HZ))
   | (go_at_call 31
      (
       refine HV2.out.mono ?_
       rintro e W3 ⟨⟨bh,rfl⟩,hb⟩
       have c4':=Kae hb (ltOf c4) c4
       have HB3:=yh (Kaa HB.out hb)
       clear hb HV2
       cases bh)))
  all_goals go_ret
  all_goals exact ⟨⟨_,rfl⟩,Kaa HX.out HB.out⟩
 have a1b : decide ((12 : Int) < (s.labels.length : Int)) = false:=decide_eq_false a1
 clear a1
 by_cases a2 : (12 : Int) < (s.props.length : Int)
 ·have a2b : decide ((12 : Int) < (s.props.length : Int)) = true:=decide_eq_true a2
  clear a2
  go_enter Tryz.func10,Tryz.ntmps10
  go_wp2_with (first
   | ((with_reducible apply Kal);exact HLV.out;exact rfl;clear HLV)
   | (go_at_call 32
      (
       refine HZ.out.mono ?_
       rintro e W2 ⟨rfl,hb⟩
       have c4:=Kae hb (ltOf HC.out.1) HC.out.1
       have c5:=Kae hb (ltOf HC.out.2.1) HC.out.2.1
       have c6:=Kae hb (ltOf HC.out.2.2) HC.out.2.2
       have HV2:=yh (HV.out W2 hb)
       have HB:=yh hb
       clear hb HZ))
   | (go_at_call 31
      (
       refine HV2.out.mono ?_
       rintro e W3 ⟨⟨bh,rfl⟩,hb⟩
       have c4':=Kae hb (ltOf c4) c4
       have HB3:=yh (Kaa HB.out hb)
       clear hb HV2
       cases bh)))
  all_goals go_ret
  all_goals exact ⟨⟨_,rfl⟩,Kaa HX.out HB.out⟩
 have a2b : decide ((12 : Int) < (s.props.length : Int)) = false:=decide_eq_false a2
 clear a2
 by_cases a3 : (200 : Int) < n1
 ·have a3b : decide ((200 : Int) < n1) = true:=decide_eq_true a3
  clear a3
  go_enter Tryz.func10,Tryz.ntmps10
  go_wp2_with (first
   | ((with_reducible apply Kal);exact HLV.out;exact rfl;clear HLV)
   | (go_at_call 32
      (
       refine HZ.out.mono ?_
       rintro e W2 ⟨rfl,hb⟩
       have c4:=Kae hb (ltOf HC.out.1) HC.out.1
       have c5:=Kae hb (ltOf HC.out.2.1) HC.out.2.1
       have c6:=Kae hb (ltOf HC.out.2.2) HC.out.2.2
       have HV2:=yh (HV.out W2 hb)
       have HB:=yh hb
       clear hb HZ))
   | (go_at_call 31
      (
       refine HV2.out.mono ?_
       rintro e W3 ⟨⟨bh,rfl⟩,hb⟩
       have c4':=Kae hb (ltOf c4) c4
       have HB3:=yh (Kaa HB.out hb)
       clear hb HV2
       cases bh)))
  all_goals go_ret
  all_goals exact ⟨⟨_,rfl⟩,Kaa HX.out HB3.out⟩
 have a3b : decide ((200 : Int) < n1) = false:=decide_eq_false a3
 clear a3
 by_cases a4 : (5000 : Int) < n2
 ·have a4b : decide ((5000 : Int) < n2) = true:=decide_eq_true a4
  clear a4
  go_enter Tryz.func10,Tryz.ntmps10
  go_wp2_with (first
   | ((with_reducible apply Kal);exact HLV.out;exact rfl;clear HLV)
   | (go_at_call 32
      (
       refine HZ.out.mono ?_
       rintro e W2 ⟨rfl,hb⟩
       have c4:=Kae hb (ltOf HC.out.1) HC.out.1
       have c5:=Kae hb (ltOf HC.out.2.1) HC.out.2.1
       have c6:=Kae hb (ltOf HC.out.2.2) HC.out.2.2
       have HV2:=yh (HV.out W2 hb)
       have HB:=yh hb
       clear hb HZ))
   | (go_at_call 31
      (
       refine HV2.out.mono ?_
       rintro e W3 ⟨⟨bh,rfl⟩,hb⟩
       have c4':=Kae hb (ltOf c4) c4
       have HB3:=yh (Kaa HB.out hb)
       clear hb HV2
       cases bh)))
  all_goals go_ret
  all_goals exact ⟨⟨_,rfl⟩,Kaa HX.out HB3.out⟩
 have a4b : decide ((5000 : Int) < n2) = false:=decide_eq_false a4
 clear a4
 by_cases a5 : (1000 : Int) < (ky.length : Int)
 ·have a5b : decide ((1000 : Int) < (ky.length : Int)) = true:=decide_eq_true a5
  clear a5
  go_enter Tryz.func10,Tryz.ntmps10
  go_wp2_with (first
   | ((with_reducible apply Kal);exact HLV.out;exact rfl;clear HLV)
   | (go_at_call 32
      (
       refine HZ.out.mono ?_
       rintro e W2 ⟨rfl,hb⟩
       have c4:=Kae hb (ltOf HC.out.1) HC.out.1
       have c5:=Kae hb (ltOf HC.out.2.1) HC.out.2.1
       have c6:=Kae hb (ltOf HC.out.2.2) HC.out.2.2
       have HV2:=yh (HV.out W2 hb)
       have HB:=yh hb
       clear hb HZ))
   | (go_at_call 31
      (
       refine HV2.out.mono ?_
       rintro e W3 ⟨⟨bh,rfl⟩,hb⟩
       have c4':=Kae hb (ltOf c4) c4
       have HB3:=yh (Kaa HB.out hb)
       clear hb HV2
       cases bh)))
  all_goals go_ret
  all_goals exact ⟨⟨_,rfl⟩,Kaa HX.out HB3.out⟩
 have a5b : decide ((1000 : Int) < (ky.length : Int)) = false:=decide_eq_false a5
 clear a5
 go_enter Tryz.func10,Tryz.ntmps10
 go_wp2_with (first
  | ((with_reducible apply Kal);exact HLV.out;exact rfl;clear HLV)
  | (go_at_call 32
     (
      refine HZ.out.mono ?_
      rintro e W2 ⟨rfl,hb⟩
      have c4:=Kae hb (ltOf HC.out.1) HC.out.1
      have c5:=Kae hb (ltOf HC.out.2.1) HC.out.2.1
      have c6:=Kae hb (ltOf HC.out.2.2) HC.out.2.2
      have HV2:=yh (HV.out W2 hb)
      have HB:=yh hb
      clear hb HZ))
  | (go_at_call 31
     (
      refine HV2.out.mono ?_
      rintro e W3 ⟨⟨bh,rfl⟩,hb⟩
      have c4':=Kae hb (ltOf c4) c4
      have HB3:=yh (Kaa HB.out hb)
      clear hb HV2
      cases bh)))
 all_goals go_ret
 all_goals exact ⟨⟨_,rfl⟩,Kaa HX.out HB3.out⟩
structure LQN (w W : World) (p : Option Addr) (s : StepD) (z : Array Value) : Prop where
 b1 : Lies w.heap.size 33 z W
 ng : NoG W p
 sx : SpRd W s z
 b : Below w.heap.size w W
theorem LQN.below {w W W' : World} {p : Option Addr} {s : StepD} {z : Array Value} (h : LQN w W p s z) (k : Below W.heap.size W W') : LQN w W' p s z:=⟨h.b1.below k,h.ng.below k,h.sx.below k,Kaa h.b k⟩
theorem LQN.start {w : World} {p : Option Addr} {s : StepD} {z : Array Value} (h1 : NoG w p) (h2 : SpRd w s z) : LQN w (w.alloc (.cells z 33)) p s z :=
 ⟨heap_alloc_new w _,h1.below (Kad _),h2.below (Kad _),Kad _⟩
theorem SpRd.vcells {W : World} {s : StepD} {x : Array Value} {g : Nat} (h : SpRd W s x) (hb : W.heap[g]? = some (.cells x 33 (0,0))) :
 ∃ pk ck pv cv,W.cell? ⟨g,7,none⟩ = some (.int .i64 s.val.kind) ∧ W.cell? ⟨g,8,none⟩ = some (.bool s.val.b) ∧ W.cell? ⟨g,9,none⟩ = some (.int .i64 s.val.n) ∧ W.cell? ⟨g,10,none⟩ = some (.string (strB s.val.text)) ∧ W.cell? ⟨g,11,none⟩ = some (.slice pk s.val.keys.length ck) ∧ W.cell? ⟨g,12,none⟩ = some (.slice pv s.val.list.length cv) ∧
  VRd W s.val #[.int .i64 s.val.kind,.bool s.val.b,.int .i64 s.val.n,.string (strB s.val.text),.slice pk s.val.keys.length ck,.slice pv s.val.list.length cv]:=by
 obtain ⟨pl,cl,pp,cp,y,rfl,h1,h2,h3,h4⟩:=h
 have hv:=h4
 obtain ⟨pk,ck,pv,cv,rfl,_⟩:=h4.open
 exact ⟨pk,ck,pv,cv,Kac (o:=7) hb rfl,Kac (o:=8) hb rfl,Kac (o:=9) hb rfl,Kac (o:=10) hb rfl,Kac (o:=11) hb rfl,Kac (o:=12) hb rfl,hv⟩
theorem gr0_rd (W : World) : GrRd W graph0 #[.slice none 0 0,.slice none 0 0,.int .i64 0,.int .i64 0] :=
 ⟨none,0,none,0,rfl,⟨⟨Nat.le_refl _,by simp [graph0],fun _=>rfl⟩,fun ad had=>by cases had⟩,⟨⟨Nat.le_refl _,by simp [graph0],fun _=>rfl⟩,fun ad had=>by cases had⟩⟩
theorem nothing_any {w : World} {p : Option Addr} {s : StepD} {z : Array Value} (h1 : NoG w p) (h2 : SpRd w s z) : Calls Tryz.prog 23 #[.pointer p,.agg z] w fun e w'=>e = .returned (.bool true) ∧ Below w.heap.size w w':=by
 have HQ:=yh (LQN.start h1 h2)
 clear h1 h2
 obtain ⟨q0,q1,q2,q3,q4,⟨pl,cl,q5,_⟩,⟨pp,cp,q6,_⟩,_,_,_⟩:=HQ.out.sx.cells HQ.out.b1
 obtain ⟨pk,ck,pv,cv,v0,v1,v2,v3,v4,v5,_⟩:=HQ.out.sx.vcells HQ.out.b1
 have K1:=yh True.intro
 have K2:=yh True.intro
 have K3:=yh True.intro
 have K4:=yh True.intro
 have K5:=yh True.intro
 have K6:=yh True.intro
 have K7:=yh True.intro
 have K8:=yh True.intro
 have K9:=yh True.intro
 have K10:=yh True.intro
 have K11:=yh True.intro
 have K12:=yh True.intro
 have K13:=yh True.intro
 have K14:=yh True.intro
 have K15:=yh True.intro
 go_enter Tryz.func23,Tryz.ntmps23
 go_wp2_with (first
  | ((with_reducible apply Kam);exact HST.out _ rfl;exact rfl;exact rfl;clear HST)
  | (go_at_call 15
     (
      have hk9:=K1.out
      refine (addNode_none HQ.out.ng _ _).mono ?_
      rintro e w9 ⟨rfl,hw⟩
      have hw:=hw.symm
      subst hw
      clear hk9 K1))
  | (go_at_call 37
     (
      have hk9:=K2.out
      refine (addRel_none HQ.out.ng _ _ _ _).mono ?_
      rintro e w9 ⟨rfl,hw⟩
      have hw:=hw.symm
      subst hw
      clear hk9 K2))
  | (go_at_call 67
     (
      have hk9:=K3.out
      refine (node_none HQ.out.ng _).mono ?_
      rintro e w9 ⟨rfl,hb⟩
      replace HQ:=yh (HQ.out.below hb)
      clear q0 q1 q2 q3 q4 q5 q6 v0 v1 v2 v3 v4 v5
      obtain ⟨q0,q1,q2,q3,q4,⟨pl,cl,q5,_⟩,⟨pp,cp,q6,_⟩,_,_,_⟩:=HQ.out.sx.cells HQ.out.b1
      obtain ⟨pk,ck,pv,cv,v0,v1,v2,v3,v4,v5,_⟩:=HQ.out.sx.vcells HQ.out.b1
      clear hb
      have HST:=yh (StT.fresh (P:=Tryz.prog) (W:=w9) Kbc (cs:=#[.int .i64 0,.slice none 0 0,.slice none 0 0]) rfl (by simp [Value.oneCell']))
      replace HQ:=yh (HQ.out.below (Kad (w:=w9) (.cells #[.int .i64 0,.slice none 0 0,.slice none 0 0] 45)))
      clear q0 q1 q2 q3 q4 q5 q6 v0 v1 v2 v3 v4 v5
      obtain ⟨q0,q1,q2,q3,q4,⟨pl,cl,q5,_⟩,⟨pp,cp,q6,_⟩,_,_,_⟩:=HQ.out.sx.cells HQ.out.b1
      obtain ⟨pk,ck,pv,cv,v0,v1,v2,v3,v4,v5,_⟩:=HQ.out.sx.vcells HQ.out.b1
      clear hk9 K3))
  | (go_at_call 68
     (
      have hk9:=K4.out
      refine (rel_none HQ.out.ng _).mono ?_
      rintro e w9 ⟨rfl,hb⟩
      replace HQ:=yh (HQ.out.below hb)
      clear q0 q1 q2 q3 q4 q5 q6 v0 v1 v2 v3 v4 v5
      obtain ⟨q0,q1,q2,q3,q4,⟨pl,cl,q5,_⟩,⟨pp,cp,q6,_⟩,_,_,_⟩:=HQ.out.sx.cells HQ.out.b1
      obtain ⟨pk,ck,pv,cv,v0,v1,v2,v3,v4,v5,_⟩:=HQ.out.sx.vcells HQ.out.b1
      clear hb
      have HST:=yh (StT.fresh (P:=Tryz.prog) (W:=w9) Kb1 (cs:=#[.int .i64 0,.int .i64 0,.int .i64 0,.string ⟨#[]⟩,.slice none 0 0]) rfl (by simp [Value.oneCell']))
      replace HQ:=yh (HQ.out.below (Kad (w:=w9) (.cells #[.int .i64 0,.int .i64 0,.int .i64 0,.string ⟨#[]⟩,.slice none 0 0] 49)))
      clear q0 q1 q2 q3 q4 q5 q6 v0 v1 v2 v3 v4 v5
      obtain ⟨q0,q1,q2,q3,q4,⟨pl,cl,q5,_⟩,⟨pp,cp,q6,_⟩,_,_,_⟩:=HQ.out.sx.cells HQ.out.b1
      obtain ⟨pk,ck,pv,cv,v0,v1,v2,v3,v4,v5,_⟩:=HQ.out.sx.vcells HQ.out.b1
      clear hk9 K4))
  | (go_at_call 62
     (
      have hk9:=K5.out
      refine (setProp_none HQ.out.ng _ _ _ _).mono ?_
      rintro e w9 ⟨rfl,hb⟩
      replace HQ:=yh (HQ.out.below hb)
      clear q0 q1 q2 q3 q4 q5 q6 v0 v1 v2 v3 v4 v5
      obtain ⟨q0,q1,q2,q3,q4,⟨pl,cl,q5,_⟩,⟨pp,cp,q6,_⟩,_,_,_⟩:=HQ.out.sx.cells HQ.out.b1
      obtain ⟨pk,ck,pv,cv,v0,v1,v2,v3,v4,v5,_⟩:=HQ.out.sx.vcells HQ.out.b1
      clear hb
      clear hk9 K5))
  | (go_at_call 64
     (
      have hk9:=K6.out
      refine (setLabel_none HQ.out.ng _ _ _).mono ?_
      rintro e w9 ⟨rfl,hw⟩
      have hw:=hw.symm
      subst hw
      clear hk9 K6))
  | (go_at_call 38
     (
      have hk9:=K7.out
      refine (drop_none HQ.out.ng _ _).mono ?_
      rintro e w9 ⟨rfl,hw⟩
      have hw:=hw.symm
      subst hw
      clear hk9 K7))
  | (go_at_call 27
     (
      have hk9:=K8.out
      refine (there_none HQ.out.ng).mono ?_
      rintro e w9 ⟨rfl,hw⟩
      have hw:=hw.symm
      subst hw
      clear hk9 K8))
  | (go_at_call 16
     (
      have hk9:=K9.out
      refine (tell_none HQ.out.ng).mono ?_
      rintro e w9 ⟨rfl,hb⟩
      replace HQ:=yh (HQ.out.below hb)
      clear q0 q1 q2 q3 q4 q5 q6 v0 v1 v2 v3 v4 v5
      obtain ⟨q0,q1,q2,q3,q4,⟨pl,cl,q5,_⟩,⟨pp,cp,q6,_⟩,_,_,_⟩:=HQ.out.sx.cells HQ.out.b1
      obtain ⟨pk,ck,pv,cv,v0,v1,v2,v3,v4,v5,_⟩:=HQ.out.sx.vcells HQ.out.b1
      clear hb
      clear hk9 K9))
  | (go_at_call 20
     (
      have hk9:=K10.out
      refine (copyM_none HQ.out.ng).mono ?_
      rintro e w9 ⟨rfl,hw⟩
      have hw:=hw.symm
      subst hw
      clear hk9 K10))
  | (go_at_call 17
     (
      have hk9:=K11.out
      have hs:=sameRefG_any (gr0_rd w9) (gr0_rd w9)
      rw [(sameGQ_iff graph0 graph0).2 rfl] at hs
      refine hs.mono ?_
      rintro e w9 ⟨rfl,hb⟩
      replace HQ:=yh (HQ.out.below hb)
      clear q0 q1 q2 q3 q4 q5 q6 v0 v1 v2 v3 v4 v5
      obtain ⟨q0,q1,q2,q3,q4,⟨pl,cl,q5,_⟩,⟨pp,cp,q6,_⟩,_,_,_⟩:=HQ.out.sx.cells HQ.out.b1
      obtain ⟨pk,ck,pv,cv,v0,v1,v2,v3,v4,v5,_⟩:=HQ.out.sx.vcells HQ.out.b1
      clear hb hs hk9 K11))
  | (go_at_call 70
     (
      have hk9:=K12.out
      refine (list_none HQ.out.ng).mono ?_
      rintro e w9 ⟨ql,dl,rfl,hb⟩
      replace HQ:=yh (HQ.out.below hb)
      clear q0 q1 q2 q3 q4 q5 q6 v0 v1 v2 v3 v4 v5
      obtain ⟨q0,q1,q2,q3,q4,⟨pl,cl,q5,_⟩,⟨pp,cp,q6,_⟩,_,_,_⟩:=HQ.out.sx.cells HQ.out.b1
      obtain ⟨pk,ck,pv,cv,v0,v1,v2,v3,v4,v5,_⟩:=HQ.out.sx.vcells HQ.out.b1
      clear hb
      clear hk9 K12))
  | (go_at_call 73
     (
      have hk9:=K13.out
      refine (labelled_none _ HQ.out.ng).mono ?_
      rintro e w9 ⟨qm,dm,rfl,hb⟩
      replace HQ:=yh (HQ.out.below hb)
      clear q0 q1 q2 q3 q4 q5 q6 v0 v1 v2 v3 v4 v5
      obtain ⟨q0,q1,q2,q3,q4,⟨pl,cl,q5,_⟩,⟨pp,cp,q6,_⟩,_,_,_⟩:=HQ.out.sx.cells HQ.out.b1
      obtain ⟨pk,ck,pv,cv,v0,v1,v2,v3,v4,v5,_⟩:=HQ.out.sx.vcells HQ.out.b1
      clear hb
      clear hk9 K13))
  | (go_at_call 75
     (
      have hk9:=K14.out
      refine (rels_none HQ.out.ng _ 0).mono ?_
      rintro e w9 ⟨rfl,hw⟩
      have hw:=hw.symm
      subst hw
      clear hk9 K14)))
 go_ret
 exact ⟨rfl,HQ.out.b⟩
theorem gnil_any {w : World} (hE : Env w) {s : StepD} {z : Array Value} (h2 : SpRd w s z) (k2 : SOk s) : Calls Tryz.prog 6 #[.agg z] w fun e w'=>e = .returned (.bool true) ∧ Below w.heap.size w w':=by
 have HQ:=yh (LQN.start (p:=none) (.inl rfl) h2)
 have HE:=yh hE
 have HK:=yh k2
 clear h2 hE k2
 have K1:=yh True.intro
 have K2:=yh True.intro
 have K3:=yh True.intro
 go_enter Tryz.func6,Tryz.ntmps6
 go_wp2_with (first
  | ((with_reducible apply Kal);exact StT.get st_step (ef_step.size HQ.out.sx) HQ.out.b1;exact rfl)
  | ((with_reducible apply op_loadH);exact StT.get st_step (ef_step.size HQ.out.sx) HQ.out.b1;exact rfl;exact rfl)
  | (go_at_call 10
     (
      have hk9:=K1.out
      refine (big_any HQ.out.sx HK.out).mono ?_
      rintro e w1 ⟨⟨bg,rfl⟩,hb⟩
      replace HQ:=yh (HQ.out.below hb)
      clear hb hk9 K1
      cases bg))
  | (go_at_call 23
     (
      have hk9:=K2.out
      refine (nothing_any (.inl rfl) HQ.out.sx).mono ?_
      rintro e w2 ⟨rfl,hb⟩
      have hb2:=Kaa hb (Kad (w:=w2) (.cells zeroGB 72))
      have HG:=yh (show NoG (w2.alloc (.cells zeroGB 72)) (some ⟨w2.heap.size,0,none⟩) from .inr ⟨_,rfl,heap_alloc_new w2 _⟩)
      unfold zeroGB at hb2 HG
      replace HQ:=yh (HQ.out.below hb2)
      clear hb hb2 hk9 K2))
  | (go_at_call 23
     (
      have hk9:=K3.out
      refine (nothing_any HG.out HQ.out.sx).mono ?_
      rintro e w3 ⟨rfl,hb⟩
      replace HQ:=yh (HQ.out.below hb)
      clear hb hk9 K3 HG))
  | (go_at_call 12;refine (known_any (HE.out.b HQ.out.b)).mono ?_;rintro e wk ⟨rfl,hb⟩;have HKB:=yh (Kaa HQ.out.b hb);clear hb))
 all_goals (go_ret;exact ⟨rfl,HKB.out⟩)
end Go.Proofs.YtihfnegakcghiaaGreatDoor
namespace Go.Proofs.YtihfnegakcghiaaGreatDoor
open Go.ChangeShapes Go.WideShapes Go.ChangeAt Go.RowKit Go.Joins
open _root_.Go.Proofs.YtihfnegakcghiaaGreatDoor.Rows (uptoBulk uptoBulkAll)
section
variable {H : Type} {enc : TypeId × Value → H} {w : World} {base : Nat} {held : Bool}
theorem cellsS : Tryz.prog.cellsOf 33 = 13:=by kernel_rfl
theorem cellsI : Tryz.prog.cellsOf 3 = 1:=by kernel_rfl
instance : Inhabited StepD:=⟨⟨0,0,0,false,[],[],[],.mk 0 false 0 [] [] []⟩⟩
def rngS (s : StepD) : Prop:=i64T s.kind ∧ i64T s.id ∧ i64T s.tgt
theorem step_ofU (fuel : Nat) (cs : List Value) (x : DataW H × List MemPlace) (h : DataW.trod enc Tryz.prog w base (fun _=>true) held fuel 33 cs = some x) (hf : Fits 33 x.1) : ∃ v,SpRd w v cs.toArray ∧ rngS v ∧ (uptoBulk x.1 ≤ 1048576 → SOk v):=by
 obtain ⟨xs,n,rfl,rfl,hl,hlen,hfl⟩:=DataW.trod_struct Tryz.underlying33 h
 rw [cellsS] at hl
 match xs,hlen with
 | [y0,y1,y2,y3,y4,y5,y6,y7],_ =>
   match cs,hl with
   | [c0,c1,c2,c3,c4,c5,c6,c7,c8,c9,c10,c11,c12],_ =>
     have k0:=hfl 0 _ rfl
     have k1:=hfl 1 _ rfl
     have k2:=hfl 2 _ rfl
     have k3:=hfl 3 _ rfl
     have k4:=hfl 4 _ rfl
     have k5:=hfl 5 _ rfl
     have k6:=hfl 6 _ rfl
     have k7:=hfl 7 _ rfl
     simp only [cells2,cells4,cells9,cells23,cells26,cellsI,cellsPs,List.drop_zero,List.drop_succ_cons,List.take_succ_cons,List.take_zero,List.getElem?_cons_zero,List.getElem?_cons_succ] at k0 k1 k2 k3 k4 k5 k6 k7
     have hw : Fits 9 y4.1 ∧ Fits 26 y5.1 ∧ Fits 27 y6.1 ∧ Fits 31 y7.1:=by
      unfold Fits at hf
      rw [DataW.weights,Tryz.underlying33] at hf
      simp only [List.map_cons,List.map_nil,DataW.weightsEach,List.append_nil,List.mem_append] at hf
      exact ⟨fun n hn=>hf n (by simp [hn]),fun n hn=>hf n (by simp [hn]),fun n hn=>hf n (by simp [hn]),fun n hn=>hf n (by simp [hn])⟩
     obtain ⟨i0,e0,_,r0⟩:=DataW.trod_int Tryz.underlying3 k0
     obtain ⟨i1,e1,_,r1⟩:=DataW.trod_int Tryz.underlying2 k1
     obtain ⟨i2,e2,_,r2⟩:=DataW.trod_int Tryz.underlying2 k2
     obtain ⟨b3,e3,_⟩:=DataW.trod_bool Tryz.underlying4 k3
     obtain ⟨s,e4,e4',_⟩:=DataW.trod_string Tryz.underlying9 k4
     obtain ⟨pk,ck,ks,rfl,hks,hkb⟩:=keys_ofU k5 hw.2.1
     obtain ⟨pp,cp,ps,rfl,hps,hpr,hpk⟩:=props_ofU k6 hw.2.2.1
     obtain ⟨v,hv1,hv2,hv3⟩:=value_ofU _ _ _ k7 hw.2.2.2
     obtain rfl : c0 = _:=(List.cons.inj e0).1
     obtain rfl : c1 = _:=(List.cons.inj e1).1
     obtain rfl : c2 = _:=(List.cons.inj e2).1
     obtain rfl : c3 = _:=(List.cons.inj e3).1
     obtain rfl : c4 = _:=(List.cons.inj e4).1
     have hs:=hw.1
     rw [e4'] at hs
     have ht:=Kdg hs
     have hb4 : uptoBulk y4.1 = s.data.toList.length + 1:=by rw [e4',bulk_str]
     refine ⟨⟨i0,i1,i2,b3,s.data.toList,ks,ps,v⟩,⟨pk,ck,pp,cp,#[c7,c8,c9,c10,c11,c12],by unfold stepX;rw [strB_back];rfl,by simp only;omega,hks,hps,hv1⟩,⟨int_rng r0,int_rng r1,int_rng r2⟩,fun hb0=>?_⟩
     have hb:=bulk_agg ([y0,y1,y2,y3,y4,y5,y6,y7].map (·.1))
     have hb0 : uptoBulk (DataW.agg ([y0,y1,y2,y3,y4,y5,y6,y7].map (·.1))) ≤ 1048576:=hb0
     simp only [List.map_cons,List.map_nil,uptoBulkAll] at hb hb0
     exact ⟨by simp only;omega,hpk (by omega),by simp only;omega,by simp only;omega⟩
theorem step_inU {r : Reach} {b0 : Nat} {v : Value} {d : DataW H} {p : List MemPlace} (hv : Value.okWide Tryz.prog w r b0 33 v) (h : DataW.Trod enc Tryz.prog w base (fun _=>true) held 33 v d p) (hf : Fits 33 d) :
 ∃ u x,v = .agg x ∧ SpRd w u x ∧ rngS u ∧ (uptoBulk d ≤ 1048576 → SOk u):=by
 obtain ⟨cs,rfl,_⟩:=okWide_struct Tryz.underlying33 hv
 obtain ⟨fuel,h⟩:=h
 obtain ⟨u,h1,h2⟩:=step_ofU fuel _ _ h hf
 exact ⟨u,cs,rfl,by simpa [Value.cells] using h1,h2⟩
end
end Go.Proofs.YtihfnegakcghiaaGreatDoor
namespace Go.Proofs.YtihfnegakcghiaaGreatDoor
open Go.ChangeShapes Go.WideShapes Go.ChangeAt Go.RowKit Go.Joins
theorem graphNil_reads (os : Os) {H : Type} (enc : TypeId × Value → H) : ∃ x : List (DataW H) × List (DataW H) × List MemPlace,DataW.whole enc Tryz.checked.prog ((World.laidAll Tryz.prog os LD).forCall (fun _ _=>0) ⟨#[],#[.agg #[.int .i64 0,.int .i64 0,.int .i64 0,.bool false,.string ⟨#[]⟩,.slice none 0 0,.slice none 0 0,.int .i64 0,.bool false,.int .i64 0,.string ⟨#[]⟩,.slice none 0 0,.slice none 0 0]],[]⟩).memory Tryz.f6.params.toList (Rows.OpenSpec.upto Rows.graphNilSpec).vars false #[.agg #[.int .i64 0,.int .i64 0,.int .i64 0,.bool false,.string ⟨#[]⟩,.slice none 0 0,.slice none 0 0,.int .i64 0,.bool false,.int .i64 0,.string ⟨#[]⟩,.slice none 0 0,.slice none 0 0]].toList 8 = some x ∧ Rows.uptoSmall H (x.1 ++ x.2.1) = true:=by
 refine ⟨([.agg [.lit (.int .i64 0),.lit (.int .i64 0),.lit (.int .i64 0),.lit (.bool false),.lit (.string []),.nil,.nil,.agg [.lit (.int .i64 0),.lit (.bool false),.lit (.int .i64 0),.lit (.string []),.nil,.nil]]],[],[]),?_,?_⟩
 ·kernel_rfl
 ·kernel_rfl
theorem graphNil_lifted (os : Os) (started : os.Started) (H : Type) (enc : TypeId × Value → H) (F : Stop.Interp) :
 ReturnsInHanded {} Tryz.checked os 6 .any ((Rows.OpenSpec.upto Rows.graphNilSpec).preRow enc Tryz.prog Tryz.f6 [] false LD) (((Rows.OpenSpec.upto Rows.graphNilSpec).at F).post enc Tryz.prog Tryz.f6 false true false false):=by
 obtain ⟨xr,hxr,hsm⟩:=graphNil_reads os enc
 refine returns_upto started (by kernel_rfl) Tryz.func6 #[.agg #[.int .i64 0,.int .i64 0,.int .i64 0,.bool false,.string ⟨#[]⟩,.slice none 0 0,.slice none 0 0,.int .i64 0,.bool false,.int .i64 0,.string ⟨#[]⟩,.slice none 0 0,.slice none 0 0]] (by kernel_rfl) (by kernel_rfl) (by kernel_rfl) hxr hsm (by kernel_rfl) (wit_laid _ _) ?_
 intro W base args ds gs before hval0 hW hbk hz hE
 have hval : ∀ (j : Nat) t v,Tryz.f6.params[j]? = some t → args[j]? = some v → Value.okWide Tryz.prog W .any base t v:=hval0
 have hW':=hW
 obtain ⟨p,q,hA0,hV,rfl,hfz,hnd⟩:=hW
 have hA : DataW.TrodAll enc Tryz.prog W 0 (fun _=>true) true Tryz.f6.params.toList args.toList ds p:=hA0
 rw [Tryz.params6] at hA hval
 obtain ⟨v0,vs0,d0,ds0,p0,q0,hargs,rfl,rfl,h0,r0⟩:=trodAll_cons hA
 obtain ⟨rfl,rfl,rfl⟩:=trodAll_nil r0
 obtain ⟨rfl,rfl⟩:=trodVars_none hV
 obtain rfl : args = #[v0]:=by cases args;simp_all
 rw [Tryz.params6] at hz
 simp only [List.append_nil,Rows.uptoBulkAll] at hbk
 have z0:=fits_one hz
 obtain ⟨a0,x0,rfl,hx0,hr0,hk0⟩:=step_inU (hval 0 33 v0 rfl rfl) h0 z0
 have hk0:=hk0 (by omega)
 clear hA0 hval0
 refine (gnil_any hE hx0 hk0).mono fun e W' ⟨he,hg⟩=>?_
 subst he
 exact ⟨_,rfl,law_post laidT (by decide +kernel) Tryz.underlying4 (by kernel_rfl) rfl hW' rfl hg⟩
theorem graphNil_row : Rows.GraphNilUptoSaid :=
 OpenClaim.holds_of_cond 6 Tryz.f6 rfl rfl rfl rfl rfl rfl rfl ⟨rfl,rfl,rfl,rfl,rfl⟩ rfl rfl rfl rfl rfl (by kernel_rfl) Tryz.func6 (by kernel_rfl)
  (of_decide_eq_true (by kernel_rfl)) (by unfold Func.isWrapper;first | (rw [if_pos (by decide +kernel)];kernel_rfl) | (rw [if_neg (by decide +kernel)];exact ⟨rfl,rfl⟩))
  (fun os started H enc _ F=>by rw [OpenClaim.pre_eq_preRow];exact graphNil_lifted os started H enc F)
theorem gnil_law_holds : Rows.GraphNilUptoCardSaid :=
 Claim7.holds_tied_plain_at .later [] _ _ _ _
  graphNil_row (fun _ h=>by cases h) (by kernel_rfl) (fun _ h=>by cases h) graphNilUpto_row_tie rfl ⟨rfl,rfl⟩ (by kernel_rfl) rfl
  (fun f fn hf hfn=>by
    obtain rfl : f = 6 := Option.some.inj ((show Tryz.prog.funcNamed "lattice/latticelaw05.GraphNil" = some 6 by kernel_rfl).symm.trans hf) |>.symm
    obtain rfl : fn = Tryz.f6:=(Option.some.inj (Tryz.func6.symm.trans hfn)).symm
    exact ⟨by kernel_rfl,fun j t ht=>by
     rw [Tryz.params6] at ht
     have hm : t ∈ [33]:=by simpa using Array.mem_of_getElem? ht
     have hall : ([33].all fun u=>!Tryz.prog.wantsStandIn u) = true:=by kernel_rfl
     exact (show Tryz.prog.wantsStandIn t = false by simpa using List.all_eq_true.1 hall t hm)⟩)
  (by kernel_rfl)
#print axioms gnil_law_holds
end Go.Proofs.YtihfnegakcghiaaGreatDoor
