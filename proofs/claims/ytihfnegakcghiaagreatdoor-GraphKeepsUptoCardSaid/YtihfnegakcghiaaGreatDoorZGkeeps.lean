/- GraphKeeps, for what is of bulk at most 1048576: the law returns true, and the arguments read as they did. The listed tables of Go's library read as the program's text lays them. -/
import Derived.Test.YtihfnegakcghiaaGreatDoorZGkeepsa
import Derived.Test.YtihfnegakcghiaaGreatDoorZGkeepsb
import Derived.Test.YtihfnegakcghiaaGreatDoorZGkeepsd
import Derived.Test.YtihfnegakcghiaaGreatDoorCards
import Derived.Test.YtihfnegakcghiaaGreatDoorTie
set_option linter.unusedSimpArgs false
set_option linter.unusedVariables false
set_option linter.unnecessarySimpa false
set_option maxRecDepth 100000
set_option maxHeartbeats 64000000
namespace Go.Proofs.YtihfnegakcghiaaGreatDoor
open Go.RowKit
theorem nes_bytesD (a b : List UInt8) (W : World) : (binOp .neq 9 (.string (strB a)) (.string (strB b))).run Tryz.prog W = .ok (.bool (!decide (a = b))) W:=by
 have e : (strB a = strB b) ↔ a = b:=strB_inj
 by_cases h : a = b
 ·subst h;simp [go_sem]
 ·rw [decide_eq_false h]
  simp [go_sem,Kaw,h]
theorem alikeD_any : ∀ (v u : V) (w : World) (x y : Array Value),VRd w v x → VRd w u y →
 Calls Tryz.prog 166 #[.agg x,.agg y] w fun e w'=>e = .returned (.bool (Kcs v u)) ∧ Below w.heap.size w w':=by
 refine V.ind fun k b n t ks l ih=>?_
 intro u w x y hx hy
 cases u with
 | mk k' b' n' t' ks' l' =>
 have hal : Kcs (.mk k b n t ks l) (.mk k' b' n' t' ks' l') = (decide (k = k') && decide (b = b') && decide (n = n') && decide (t = t') && decide (ks = ks') && Kdi l l'):=by rw [Kcs];rfl
 rw [hal]
 clear hal
 obtain ⟨pk,ck,pl,cl,rfl,htx,hk1,hl1⟩:=Kbz.1 hx
 obtain ⟨qk,dk,ql,dl,rfl,hty,hk2,hl2⟩:=Kbz.1 hy
 clear hx hy
 have z1 : (ks.length : Int) ≤ 140737488355328:=by have:=hk1.2.1.1;omega
 have z2 : (l.length : Int) ≤ 140737488355328:=by have:=hl1.1.2.1.1;omega
 have z3 : (ks'.length : Int) ≤ 140737488355328:=by have:=hk2.2.1.1;omega
 have z4 : (l'.length : Int) ≤ 140737488355328:=by have:=hl2.1.2.1.1;omega
 have hb1:=Kai (w:=w) (.cells #[.int .i64 k,.bool b,.int .i64 n,.string (strB t),.slice pk ks.length ck,.slice pl l.length cl] 31)
 have hb2:=Kai (w:=w.alloc (.cells #[.int .i64 k,.bool b,.int .i64 n,.string (strB t),.slice pk ks.length ck,.slice pl l.length cl] 31)) (.cells #[.int .i64 k',.bool b',.int .i64 n',.string (strB t'),.slice qk ks'.length dk,.slice ql l'.length dl] 31)
 have hbc : Below w.heap.size w ((w.alloc (.cells #[.int .i64 k,.bool b,.int .i64 n,.string (strB t),.slice pk ks.length ck,.slice pl l.length cl] 31)).alloc (.cells #[.int .i64 k',.bool b',.int .i64 n',.string (strB t'),.slice qk ks'.length dk,.slice ql l'.length dl] 31)):=Kaa hb1 hb2
 have hx8:=Kal hb2 (by simp) (heap_alloc_new w (.cells #[.int .i64 k,.bool b,.int .i64 n,.string (strB t),.slice pk ks.length ck,.slice pl l.length cl] 31))
 have hx9:=heap_alloc_new (w.alloc (.cells #[.int .i64 k,.bool b,.int .i64 n,.string (strB t),.slice pk ks.length ck,.slice pl l.length cl] 31)) (.cells #[.int .i64 k',.bool b',.int .i64 n',.string (strB t'),.slice qk ks'.length dk,.slice ql l'.length dl] 31)
 simp only [World.size_alloc] at hx9
 have HG:=yh (And.intro hx8 hx9)
 have HB:=yh hbc
 have HIH:=yh (fun (a : V) (ha : a ∈ l)=>ih a ha)
 have HK1:=yh (hk1.below hbc)
 have HK2:=yh (hk2.below hbc)
 have HL1:=yh (hl1.below hbc)
 have HL2:=yh (hl2.below hbc)
 clear ih hk1 hk2 hl1 hl2 hb1 hb2 hbc hx8 hx9 htx hty
 by_cases h0 : k = k'
 rotate_left
 ·have f0 : (k != k') = true:=by rw [bne_iff_ne];exact h0
  have HNE:=yh h0
  clear h0
  go_enter Tryz.func166,Tryz.ntmps166
  go_wp2
  go_ret
  exact ⟨by simp [HNE.out],HB.out⟩
 subst h0
 by_cases h1 : b = b'
 rotate_left
 ·have HNE:=yh h1
  cases b <;> cases b' <;> first | exact absurd rfl h1 | skip
  all_goals
   clear h1
   go_enter Tryz.func166,Tryz.ntmps166
   go_wp2
   go_ret
   exact ⟨by simp [HNE.out],HB.out⟩
 subst h1
 by_cases h2 : n = n'
 rotate_left
 ·have f0 : (n != n') = true:=by rw [bne_iff_ne];exact h2
  have HNE:=yh h2
  clear h2
  go_enter Tryz.func166,Tryz.ntmps166
  go_wp2
  go_ret
  exact ⟨by simp [HNE.out],HB.out⟩
 subst h2
 by_cases h3 : t = t'
 rotate_left
 ·have f0 : ((strB t).toList == (strB t').toList) = false:=by rw [Kaw,Kaw,beq_eq_false_iff_ne];exact h3
  have f1 : ((strB t).toList != (strB t').toList) = true:=by rw [bne,f0];rfl
  have HNE:=yh h3
  clear h3
  generalize strB t = s1 at *
  generalize strB t' = s2 at *
  go_enter Tryz.func166,Tryz.ntmps166
  go_wp2
  go_ret
  exact ⟨by simp [HNE.out],HB.out⟩
 subst h3
 by_cases h4 : ks.length = ks'.length
 rotate_left
 ·have f0 : ((ks.length : Int) != (ks'.length : Int)) = true:=by rw [bne_iff_ne];omega
  have HNE:=yh (show ¬ ks = ks' from fun e=>h4 (by rw [e]))
  clear h4
  go_enter Tryz.func166,Tryz.ntmps166
  go_wp2
  go_ret
  exact ⟨by simp [HNE.out],HB.out⟩
 by_cases h5 : l.length = l'.length
 rotate_left
 ·have f0 : ((l.length : Int) != (l'.length : Int)) = true:=by rw [bne_iff_ne];omega
  have HNE:=yh (show Kdi l l' = false from by rw [Kde,all2_ne h5])
  have f1 : ((ks.length : Int) != (ks'.length : Int)) = false:=by rw [h4];simp
  clear h5 h4
  go_enter Tryz.func166,Tryz.ntmps166
  go_wp2
  go_ret
  exact ⟨by simp [HNE.out],HB.out⟩
 have f0 : ((ks.length : Int) != (ks'.length : Int)) = false:=by rw [h4];simp
 have f1 : ((l.length : Int) != (l'.length : Int)) = false:=by rw [h5];simp
 have HLK:=yh h4
 have HLL:=yh h5
 clear h4 h5
 simp only [decide_true,Bool.true_and]
 go_enter Tryz.func166,Tryz.ntmps166
 go_wp2
 generalize hW0 : (w.alloc (.cells #[.int .i64 k,.bool b,.int .i64 n,.string (strB t),.slice pk ks.length ck,.slice pl l.length cl] 31)).alloc (.cells #[.int .i64 k,.bool b,.int .i64 n,.string (strB t),.slice qk ks'.length dk,.slice ql l'.length dl] 31) = W0 at *
 clear hW0
 go_loopw [5] (fun i W=>∃ j : Nat,j ≤ ks.length ∧ i = .int .i64 (j : Int) ∧ Hid (ks.take j = ks'.take j ∧ Below W0.heap.size W0 W)) (fun i _=>ks.length - (intOf i).toNat)
 case atStart=>exact ⟨0,Nat.zero_le _,rfl,yh ⟨by simp,Below.refl _ _⟩⟩
 case round =>
  obtain ⟨j,hj,rfl,HI⟩:=hrel
  obtain ⟨hg8,hg9⟩:=HG.out
  have p4:=Kag (o:=4) (Kal HI.out.2 (Array.getElem?_eq_some_iff.1 hg8).1 hg8) rfl
  clear hg8 hg9
  by_cases hlt : j < ks.length
  ·have hlt1 : j + 1 ≤ ks.length:=hlt
   have hlt2 : j < ks'.length:=by rw [← HLK.out];exact hlt
   obtain ⟨bk,ok,rfl,q0,_⟩:=HK1.out.get hlt
   obtain ⟨bk',ok',rfl,q1,_⟩:=HK2.out.get hlt2
   have hstep : ks[j] = ks'[j] → ks.take (j + 1) = ks'.take (j + 1):=fun e=>by rw [List.take_succ_eq_append_getElem hlt,List.take_succ_eq_append_getElem hlt2,HI.out.1,e]
   have hdiff : ks[j] ≠ ks'[j] → ks ≠ ks':=fun e e2=>by subst e2;exact e rfl
   have hnes:=nes_bytesD ks[j] ks'[j]
   generalize ks[j] = a1 at *
   generalize ks'[j] = a2 at *
   have hS0 : Below W0.heap.size W0 wr.drew:=HI.out.2.drew
   have hix : ∀ W' : World,(Instr.indexAt 26 (.slice (some ⟨bk,ok,none⟩) ks.length ck) (.int .i64 (j : Int))).run Tryz.prog W' = .ok (.pointer (some ⟨bk,ok + j,none⟩)) W':=by intro W';simp [go_sem,hlt]
   have hiy : ∀ W' : World,(Instr.indexAt 26 (.slice (some ⟨bk',ok',none⟩) ks'.length dk) (.int .i64 (j : Int))).run Tryz.prog W' = .ok (.pointer (some ⟨bk',ok' + j,none⟩)) W':=by intro W';simp [go_sem,hlt2]
   have hf4 : ∀ (g : Nat) (W' : World),(Instr.fieldAt 31 (.pointer (some ⟨g,0,none⟩)) 4).run Tryz.prog W' = .ok (.pointer (some ⟨g,4,none⟩)) W':=by intro g W';simp [go_sem]
   have HX:=yh (And.intro q0 (And.intro q1 (And.intro hstep (And.intro hdiff (And.intro hnes (And.intro hS0 (And.intro hix (And.intro hiy hf4))))))))
   clear q0 q1 hstep hdiff hnes hS0 hix hiy hf4 HI
   go_wp2
   obtain ⟨q0,q1,hstep,hdiff,hnes,hS0,hix,hiy,hf4⟩:=HX.out
   obtain ⟨hg8,hg9⟩:=HG.out
   refine Kah (fun W=>Below W0.heap.size W0 W) (by kernel_rfl) hS0 (fun hS=>?_)
   by_cases he : a1 = a2
   ·have hne : ∀ W,(binOp .neq 9 (.string (strB a1)) (.string (strB a2))).run Tryz.prog W = .ok (.bool false) W:=fun W=>by rw [hnes,decide_eq_true he];rfl
    refine tk 0 58 (v:=.pointer (some ⟨w.heap.size,4,none⟩)) rfl rfl (fun W hW=>Kac rfl rfl (hf4 _ W)) ?_
    simp only [Act.put,sA,sZ,sS]
    refine tk 1 59 (v:=.slice (some ⟨bk,ok,none⟩) ks.length ck) rfl rfl (fun W hW=>Kad rfl rfl (Kcf Tryz.underlying26 rfl hW hg8 rfl)) ?_
    simp only [Act.put,sA,sZ,sS]
    refine tk 2 60 (v:=.int .i64 (j : Int)) rfl rfl (fun W hW=>Kab rfl rfl) ?_
    simp only [Act.put,sA,sZ,sS]
    refine tk 3 61 (v:=.pointer (some ⟨bk,ok + j,none⟩)) rfl rfl (fun W hW=>Kaj rfl rfl rfl (hix W)) ?_
    simp only [Act.put,sA,sZ,sS]
    refine tk 4 62 (v:=.string (strB a1)) rfl rfl (fun W hW=>Kad rfl rfl (Kaf Tryz.underlying9 rfl (Kae hW (ltOf q0) q0))) ?_
    simp only [Act.put,sA,sZ,sS]
    refine tk 5 63 (v:=.pointer (some ⟨w.heap.size + 1,4,none⟩)) rfl rfl (fun W hW=>Kac rfl rfl (hf4 _ W)) ?_
    simp only [Act.put,sA,sZ,sS]
    refine tk 6 64 (v:=.slice (some ⟨bk',ok',none⟩) ks'.length dk) rfl rfl (fun W hW=>Kad rfl rfl (Kcf Tryz.underlying26 rfl hW hg9 rfl)) ?_
    simp only [Act.put,sA,sZ,sS]
    refine tk 7 65 (v:=.int .i64 (j : Int)) rfl rfl (fun W hW=>Kab rfl rfl) ?_
    simp only [Act.put,sA,sZ,sS]
    refine tk 8 66 (v:=.pointer (some ⟨bk',ok' + j,none⟩)) rfl rfl (fun W hW=>Kaj rfl rfl rfl (hiy W)) ?_
    simp only [Act.put,sA,sZ,sS]
    refine tk 9 67 (v:=.string (strB a2)) rfl rfl (fun W hW=>Kad rfl rfl (Kaf Tryz.underlying9 rfl (Kae hW (ltOf q1) q1))) ?_
    simp only [Act.put,sA,sZ,sS]
    refine tk 10 68 (v:=.bool false) rfl rfl (fun W hW=>Kb2 rfl rfl rfl (hne W)) ?_
    simp only [Act.put,sA,sZ,sS]
    refine done (by kernel_rfl) ?_ _
    have HS:=yh (And.intro (hstep he) hS)
    clear q0 q1 hstep hdiff hnes hS0 hix hiy hf4 hg8 hg9 hne hS he HX
    go_wp2
    go_roundw
    case rel=>exact ⟨j + 1,hlt1,by go_num,HS⟩
    case measure=>simp [intOf];omega
   ·have hne : ∀ W,(binOp .neq 9 (.string (strB a1)) (.string (strB a2))).run Tryz.prog W = .ok (.bool true) W:=fun W=>by rw [hnes,decide_eq_false he];rfl
    refine tk 0 58 (v:=.pointer (some ⟨w.heap.size,4,none⟩)) rfl rfl (fun W hW=>Kac rfl rfl (hf4 _ W)) ?_
    simp only [Act.put,sA,sZ,sS]
    refine tk 1 59 (v:=.slice (some ⟨bk,ok,none⟩) ks.length ck) rfl rfl (fun W hW=>Kad rfl rfl (Kcf Tryz.underlying26 rfl hW hg8 rfl)) ?_
    simp only [Act.put,sA,sZ,sS]
    refine tk 2 60 (v:=.int .i64 (j : Int)) rfl rfl (fun W hW=>Kab rfl rfl) ?_
    simp only [Act.put,sA,sZ,sS]
    refine tk 3 61 (v:=.pointer (some ⟨bk,ok + j,none⟩)) rfl rfl (fun W hW=>Kaj rfl rfl rfl (hix W)) ?_
    simp only [Act.put,sA,sZ,sS]
    refine tk 4 62 (v:=.string (strB a1)) rfl rfl (fun W hW=>Kad rfl rfl (Kaf Tryz.underlying9 rfl (Kae hW (ltOf q0) q0))) ?_
    simp only [Act.put,sA,sZ,sS]
    refine tk 5 63 (v:=.pointer (some ⟨w.heap.size + 1,4,none⟩)) rfl rfl (fun W hW=>Kac rfl rfl (hf4 _ W)) ?_
    simp only [Act.put,sA,sZ,sS]
    refine tk 6 64 (v:=.slice (some ⟨bk',ok',none⟩) ks'.length dk) rfl rfl (fun W hW=>Kad rfl rfl (Kcf Tryz.underlying26 rfl hW hg9 rfl)) ?_
    simp only [Act.put,sA,sZ,sS]
    refine tk 7 65 (v:=.int .i64 (j : Int)) rfl rfl (fun W hW=>Kab rfl rfl) ?_
    simp only [Act.put,sA,sZ,sS]
    refine tk 8 66 (v:=.pointer (some ⟨bk',ok' + j,none⟩)) rfl rfl (fun W hW=>Kaj rfl rfl rfl (hiy W)) ?_
    simp only [Act.put,sA,sZ,sS]
    refine tk 9 67 (v:=.string (strB a2)) rfl rfl (fun W hW=>Kad rfl rfl (Kaf Tryz.underlying9 rfl (Kae hW (ltOf q1) q1))) ?_
    simp only [Act.put,sA,sZ,sS]
    refine tk 10 68 (v:=.bool true) rfl rfl (fun W hW=>Kb2 rfl rfl rfl (hne W)) ?_
    simp only [Act.put,sA,sZ,sS]
    refine done (by kernel_rfl) ?_ _
    have HS:=yh (And.intro (hdiff he) hS)
    clear q0 q1 hstep hdiff hnes hS0 hix hiy hf4 hg8 hg9 hne hS he HX
    go_wp2
    go_ret
    exact ⟨by rw [decide_eq_false HS.out.1,Bool.false_and];rfl,Kaa HB.out HS.out.2⟩
  ·obtain rfl : j = ks.length:=by omega
   have HKE:=yh (show ks = ks' from by have h:=HI.out.1;rw [List.take_length,HLK.out,List.take_length] at h;exact h)
   have HW1:=yh HI.out.2
   clear HI
   go_wp2
   go_loopw [6] (fun i W=>∃ j : Nat,j ≤ l.length ∧ i = .int .i64 (j : Int) ∧ Hid ((∀ i (h1 : i < l.length) (h2 : i < l'.length),i < j → Kcs l[i] l'[i] = true) ∧ Below W0.heap.size W0 W)) (fun i _=>l.length - (intOf i).toNat)
   case atStart=>exact ⟨0,Nat.zero_le _,rfl,yh ⟨fun i _ _ h=>by omega,HW1.out⟩⟩
   case round =>
    clear HW1 p4
    obtain ⟨j,hj,rfl,HI⟩:=hrel
    obtain ⟨hg8,hg9⟩:=HG.out
    have p5:=Kag (o:=5) (Kal HI.out.2 (Array.getElem?_eq_some_iff.1 hg8).1 hg8) rfl
    clear hg8 hg9
    by_cases hlt : j < l.length
    ·have hlt1 : j + 1 ≤ l.length:=hlt
     have hlt2 : j < l'.length:=by rw [← HLL.out];exact hlt
     obtain ⟨bl,ol,cs,rfl,hs,hc,hv⟩:=HL1.out.grd.get hlt
     obtain ⟨bl',ol',ds,rfl,hs2,hc2,hv2⟩:=HL2.out.grd.get hlt2
     have hcall:=fun W (g : Below W0.heap.size W0 W)=>HIH.out l[j] (List.getElem_mem hlt) l'[j] W cs ds (hv.below g) (hv2.below g)
     have hno:=all2_no (f:=Kcs) hlt hlt2
     have hye : Kcs l[j] l'[j] = true → ∀ i (h1 : i < l.length) (h2 : i < l'.length),i < j + 1 → Kcs l[i] l'[i] = true:=fun he i h1 h2 h3=>by
      rcases Nat.lt_or_ge i j with h4 | h4
      ·exact HI.out.1 i h1 h2 h4
      ·have : i = j:=by omega
       subst this;exact he
     generalize Kcs l[j] l'[j] = r at *
     have hS0 : Below W0.heap.size W0 wr.drew:=HI.out.2.drew
     have hix : ∀ W' : World,(Instr.indexAt 29 (.slice (some ⟨bl,ol,none⟩) l.length cl) (.int .i64 (j : Int))).run Tryz.prog W' = .ok (.pointer (some ⟨bl,ol + j * 6,none⟩)) W':=by intro W';simp [go_sem,hlt]
     have hiy : ∀ W' : World,(Instr.indexAt 29 (.slice (some ⟨bl',ol',none⟩) l'.length dl) (.int .i64 (j : Int))).run Tryz.prog W' = .ok (.pointer (some ⟨bl',ol' + j * 6,none⟩)) W':=by intro W';simp [go_sem,hlt2]
     have hf5 : ∀ (g : Nat) (W' : World),(Instr.fieldAt 31 (.pointer (some ⟨g,0,none⟩)) 5).run Tryz.prog W' = .ok (.pointer (some ⟨g,5,none⟩)) W':=by intro g W';simp [go_sem]
     have hlx:=fun W (g : Below W0.heap.size W0 W)=>StT.load (P:=Tryz.prog) (W:=W) (g:=bl) (o:=ol + j * 6) Kc9 hs fun i u hu=>Kae g (ltOf (hc i u hu)) (hc i u hu)
     have hly:=fun W (g : Below W0.heap.size W0 W)=>StT.load (P:=Tryz.prog) (W:=W) (g:=bl') (o:=ol' + j * 6) Kc9 hs2 fun i u hu=>Kae g (ltOf (hc2 i u hu)) (hc2 i u hu)
     have HX:=yh (And.intro hcall (And.intro hno (And.intro hye (And.intro hS0 (And.intro hix (And.intro hiy (And.intro hf5 (And.intro hlx hly))))))))
     clear hcall hno hye hS0 hix hiy hf5 hlx hly HI hs hc hv hs2 hc2 hv2
     go_wp2
     obtain ⟨hcall,hno,hye,hS0,hix,hiy,hf5,hlx,hly⟩:=HX.out
     obtain ⟨hg8,hg9⟩:=HG.out
     refine Kah (fun W=>Below W0.heap.size W0 W) (by kernel_rfl) hS0 (fun hS=>?_)
     refine tk 0 76 (v:=.pointer (some ⟨w.heap.size,5,none⟩)) rfl rfl (fun W hW=>Kac rfl rfl (hf5 _ W)) ?_
     simp only [Act.put,sA,sZ,sS]
     refine tk 1 77 (v:=.slice (some ⟨bl,ol,none⟩) l.length cl) rfl rfl (fun W hW=>Kad rfl rfl (Kcf Tryz.underlying29 rfl hW hg8 rfl)) ?_
     simp only [Act.put,sA,sZ,sS]
     refine tk 2 78 (v:=.int .i64 (j : Int)) rfl rfl (fun W hW=>Kab rfl rfl) ?_
     simp only [Act.put,sA,sZ,sS]
     refine tk 3 79 (v:=.pointer (some ⟨bl,ol + j * 6,none⟩)) rfl rfl (fun W hW=>Kaj rfl rfl rfl (hix W)) ?_
     simp only [Act.put,sA,sZ,sS]
     refine tk 4 80 (v:=.agg cs) rfl rfl (fun W hW=>Kad rfl rfl (hlx W hW)) ?_
     simp only [Act.put,sA,sZ,sS]
     refine tk 5 81 (v:=.pointer (some ⟨w.heap.size + 1,5,none⟩)) rfl rfl (fun W hW=>Kac rfl rfl (hf5 _ W)) ?_
     simp only [Act.put,sA,sZ,sS]
     refine tk 6 82 (v:=.slice (some ⟨bl',ol',none⟩) l'.length dl) rfl rfl (fun W hW=>Kad rfl rfl (Kcf Tryz.underlying29 rfl hW hg9 rfl)) ?_
     simp only [Act.put,sA,sZ,sS]
     refine tk 7 83 (v:=.int .i64 (j : Int)) rfl rfl (fun W hW=>Kab rfl rfl) ?_
     simp only [Act.put,sA,sZ,sS]
     refine tk 8 84 (v:=.pointer (some ⟨bl',ol' + j * 6,none⟩)) rfl rfl (fun W hW=>Kaj rfl rfl rfl (hiy W)) ?_
     simp only [Act.put,sA,sZ,sS]
     refine tk 9 85 (v:=.agg ds) rfl rfl (fun W hW=>Kad rfl rfl (hly W hW)) ?_
     simp only [Act.put,sA,sZ,sS]
     refine Kao 10 86 rfl rfl (by kernel_rfl) rfl (Kan [.agg cs,.agg ds] rfl rfl Tryz.func166 (by kernel_rfl) (by kernel_rfl)) ?_
     refine (hcall _ hS).mono ?_
     rintro e W8 ⟨rfl,hb8⟩
     have hS8 : Below W0.heap.size W0 W8:=Kaa hS hb8
     refine ⟨_,rfl,.inr hS8,?_⟩
     simp only [Act.put,sA,sZ,sS]
     refine tk 11 87 (v:=.bool (!r)) rfl rfl (fun W hW=>Kap rfl rfl) ?_
     simp only [Act.put,sA,sZ,sS]
     refine done (by kernel_rfl) ?_ _
     have HS:=yh hS8
     have HF:=yh (And.intro hno hye)
     clear hcall hno hye hS0 hix hiy hf5 hlx hly hg8 hg9 hS hS8 hb8 HX
     cases r
     ·go_wp2
      go_ret
      exact ⟨by rw [Kde,HF.out.1 (by simp),Bool.and_false];rfl,Kaa HB.out HS.out⟩
     ·go_wp2
      go_roundw
      case rel=>exact ⟨j + 1,hlt1,by go_num,yh ⟨HF.out.2 (by simp),HS.out⟩⟩
      case measure=>simp [intOf];omega
    ·obtain rfl : j = l.length:=by omega
     have HFF:=yh (And.intro (all2_of (f:=Kcs) HLL.out fun i h1 h2=>HI.out.1 i h1 h2 h1) HI.out.2)
     clear HI
     go_wp2
     go_ret
     exact ⟨by rw [decide_eq_true HKE.out,Kde,HFF.out.1];rfl,Kaa HB.out HFF.out.2⟩
def sameQ (p q : PropD) : Bool:=decide (p.key = q.key) && Kcs p.val q.val
def sameNQ (a b : NodeD) : Bool:=decide (a.id = b.id) && decide (a.labels = b.labels) && all2 sameQ a.props b.props
def sameRQ (a b : RelD) : Bool:=decide (a.id = b.id) && decide (a.src = b.src) && decide (a.dst = b.dst) && decide (a.type = b.type) && all2 sameQ a.props b.props
def Kcq (a b : GraphD) : Bool:=decide (a.nextNode = b.nextNode) && decide (a.nextRel = b.nextRel) && all2 sameNQ a.nodes b.nodes && all2 sameRQ a.rels b.rels
theorem sameQ_iff (p q : PropD) : sameQ p q = true ↔ p = q:=by
 obtain ⟨a,b⟩:=p
 obtain ⟨c,d⟩:=q
 unfold sameQ
 simp only [Bool.and_eq_true,decide_eq_true_eq,alikeV_iff,PropD.mk.injEq]
theorem samePsQ_iff (l m : List PropD) : all2 sameQ l m = true ↔ l = m:=all2_eq fun x _ y _=>sameQ_iff x y
theorem sameNQ_iff (a b : NodeD) : sameNQ a b = true ↔ a = b:=by
 have:=samePsQ_iff a.props b.props
 unfold sameNQ
 obtain ⟨x1,x2,x3⟩:=a
 obtain ⟨y1,y2,y3⟩:=b
 simp only [Bool.and_eq_true,decide_eq_true_eq,NodeD.mk.injEq] at this ⊢
 rw [this,and_assoc]
theorem sameRQ_iff (a b : RelD) : sameRQ a b = true ↔ a = b:=by
 have:=samePsQ_iff a.props b.props
 unfold sameRQ
 obtain ⟨x1,x2,x3,x4,x5⟩:=a
 obtain ⟨y1,y2,y3,y4,y5⟩:=b
 simp only [Bool.and_eq_true,decide_eq_true_eq,RelD.mk.injEq] at this ⊢
 rw [this,and_assoc,and_assoc,and_assoc]
theorem sameGQ_iff (a b : GraphD) : Kcq a b = true ↔ a = b:=by
 have h1 : all2 sameNQ a.nodes b.nodes = true ↔ a.nodes = b.nodes:=all2_eq fun x _ y _=>sameNQ_iff x y
 have h2 : all2 sameRQ a.rels b.rels = true ↔ a.rels = b.rels:=all2_eq fun x _ y _=>sameRQ_iff x y
 unfold Kcq
 obtain ⟨x1,x2,x3,x4⟩:=a
 obtain ⟨y1,y2,y3,y4⟩:=b
 simp only [Bool.and_eq_true,decide_eq_true_eq,GraphD.mk.injEq] at h1 h2 ⊢
 rw [h1,h2]
 constructor
 ·rintro ⟨⟨⟨e1,e2⟩,e3⟩,e4⟩;exact ⟨e3,e4,e1,e2⟩
 ·rintro ⟨e1,e2,e3,e4⟩;exact ⟨⟨⟨e3,e4⟩,e1⟩,e2⟩
def AllJ {α : Type} (f : α → α → Bool) (l m : List α) (j : Nat) : Prop:=∀ i (h1 : i < l.length) (h2 : i < m.length),i < j → f l[i] m[i] = true
theorem AllJ.zero {α : Type} (f : α → α → Bool) (l m : List α) : AllJ f l m 0:=fun i _ _ h=>by omega
theorem AllJ.succ {α : Type} {f : α → α → Bool} {l m : List α} {j : Nat} (h : AllJ f l m j) (h1 : j < l.length) (h2 : j < m.length) (he : f l[j] m[j] = true) : AllJ f l m (j + 1):=fun i a b hi=>by
 by_cases e : i = j
 ·subst e;exact he
 ·exact h i a b (by omega)
theorem AllJ.all {α : Type} {f : α → α → Bool} {l m : List α} (h : AllJ f l m l.length) (hl : l.length = m.length) : all2 f l m = true:=all2_of hl fun i h1 h2=>h i h1 h2 h1
def eqT (a b : List UInt8) : Bool:=decide (a = b)
theorem eqTs_iff (l m : List (List UInt8)) : all2 eqT l m = decide (l = m):=by
 have h : all2 eqT l m = true ↔ l = m:=all2_eq fun x _ y _=>by simp [eqT]
 rw [Bool.eq_iff_iff,h,decide_eq_true_iff]
theorem sameTextsD_any {w : World} {p1 p2 : Option Addr} {c1 c2 : Nat} {a b : List (List UInt8)} (ha : RdS w p1 c1 a) (hb : RdS w p2 c2 b) : Calls Tryz.prog 115 #[.slice p1 a.length c1,.slice p2 b.length c2] w fun e w'=>e = .returned (.bool (decide (a = b))) ∧ Below w.heap.size w w':=by
 have z1 : (a.length : Int) ≤ 140737488355328:=by have:=ha.2.1.1;omega
 have z2 : (b.length : Int) ≤ 140737488355328:=by have:=hb.2.1.1;omega
 have H:=yh (And.intro ha hb)
 clear ha hb
 rw [← eqTs_iff]
 by_cases hl : a.length = b.length
 rotate_left
 ·have HF:=yh (all2_ne (f:=eqT) hl)
  have hl2 : ¬ (a.length : Int) = (b.length : Int):=by omega
  have hl3 : ((a.length : Int) == (b.length : Int)) = false:=by rw [beq_eq_false_iff_ne];exact hl2
  generalize a.length = n1 at *
  generalize b.length = n2 at *
  clear hl
  go_enter Tryz.func115,Tryz.ntmps115
  go_wp2
  go_ret
  exact ⟨Kak HF.out.symm,Below.refl _ _⟩
 ·have HL:=yh hl
  have hl2 : (a.length : Int) = (b.length : Int):=by omega
  have hle : (b.length : Int) = (a.length : Int):=hl2.symm
  clear hl hl2
  go_enter Tryz.func115,Tryz.ntmps115
  go_wp2
  clear hle
  go_loopw [5] (fun i W=>∃ j : Nat,j ≤ a.length ∧ i = .int .i64 (j : Int) ∧ Hid (AllJ eqT a b j ∧ Below w.heap.size w W)) (fun i _=>a.length - (intOf i).toNat)
  case atStart=>exact ⟨0,Nat.zero_le _,rfl,yh ⟨AllJ.zero _ _ _,Below.refl _ _⟩⟩
  case round =>
   obtain ⟨j,hj,rfl,HI⟩:=hrel
   by_cases hlt : j < a.length
   ·have hlt1 : j + 1 ≤ a.length:=hlt
    have hltb : j < b.length:=by have:=HL.out;omega
    obtain ⟨b1,o1,rfl,q1,_⟩:=(H.out.1.below HI.out.2).get hlt
    obtain ⟨b2,o2,rfl,q2,_⟩:=(H.out.2.below HI.out.2).get hltb
    have hi1 : ∀ W' : World,(Instr.indexAt 26 (.slice (some ⟨b1,o1,none⟩) a.length c1) (.int .i64 (j : Int))).run Tryz.prog W' = .ok (.pointer (some ⟨b1,o1 + j,none⟩)) W':=fun W'=>ia_text hlt W'
    have hi2 : ∀ W' : World,(Instr.indexAt 26 (.slice (some ⟨b2,o2,none⟩) b.length c2) (.int .i64 (j : Int))).run Tryz.prog W' = .ok (.pointer (some ⟨b2,o2 + j,none⟩)) W':=fun W'=>ia_text hltb W'
    have hne:=nes_bytesD a[j] b[j]
    have hno:=all2_no (f:=eqT) (j:=j) hlt hltb
    have hye:=HI.out.1.succ hlt hltb
    have heq : eqT a[j] b[j] = decide (a[j] = b[j]):=rfl
    rw [heq] at hno hye
    obtain ⟨bb,hbb⟩ : ∃ bb,bb = !decide (a[j] = b[j]):=⟨_,rfl⟩
    have hde : decide (a[j] = b[j]) = !bb:=by rw [hbb];simp
    rw [hde] at hno hye
    simp only [← hbb] at hne
    have HM:=yh (And.intro hno hye)
    have HB1:=yh HI.out.2
    have hB0 : Below wr.heap.size wr wr.drew:=(Below.refl _ wr).drew
    clear heq hde hbb hno hye
    generalize a[j] = s1 at *
    generalize b[j] = s2 at *
    have HX:=yh (And.intro hi1 (And.intro hi2 (And.intro hne (And.intro q1 (And.intro q2 hB0)))))
    clear hi1 hi2 hne q1 q2 hB0 HI
    go_wp2
    obtain ⟨hi1,hi2,hne,q1,q2,hB0⟩:=HX.out
    refine Kah (fun W=>Below wr.heap.size wr W) (by kernel_rfl) hB0 (fun hS=>?_)
    refine tk 0 17 (v:=.slice (some ⟨b1,o1,none⟩) a.length c1) rfl rfl (fun W hW=>Kab rfl rfl) ?_
    simp only [Act.put,sA,sZ,sS]
    refine tk 1 18 (v:=.int .i64 (j : Int)) rfl rfl (fun W hW=>Kab rfl rfl) ?_
    simp only [Act.put,sA,sZ,sS]
    refine tk 2 19 (v:=.pointer (some ⟨b1,o1 + j,none⟩)) rfl rfl (fun W hW=>Kaj rfl rfl rfl (hi1 W)) ?_
    simp only [Act.put,sA,sZ,sS]
    refine tk 3 20 (v:=.string (strB s1)) rfl rfl (fun W hW=>Kad rfl rfl (Kaf (w:=W) Tryz.underlying9 rfl (Kae hW (ltOf q1) q1))) ?_
    simp only [Act.put,sA,sZ,sS]
    refine tk 4 21 (v:=.slice (some ⟨b2,o2,none⟩) b.length c2) rfl rfl (fun W hW=>Kab rfl rfl) ?_
    simp only [Act.put,sA,sZ,sS]
    refine tk 5 22 (v:=.int .i64 (j : Int)) rfl rfl (fun W hW=>Kab rfl rfl) ?_
    simp only [Act.put,sA,sZ,sS]
    refine tk 6 23 (v:=.pointer (some ⟨b2,o2 + j,none⟩)) rfl rfl (fun W hW=>Kaj rfl rfl rfl (hi2 W)) ?_
    simp only [Act.put,sA,sZ,sS]
    refine tk 7 24 (v:=.string (strB s2)) rfl rfl (fun W hW=>Kad rfl rfl (Kaf (w:=W) Tryz.underlying9 rfl (Kae hW (ltOf q2) q2))) ?_
    simp only [Act.put,sA,sZ,sS]
    refine tk 8 25 (v:=.bool bb) rfl rfl (fun W hW=>Kb2 rfl rfl rfl (hne W)) ?_
    simp only [Act.put,sA,sZ,sS]
    refine done (by kernel_rfl) ?_ _
    have HB:=yh (Kaa HB1.out hS)
    clear hi1 hi2 hne q1 q2 hB0 hS HX
    cases bb with
    | true =>
      go_wp2
      go_ret
      exact ⟨Kak (HM.out.1 rfl).symm,HB.out⟩
    | false =>
      go_wp2
      go_roundw
      case rel=>exact ⟨j + 1,hlt1,by go_num,yh ⟨HM.out.2 rfl,HB.out⟩⟩
      case measure=>simp [intOf];omega
   ·obtain rfl : j = a.length:=by omega
    have HF:=yh (HI.out.1.all HL.out)
    have HB:=yh HI.out.2
    clear HI
    go_wp2
    go_ret
    exact ⟨Kak HF.out.symm,HB.out⟩
theorem samePropsD_any {w : World} {p1 p2 : Option Addr} {c1 c2 : Nat} {a b : List PropD} (ha : GRd PRd 7 w p1 c1 a) (hb : GRd PRd 7 w p2 c2 b) : Calls Tryz.prog 116 #[.slice p1 a.length c1,.slice p2 b.length c2] w fun e w'=>e = .returned (.bool (all2 sameQ a b)) ∧ Below w.heap.size w w':=by
 have z1 : (a.length : Int) ≤ 140737488355328:=by have:=ha.1.2.1;omega
 have z2 : (b.length : Int) ≤ 140737488355328:=by have:=hb.1.2.1;omega
 have H:=yh (And.intro ha hb)
 clear ha hb
 by_cases hl : a.length = b.length
 rotate_left
 ·have HF:=yh (all2_ne (f:=sameQ) hl)
  have hl2 : ¬ (a.length : Int) = (b.length : Int):=by omega
  have hl3 : ((a.length : Int) == (b.length : Int)) = false:=by rw [beq_eq_false_iff_ne];exact hl2
  generalize a.length = n1 at *
  generalize b.length = n2 at *
  clear hl
  go_enter Tryz.func116,Tryz.ntmps116
  go_wp2
  go_ret
  exact ⟨Kak HF.out.symm,Below.refl _ _⟩
 ·have HL:=yh hl
  have hl2 : (a.length : Int) = (b.length : Int):=by omega
  have hle : (b.length : Int) = (a.length : Int):=hl2.symm
  clear hl hl2
  go_enter Tryz.func116,Tryz.ntmps116
  go_wp2
  clear hle
  go_loopw [5] (fun i W=>∃ j : Nat,j ≤ a.length ∧ i = .int .i64 (j : Int) ∧ Hid (AllJ sameQ a b j ∧ Below w.heap.size w W)) (fun i _=>a.length - (intOf i).toNat)
  case atStart=>exact ⟨0,Nat.zero_le _,rfl,yh ⟨AllJ.zero _ _ _,Below.refl _ _⟩⟩
  case round =>
   obtain ⟨j,hj,rfl,HI⟩:=hrel
   by_cases hlt : j < a.length
   ·have hlt1 : j + 1 ≤ a.length:=hlt
    have hltb : j < b.length:=by have:=HL.out;omega
    obtain ⟨b1,o1,cs1,rfl,_,hcc1,hv1⟩:=(H.out.1.below (fun h=>h.below HI.out.2) HI.out.2).get hlt
    obtain ⟨b2,o2,cs2,rfl,_,hcc2,hv2⟩:=(H.out.2.below (fun h=>h.below HI.out.2) HI.out.2).get hltb
    obtain ⟨q1,_,y1,hu1,r1⟩:=Kdr hv1 hcc1
    obtain ⟨q2,_,y2,hu2,r2⟩:=Kdr hv2 hcc2
    have hy1:=Kc7.size hu1
    have hy2:=Kc7.size hu2
    have hi1 : ∀ W' : World,(Instr.indexAt 27 (.slice (some ⟨b1,o1,none⟩) a.length c1) (.int .i64 (j : Int))).run Tryz.prog W' = .ok (.pointer (some ⟨b1,o1 + j * 7,none⟩)) W':=fun W'=>ia_prop hlt W'
    have hi2 : ∀ W' : World,(Instr.indexAt 27 (.slice (some ⟨b2,o2,none⟩) b.length c2) (.int .i64 (j : Int))).run Tryz.prog W' = .ok (.pointer (some ⟨b2,o2 + j * 7,none⟩)) W':=fun W'=>ia_prop hltb W'
    have hne:=nes_bytesD a[j].key b[j].key
    have hal:=fun W (g : Below wr.heap.size wr W)=>alikeD_any a[j].val b[j].val W y1 y2 (hu1.below g) (hu2.below g)
    have hno:=all2_no (f:=sameQ) (j:=j) hlt hltb
    have hye:=HI.out.1.succ hlt hltb
    have heq : sameQ a[j] b[j] = (decide (a[j].key = b[j].key) && Kcs a[j].val b[j].val):=rfl
    rw [heq] at hno hye
    generalize Kcs a[j].val b[j].val = av at *
    obtain ⟨kb,hkb⟩ : ∃ kb,kb = decide (a[j].key = b[j].key):=⟨_,rfl⟩
    rw [← hkb] at hno hye
    simp only [← hkb] at hne
    have HM:=yh (And.intro hno hye)
    have HB1:=yh HI.out.2
    have hB0 : Below wr.heap.size wr wr.drew:=(Below.refl _ wr).drew
    clear heq hkb hno hye hv1 hv2 hu1 hu2 hcc1 hcc2
    generalize a[j].key = s1 at *
    generalize b[j].key = s2 at *
    have HX:=yh (And.intro hi1 (And.intro hi2 (And.intro hne (And.intro q1 (And.intro q2 (And.intro hal (And.intro r1 (And.intro r2 (And.intro hy1 (And.intro hy2 hB0))))))))))
    clear hi1 hi2 hne q1 q2 hB0 HI hal r1 r2 hy1 hy2
    go_wp2
    obtain ⟨hi1,hi2,hne,q1,q2,hal,r1,r2,hy1,hy2,hB0⟩:=HX.out
    refine Kah (fun W=>Below wr.heap.size wr W) (by kernel_rfl) hB0 (fun hS=>?_)
    cases kb with
    | false =>
      refine tk 0 17 (v:=.slice (some ⟨b1,o1,none⟩) a.length c1) rfl rfl (fun W hW=>Kab rfl rfl) ?_
      simp only [Act.put,sA,sZ,sS]
      refine tk 1 18 (v:=.int .i64 (j : Int)) rfl rfl (fun W hW=>Kab rfl rfl) ?_
      simp only [Act.put,sA,sZ,sS]
      refine tk 2 19 (v:=.pointer (some ⟨b1,o1 + j * 7,none⟩)) rfl rfl (fun W hW=>Kaj rfl rfl rfl (hi1 W)) ?_
      simp only [Act.put,sA,sZ,sS]
      refine tk 3 20 (v:=.pointer (some ⟨b1,o1 + j * 7,none⟩)) rfl rfl (fun W hW=>Kac rfl rfl (Kdl _ _ W)) ?_
      simp only [Act.put,sA,sZ,sS]
      refine tk 4 21 (v:=.string (strB s1)) rfl rfl (fun W hW=>Kad rfl rfl (Kaf (w:=W) Tryz.underlying9 rfl (Kae hW (ltOf q1) q1))) ?_
      simp only [Act.put,sA,sZ,sS]
      refine tk 5 22 (v:=.slice (some ⟨b2,o2,none⟩) b.length c2) rfl rfl (fun W hW=>Kab rfl rfl) ?_
      simp only [Act.put,sA,sZ,sS]
      refine tk 6 23 (v:=.int .i64 (j : Int)) rfl rfl (fun W hW=>Kab rfl rfl) ?_
      simp only [Act.put,sA,sZ,sS]
      refine tk 7 24 (v:=.pointer (some ⟨b2,o2 + j * 7,none⟩)) rfl rfl (fun W hW=>Kaj rfl rfl rfl (hi2 W)) ?_
      simp only [Act.put,sA,sZ,sS]
      refine tk 8 25 (v:=.pointer (some ⟨b2,o2 + j * 7,none⟩)) rfl rfl (fun W hW=>Kac rfl rfl (Kdl _ _ W)) ?_
      simp only [Act.put,sA,sZ,sS]
      refine tk 9 26 (v:=.string (strB s2)) rfl rfl (fun W hW=>Kad rfl rfl (Kaf (w:=W) Tryz.underlying9 rfl (Kae hW (ltOf q2) q2))) ?_
      simp only [Act.put,sA,sZ,sS]
      refine tk 10 27 (v:=.bool true) rfl rfl (fun W hW=>Kb2 rfl rfl rfl (hne W)) ?_
      simp only [Act.put,sA,sZ,sS]
      refine tk 11 28 (v:=.bool true) rfl rfl (fun W hW=>Kab rfl rfl) ?_
      simp only [Act.put,sA,sZ,sS]
      refine tn 12 29 rfl rfl ?_
      simp only [Act.put,sA,sZ,sS]
      refine tn 13 30 rfl rfl ?_
      simp only [Act.put,sA,sZ,sS]
      refine tn 14 31 rfl rfl ?_
      simp only [Act.put,sA,sZ,sS]
      refine tn 15 32 rfl rfl ?_
      simp only [Act.put,sA,sZ,sS]
      refine tn 16 33 rfl rfl ?_
      simp only [Act.put,sA,sZ,sS]
      refine tn 17 34 rfl rfl ?_
      simp only [Act.put,sA,sZ,sS]
      refine tn 18 35 rfl rfl ?_
      simp only [Act.put,sA,sZ,sS]
      refine tn 19 36 rfl rfl ?_
      simp only [Act.put,sA,sZ,sS]
      refine tn 20 37 rfl rfl ?_
      simp only [Act.put,sA,sZ,sS]
      refine tn 21 38 rfl rfl ?_
      simp only [Act.put,sA,sZ,sS]
      refine Kau 22 39 rfl rfl (by kernel_rfl) rfl ?_ (.inr (by assumption))
      simp only [Act.put,sA,sZ,sS]
      refine tn 23 40 rfl rfl ?_
      simp only [Act.put,sA,sZ,sS]
      refine tk 24 41 (v:=.bool true) rfl rfl (fun W hW=>rfl) ?_
      simp only [Act.put,sA,sZ,sS]
      refine done (by kernel_rfl) ?_ _
      have HB:=yh (Kaa HB1.out hS)
      clear hi1 hi2 hne q1 q2 hB0 hS HX hal r1 r2 hy1 hy2
      go_wp2
      go_ret
      exact ⟨Kak (HM.out.1 rfl).symm,HB.out⟩
    | true =>
      refine tk 0 17 (v:=.slice (some ⟨b1,o1,none⟩) a.length c1) rfl rfl (fun W hW=>Kab rfl rfl) ?_
      simp only [Act.put,sA,sZ,sS]
      refine tk 1 18 (v:=.int .i64 (j : Int)) rfl rfl (fun W hW=>Kab rfl rfl) ?_
      simp only [Act.put,sA,sZ,sS]
      refine tk 2 19 (v:=.pointer (some ⟨b1,o1 + j * 7,none⟩)) rfl rfl (fun W hW=>Kaj rfl rfl rfl (hi1 W)) ?_
      simp only [Act.put,sA,sZ,sS]
      refine tk 3 20 (v:=.pointer (some ⟨b1,o1 + j * 7,none⟩)) rfl rfl (fun W hW=>Kac rfl rfl (Kdl _ _ W)) ?_
      simp only [Act.put,sA,sZ,sS]
      refine tk 4 21 (v:=.string (strB s1)) rfl rfl (fun W hW=>Kad rfl rfl (Kaf (w:=W) Tryz.underlying9 rfl (Kae hW (ltOf q1) q1))) ?_
      simp only [Act.put,sA,sZ,sS]
      refine tk 5 22 (v:=.slice (some ⟨b2,o2,none⟩) b.length c2) rfl rfl (fun W hW=>Kab rfl rfl) ?_
      simp only [Act.put,sA,sZ,sS]
      refine tk 6 23 (v:=.int .i64 (j : Int)) rfl rfl (fun W hW=>Kab rfl rfl) ?_
      simp only [Act.put,sA,sZ,sS]
      refine tk 7 24 (v:=.pointer (some ⟨b2,o2 + j * 7,none⟩)) rfl rfl (fun W hW=>Kaj rfl rfl rfl (hi2 W)) ?_
      simp only [Act.put,sA,sZ,sS]
      refine tk 8 25 (v:=.pointer (some ⟨b2,o2 + j * 7,none⟩)) rfl rfl (fun W hW=>Kac rfl rfl (Kdl _ _ W)) ?_
      simp only [Act.put,sA,sZ,sS]
      refine tk 9 26 (v:=.string (strB s2)) rfl rfl (fun W hW=>Kad rfl rfl (Kaf (w:=W) Tryz.underlying9 rfl (Kae hW (ltOf q2) q2))) ?_
      simp only [Act.put,sA,sZ,sS]
      refine tk 10 27 (v:=.bool false) rfl rfl (fun W hW=>Kb2 rfl rfl rfl (hne W)) ?_
      simp only [Act.put,sA,sZ,sS]
      refine tk 11 28 (v:=.bool false) rfl rfl (fun W hW=>Kab rfl rfl) ?_
      simp only [Act.put,sA,sZ,sS]
      refine tk 12 29 (v:=.slice (some ⟨b1,o1,none⟩) a.length c1) rfl rfl (fun W hW=>Kab rfl rfl) ?_
      simp only [Act.put,sA,sZ,sS]
      refine tk 13 30 (v:=.int .i64 (j : Int)) rfl rfl (fun W hW=>Kab rfl rfl) ?_
      simp only [Act.put,sA,sZ,sS]
      refine tk 14 31 (v:=.pointer (some ⟨b1,o1 + j * 7,none⟩)) rfl rfl (fun W hW=>Kaj rfl rfl rfl (hi1 W)) ?_
      simp only [Act.put,sA,sZ,sS]
      refine tk 15 32 (v:=.pointer (some ⟨b1,o1 + j * 7 + 1,none⟩)) rfl rfl (fun W hW=>Kac rfl rfl (fa_pr1 _ _ W)) ?_
      simp only [Act.put,sA,sZ,sS]
      refine tk 16 33 (v:=.agg y1) rfl rfl (fun W hW=>Kad rfl rfl (StT.load (P:=Tryz.prog) (W:=W) Kc9 hy1 fun i u hu=>Kae hW (ltOf (r1 i u hu)) (r1 i u hu))) ?_
      simp only [Act.put,sA,sZ,sS]
      refine tk 17 34 (v:=.slice (some ⟨b2,o2,none⟩) b.length c2) rfl rfl (fun W hW=>Kab rfl rfl) ?_
      simp only [Act.put,sA,sZ,sS]
      refine tk 18 35 (v:=.int .i64 (j : Int)) rfl rfl (fun W hW=>Kab rfl rfl) ?_
      simp only [Act.put,sA,sZ,sS]
      refine tk 19 36 (v:=.pointer (some ⟨b2,o2 + j * 7,none⟩)) rfl rfl (fun W hW=>Kaj rfl rfl rfl (hi2 W)) ?_
      simp only [Act.put,sA,sZ,sS]
      refine tk 20 37 (v:=.pointer (some ⟨b2,o2 + j * 7 + 1,none⟩)) rfl rfl (fun W hW=>Kac rfl rfl (fa_pr1 _ _ W)) ?_
      simp only [Act.put,sA,sZ,sS]
      refine tk 21 38 (v:=.agg y2) rfl rfl (fun W hW=>Kad rfl rfl (StT.load (P:=Tryz.prog) (W:=W) Kc9 hy2 fun i u hu=>Kae hW (ltOf (r2 i u hu)) (r2 i u hu))) ?_
      simp only [Act.put,sA,sZ,sS]
      refine Kao 22 39 rfl rfl (by kernel_rfl) rfl (Kan [.agg y1,.agg y2] rfl rfl Tryz.func166 (by kernel_rfl) (by kernel_rfl)) ?_
      refine (hal _ hS).mono ?_
      rintro e W22 ⟨rfl,hb22⟩
      have hS22:=Kaa hS hb22
      refine ⟨_,rfl,.inr hS22,?_⟩
      simp only [Act.put,sA,sZ,sS]
      refine tk 23 40 (v:=.bool (!av)) rfl rfl (fun W hW=>Kap rfl rfl) ?_
      simp only [Act.put,sA,sZ,sS]
      refine tk 24 41 (v:=.bool (!av)) rfl rfl (fun W hW=>rfl) ?_
      simp only [Act.put,sA,sZ,sS]
      refine done (by kernel_rfl) ?_ _
      have HB:=yh (Kaa HB1.out hS22)
      clear hi1 hi2 hne q1 q2 hB0 hS HX hal r1 r2 hy1 hy2 hS22 hb22
      cases av with
      | false =>
        go_wp2
        go_ret
        exact ⟨Kak (HM.out.1 rfl).symm,HB.out⟩
      | true =>
        go_wp2
        go_roundw
        case rel=>exact ⟨j + 1,hlt1,by go_num,yh ⟨HM.out.2 rfl,HB.out⟩⟩
        case measure=>simp [intOf];omega
   ·obtain rfl : j = a.length:=by omega
    have HF:=yh (HI.out.1.all HL.out)
    have HB:=yh HI.out.2
    clear HI
    go_wp2
    go_ret
    exact ⟨Kak HF.out.symm,HB.out⟩
theorem sameNodeD_any {w : World} {a b : NodeD} {x y : Array Value} (ha : NRd w a x) (hb : NRd w b y) : Calls Tryz.prog 54 #[.agg x,.agg y] w fun e w'=>e = .returned (.bool (sameNQ a b)) ∧ Below w.heap.size w w':=by
 obtain ⟨pl,cl,pp,cp,rfl,hla,hpa⟩:=ha
 obtain ⟨ql,dl,qp,dp,rfl,hlb,hpb⟩:=hb
 have hb1:=Kai (w:=w) (.cells #[.int .i64 a.id,.slice pl a.labels.length cl,.slice pp a.props.length cp] 45)
 have hb2:=Kai (w:=w.alloc (.cells #[.int .i64 a.id,.slice pl a.labels.length cl,.slice pp a.props.length cp] 45)) (.cells #[.int .i64 b.id,.slice ql b.labels.length dl,.slice qp b.props.length dp] 45)
 have hbc:=Kaa hb1 hb2
 have hx8:=Kal hb2 (by simp) (heap_alloc_new w (.cells #[.int .i64 a.id,.slice pl a.labels.length cl,.slice pp a.props.length cp] 45))
 have hx9:=heap_alloc_new (w.alloc (.cells #[.int .i64 a.id,.slice pl a.labels.length cl,.slice pp a.props.length cp] 45)) (.cells #[.int .i64 b.id,.slice ql b.labels.length dl,.slice qp b.props.length dp] 45)
 simp only [World.size_alloc] at hx9
 have HT:=yh (sameTextsD_any (hla.below hbc) (hlb.below hbc))
 have HP:=yh (fun W (g : Below ((w.alloc (.cells #[.int .i64 a.id,.slice pl a.labels.length cl,.slice pp a.props.length cp] 45)).alloc (.cells #[.int .i64 b.id,.slice ql b.labels.length dl,.slice qp b.props.length dp] 45)).heap.size ((w.alloc (.cells #[.int .i64 a.id,.slice pl a.labels.length cl,.slice pp a.props.length cp] 45)).alloc (.cells #[.int .i64 b.id,.slice ql b.labels.length dl,.slice qp b.props.length dp] 45)) W)=>samePropsD_any ((hpa.below (fun h=>h.below hbc) hbc).below (fun h=>h.below g) g) ((hpb.below (fun h=>h.below hbc) hbc).below (fun h=>h.below g) g))
 have HX:=yh (And.intro hbc (And.intro hx8 hx9))
 have HF:=yh (show sameNQ a b = (decide (a.id = b.id) && decide (a.labels = b.labels) && all2 sameQ a.props b.props) from rfl)
 generalize all2 sameQ a.props b.props = pb at *
 generalize hlb' : decide (a.labels = b.labels) = lb at *
 clear hb1 hb2 hbc hx8 hx9 hla hpa hlb hpb hlb'
 by_cases hi : a.id = b.id
 ·have hie : (a.id == b.id) = true:=by rw [beq_iff_eq];exact hi
  have HI:=yh hi
  clear hi
  cases lb with
  | false =>
    go_enter Tryz.func54,Tryz.ntmps54
    go_wp2_with (first
     | (go_at_call 115;refine HT.out.mono ?_;rintro e W2 ⟨rfl,hb⟩;have HB:=yh (Kaa HX.out.1 hb);clear hb))
    go_ret
    exact ⟨Kak (by rw [HF.out];simp),HB.out⟩
  | true =>
    go_enter Tryz.func54,Tryz.ntmps54
    go_wp2_with (first
     | (go_at_call 115
        (
         refine HT.out.mono ?_
         rintro e W2 ⟨rfl,hb⟩
         have HB:=yh (Kaa HX.out.1 hb)
         have p2 : W2.cell? ⟨w.heap.size,2,none⟩ = some (.slice pp a.props.length cp):=Kag (o:=2) (Kal hb (by simp;omega) HX.out.2.1) rfl
         have p3 : W2.cell? ⟨w.heap.size + 1,2,none⟩ = some (.slice qp b.props.length dp):=Kag (o:=2) (Kal hb (by simp) HX.out.2.2) rfl
         have HP2:=yh (HP.out W2 hb)
         clear hb))
     | (go_at_call 116;refine HP2.out.mono ?_;rintro e W3 ⟨rfl,hb⟩;have HB3:=yh (Kaa HB.out hb);clear hb))
    go_ret
    exact ⟨Kak (by rw [HF.out,decide_eq_true HI.out];simp),HB3.out⟩
 ·have hie : (a.id == b.id) = false:=by rw [beq_eq_false_iff_ne];exact hi
  have HI:=yh hi
  clear hi
  go_enter Tryz.func54,Tryz.ntmps54
  go_wp2
  go_ret
  exact ⟨Kak (by rw [HF.out,decide_eq_false HI.out];rfl),HX.out.1⟩
theorem sameRelD_any {w : World} {a b : RelD} {x y : Array Value} (ha : RRd w a x) (hb : RRd w b y) : Calls Tryz.prog 55 #[.agg x,.agg y] w fun e w'=>e = .returned (.bool (sameRQ a b)) ∧ Below w.heap.size w w':=by
 obtain ⟨pp,cp,rfl,hta,hpa⟩:=ha
 obtain ⟨qp,dp,rfl,htb,hpb⟩:=hb
 have hb1:=Kai (w:=w) (.cells #[.int .i64 a.id,.int .i64 a.src,.int .i64 a.dst,.string (strB a.type),.slice pp a.props.length cp] 49)
 have hb2:=Kai (w:=w.alloc (.cells #[.int .i64 a.id,.int .i64 a.src,.int .i64 a.dst,.string (strB a.type),.slice pp a.props.length cp] 49)) (.cells #[.int .i64 b.id,.int .i64 b.src,.int .i64 b.dst,.string (strB b.type),.slice qp b.props.length dp] 49)
 have hbc:=Kaa hb1 hb2
 have HP:=yh (samePropsD_any (hpa.below (fun h=>h.below hbc) hbc) (hpb.below (fun h=>h.below hbc) hbc))
 have HX:=yh hbc
 have HF:=yh (show sameRQ a b = (decide (a.id = b.id) && decide (a.src = b.src) && decide (a.dst = b.dst) && decide (a.type = b.type) && all2 sameQ a.props b.props) from rfl)
 have hes : ((strB a.type).toList == (strB b.type).toList) = decide (a.type = b.type):=by rw [Kaw,Kaw,Bool.eq_iff_iff,beq_iff_eq,decide_eq_true_iff]
 generalize all2 sameQ a.props b.props = pb at *
 clear hb1 hb2 hbc hta htb hpa hpb
 by_cases h1 : a.id = b.id
 rotate_left
 ·have f1 : (a.id == b.id) = false:=by rw [beq_eq_false_iff_ne];exact h1
  have HN:=yh h1
  clear h1 hes
  go_enter Tryz.func55,Tryz.ntmps55
  go_wp2
  go_ret
  exact ⟨Kak (by rw [HF.out,decide_eq_false HN.out];rfl),HX.out⟩
 have f1 : (a.id == b.id) = true:=by rw [beq_iff_eq];exact h1
 have H1:=yh h1
 clear h1
 by_cases h2 : a.src = b.src
 rotate_left
 ·have f2 : (a.src == b.src) = false:=by rw [beq_eq_false_iff_ne];exact h2
  have HN:=yh h2
  clear h2 hes
  go_enter Tryz.func55,Tryz.ntmps55
  go_wp2
  go_ret
  exact ⟨Kak (by rw [HF.out,decide_eq_false HN.out];simp),HX.out⟩
 have f2 : (a.src == b.src) = true:=by rw [beq_iff_eq];exact h2
 have H2:=yh h2
 clear h2
 by_cases h3 : a.dst = b.dst
 rotate_left
 ·have f3 : (a.dst == b.dst) = false:=by rw [beq_eq_false_iff_ne];exact h3
  have HN:=yh h3
  clear h3 hes
  go_enter Tryz.func55,Tryz.ntmps55
  go_wp2
  go_ret
  exact ⟨Kak (by rw [HF.out,decide_eq_false HN.out];simp),HX.out⟩
 have f3 : (a.dst == b.dst) = true:=by rw [beq_iff_eq];exact h3
 have H3:=yh h3
 clear h3
 by_cases h4 : a.type = b.type
 rotate_left
 ·rw [decide_eq_false h4] at hes
  have HN:=yh h4
  clear h4
  go_enter Tryz.func55,Tryz.ntmps55
  go_wp2
  go_ret
  exact ⟨Kak (by rw [HF.out,decide_eq_false HN.out];simp),HX.out⟩
 rw [decide_eq_true h4] at hes
 have H4:=yh h4
 clear h4
 go_enter Tryz.func55,Tryz.ntmps55
 go_wp2_with (go_at_call 116;refine HP.out.mono ?_;rintro e W3 ⟨rfl,hb⟩;have HB3:=yh (Kaa HX.out hb);clear hb)
 go_ret
 exact ⟨Kak (by rw [HF.out,decide_eq_true H1.out,decide_eq_true H2.out,decide_eq_true H3.out,decide_eq_true H4.out];rfl),HB3.out⟩
theorem sameRefG_any {w : World} {a b : GraphD} {x y : Array Value} (ha : GrRd w a x) (hb : GrRd w b y) : Calls Tryz.prog 17 #[.agg x,.agg y] w fun e w'=>e = .returned (.bool (Kcq a b)) ∧ Below w.heap.size w w':=by
 obtain ⟨pn,cn,pr,cr,rfl,hna,hra⟩:=ha
 obtain ⟨qn,dn,qr,dr,rfl,hnb,hrb⟩:=hb
 have hb1:=Kai (w:=w) (.cells #[.slice pn a.nodes.length cn,.slice pr a.rels.length cr,.int .i64 a.nextNode,.int .i64 a.nextRel] 25)
 have hb2:=Kai (w:=w.alloc (.cells #[.slice pn a.nodes.length cn,.slice pr a.rels.length cr,.int .i64 a.nextNode,.int .i64 a.nextRel] 25)) (.cells #[.slice qn b.nodes.length dn,.slice qr b.rels.length dr,.int .i64 b.nextNode,.int .i64 b.nextRel] 25)
 have hbc:=Kaa hb1 hb2
 have hx8:=Kal hb2 (by simp) (heap_alloc_new w (.cells #[.slice pn a.nodes.length cn,.slice pr a.rels.length cr,.int .i64 a.nextNode,.int .i64 a.nextRel] 25))
 have hx9:=heap_alloc_new (w.alloc (.cells #[.slice pn a.nodes.length cn,.slice pr a.rels.length cr,.int .i64 a.nextNode,.int .i64 a.nextRel] 25)) (.cells #[.slice qn b.nodes.length dn,.slice qr b.rels.length dr,.int .i64 b.nextNode,.int .i64 b.nextRel] 25)
 simp only [World.size_alloc] at hx9
 have z1 : (a.nodes.length : Int) ≤ 140737488355328:=by have:=hna.1.2.1;omega
 have z2 : (a.rels.length : Int) ≤ 140737488355328:=by have:=hra.1.2.1;omega
 have z3 : (b.nodes.length : Int) ≤ 140737488355328:=by have:=hnb.1.2.1;omega
 have z4 : (b.rels.length : Int) ≤ 140737488355328:=by have:=hrb.1.2.1;omega
 have HX:=yh hbc
 have hn1:=hna.below (fun h=>h.below hbc) hbc
 have hn2:=hnb.below (fun h=>h.below hbc) hbc
 have hr1:=hra.below (fun h=>h.below hbc) hbc
 have hr2:=hrb.below (fun h=>h.below hbc) hbc
 have HN:=yh (And.intro hn1 hn2)
 have HR:=yh (And.intro hr1 hr2)
 have q1 : ((w.alloc (.cells #[.slice pn a.nodes.length cn,.slice pr a.rels.length cr,.int .i64 a.nextNode,.int .i64 a.nextRel] 25)).alloc (.cells #[.slice qn b.nodes.length dn,.slice qr b.rels.length dr,.int .i64 b.nextNode,.int .i64 b.nextRel] 25)).cell? ⟨w.heap.size,0,none⟩ = some (.slice pn a.nodes.length cn):=Kag (o:=0) hx8 rfl
 have q2 : ((w.alloc (.cells #[.slice pn a.nodes.length cn,.slice pr a.rels.length cr,.int .i64 a.nextNode,.int .i64 a.nextRel] 25)).alloc (.cells #[.slice qn b.nodes.length dn,.slice qr b.rels.length dr,.int .i64 b.nextNode,.int .i64 b.nextRel] 25)).cell? ⟨w.heap.size + 1,0,none⟩ = some (.slice qn b.nodes.length dn):=Kag (o:=0) hx9 rfl
 have q3 : ((w.alloc (.cells #[.slice pn a.nodes.length cn,.slice pr a.rels.length cr,.int .i64 a.nextNode,.int .i64 a.nextRel] 25)).alloc (.cells #[.slice qn b.nodes.length dn,.slice qr b.rels.length dr,.int .i64 b.nextNode,.int .i64 b.nextRel] 25)).cell? ⟨w.heap.size,1,none⟩ = some (.slice pr a.rels.length cr):=Kag (o:=1) hx8 rfl
 have q4 : ((w.alloc (.cells #[.slice pn a.nodes.length cn,.slice pr a.rels.length cr,.int .i64 a.nextNode,.int .i64 a.nextRel] 25)).alloc (.cells #[.slice qn b.nodes.length dn,.slice qr b.rels.length dr,.int .i64 b.nextNode,.int .i64 b.nextRel] 25)).cell? ⟨w.heap.size + 1,1,none⟩ = some (.slice qr b.rels.length dr):=Kag (o:=1) hx9 rfl
 have HC:=yh (And.intro q1 (And.intro q2 (And.intro q3 q4)))
 clear hb1 hb2 hbc hx8 hx9 hna hnb hra hrb hn1 hn2 hr1 hr2 q1 q2 q3 q4
 have HQ1:=yh (fun e : ¬ a.nextNode = b.nextNode=>show Kcq a b = false by unfold Kcq;rw [decide_eq_false e];simp)
 have HQ2:=yh (fun e : ¬ a.nextRel = b.nextRel=>show Kcq a b = false by unfold Kcq;rw [decide_eq_false e];simp)
 have HQ3:=yh (fun e : ¬ a.nodes.length = b.nodes.length=>show Kcq a b = false by unfold Kcq;rw [all2_ne e];simp)
 have HQ4:=yh (fun e : ¬ a.rels.length = b.rels.length=>show Kcq a b = false by unfold Kcq;rw [all2_ne e];simp)
 have HNO:=yh (And.intro (fun e : all2 sameNQ a.nodes b.nodes = false=>show Kcq a b = false by unfold Kcq;rw [e];simp) (fun e : all2 sameRQ a.rels b.rels = false=>show Kcq a b = false by unfold Kcq;rw [e];simp))
 have HYES:=yh (fun (e3 : a.nextNode = b.nextNode) (e4 : a.nextRel = b.nextRel) (e1 : all2 sameNQ a.nodes b.nodes = true) (e2 : all2 sameRQ a.rels b.rels = true)=>show Kcq a b = true by unfold Kcq;rw [e1,e2,decide_eq_true e3,decide_eq_true e4];rfl)
 generalize a.nextNode = m1 at *
 generalize b.nextNode = m2 at *
 generalize a.nextRel = m3 at *
 generalize b.nextRel = m4 at *
 by_cases h1 : m1 = m2
 rotate_left
 ·have f1 : (m1 == m2) = false:=by rw [beq_eq_false_iff_ne];exact h1
  have f1b : (m1 != m2) = true:=by simp [h1]
  have HF:=yh (HQ1.out h1)
  clear h1
  go_enter Tryz.func17,Tryz.ntmps17
  go_wp2
  go_ret
  exact ⟨Kak HF.out.symm,HX.out⟩
 subst h1
 by_cases h2 : m3 = m4
 rotate_left
 ·have f2 : (m3 == m4) = false:=by rw [beq_eq_false_iff_ne];exact h2
  have f2b : (m3 != m4) = true:=by simp [h2]
  have HF:=yh (HQ2.out h2)
  clear h2
  go_enter Tryz.func17,Tryz.ntmps17
  go_wp2
  go_ret
  exact ⟨Kak HF.out.symm,HX.out⟩
 subst h2
 by_cases h3 : a.nodes.length = b.nodes.length
 rotate_left
 ·have f3 : ¬ (a.nodes.length : Int) = (b.nodes.length : Int):=by omega
  have k3 : ((a.nodes.length : Int) == (b.nodes.length : Int)) = false:=by rw [beq_eq_false_iff_ne];exact f3
  have HF:=yh (HQ3.out h3)
  clear h3
  go_enter Tryz.func17,Tryz.ntmps17
  go_wp2
  go_ret
  exact ⟨Kak HF.out.symm,HX.out⟩
 have HL1:=yh h3
 have f3 : (b.nodes.length : Int) = (a.nodes.length : Int):=by omega
 clear h3
 by_cases h4 : a.rels.length = b.rels.length
 rotate_left
 ·have f4 : ¬ (a.rels.length : Int) = (b.rels.length : Int):=by omega
  have k4 : ((a.rels.length : Int) == (b.rels.length : Int)) = false:=by rw [beq_eq_false_iff_ne];exact f4
  have HF:=yh (HQ4.out h4)
  clear h4
  go_enter Tryz.func17,Tryz.ntmps17
  go_wp2
  go_ret
  exact ⟨Kak HF.out.symm,HX.out⟩
 have HL2:=yh h4
 have f4 : (b.rels.length : Int) = (a.rels.length : Int):=by omega
 clear h4
 go_enter Tryz.func17,Tryz.ntmps17
 go_wp2
 clear f3 f4
 obtain ⟨w2,hw2⟩ : ∃ w2,w2 = ((w.alloc (.cells #[.slice pn a.nodes.length cn,.slice pr a.rels.length cr,.int .i64 m1,.int .i64 m3] 25)).alloc (.cells #[.slice qn b.nodes.length dn,.slice qr b.rels.length dr,.int .i64 m1,.int .i64 m3] 25)):=⟨_,rfl⟩
 rw [← hw2] at HX HN HR HC ⊢
 clear hw2
 go_loopw [5] (fun i W=>∃ j : Nat,j ≤ a.nodes.length ∧ i = .int .i64 (j : Int) ∧ Hid (AllJ sameNQ a.nodes b.nodes j ∧ Below w2.heap.size w2 W)) (fun i _=>a.nodes.length - (intOf i).toNat)
 case atStart=>exact ⟨0,Nat.zero_le _,rfl,yh ⟨AllJ.zero _ _ _,Below.refl _ _⟩⟩
 case round =>
  obtain ⟨j,hj,rfl,HI⟩:=hrel
  have gw : wr.cell? ⟨w.heap.size,0,none⟩ = some (.slice pn a.nodes.length cn):=Kae HI.out.2 (ltOf HC.out.1) HC.out.1
  by_cases hlt : j < a.nodes.length
  ·have hlt1 : j + 1 ≤ a.nodes.length:=hlt
   have hltb : j < b.nodes.length:=by have:=HL1.out;omega
   obtain ⟨b1,o1,y1,rfl,hs1,hcc1,hv1⟩:=(HN.out.1.below (fun h=>h.below HI.out.2) HI.out.2).get hlt
   obtain ⟨b2,o2,y2,rfl,hs2,hcc2,hv2⟩:=(HN.out.2.below (fun h=>h.below HI.out.2) HI.out.2).get hltb
   have g1:=gw
   have g2 : wr.cell? ⟨w.heap.size + 1,0,none⟩ = some (.slice (some ⟨b2,o2,none⟩) b.nodes.length dn):=Kae HI.out.2 (ltOf HC.out.2.1) HC.out.2.1
   have hi1 : ∀ W' : World,(Instr.indexAt 22 (.slice (some ⟨b1,o1,none⟩) a.nodes.length cn) (.int .i64 (j : Int))).run Tryz.prog W' = .ok (.pointer (some ⟨b1,o1 + j * 3,none⟩)) W':=fun W'=>ia_node hlt W'
   have hi2 : ∀ W' : World,(Instr.indexAt 22 (.slice (some ⟨b2,o2,none⟩) b.nodes.length dn) (.int .i64 (j : Int))).run Tryz.prog W' = .ok (.pointer (some ⟨b2,o2 + j * 3,none⟩)) W':=fun W'=>ia_node hltb W'
   have hal:=fun W (g : Below wr.heap.size wr W)=>sameNodeD_any (hv1.below g) (hv2.below g)
   have hno:=all2_no (f:=sameNQ) (j:=j) hlt hltb
   have hye:=HI.out.1.succ hlt hltb
   generalize sameNQ a.nodes[j] b.nodes[j] = av at *
   have HM:=yh (And.intro hno hye)
   have HB1:=yh HI.out.2
   have hB0 : Below wr.heap.size wr wr.drew:=(Below.refl _ wr).drew
   have HY:=yh (And.intro hi1 (And.intro hi2 (And.intro hal (And.intro g1 (And.intro g2 (And.intro hs1 (And.intro hs2 (And.intro hcc1 (And.intro hcc2 hB0)))))))))
   clear hi1 hi2 hal g1 g2 hs1 hs2 hcc1 hcc2 hv1 hv2 hB0 hno hye HI
   go_wp2
   clear gw
   obtain ⟨hi1,hi2,hal,g1,g2,hs1,hs2,hc1,hc2,hB0⟩:=HY.out
   refine Kah (fun W=>Below wr.heap.size wr W) (by kernel_rfl) hB0 (fun hS=>?_)
   refine tk 0 44 (v:=.pointer (some ⟨w.heap.size,0,none⟩)) rfl rfl (fun W hW=>Kac rfl rfl (fa_gr 0 (by omega) _ W)) ?_
   simp only [Act.put,sA,sZ,sS]
   refine tk 1 45 (v:=.slice (some ⟨b1,o1,none⟩) a.nodes.length cn) rfl rfl (fun W hW=>Kad rfl rfl (Kaf (w:=W) Tryz.underlying22 rfl (Kae hW (ltOf g1) g1))) ?_
   simp only [Act.put,sA,sZ,sS]
   refine tk 2 46 (v:=.int .i64 (j : Int)) rfl rfl (fun W hW=>Kab rfl rfl) ?_
   simp only [Act.put,sA,sZ,sS]
   refine tk 3 47 (v:=.pointer (some ⟨b1,o1 + j * 3,none⟩)) rfl rfl (fun W hW=>Kaj rfl rfl rfl (hi1 W)) ?_
   simp only [Act.put,sA,sZ,sS]
   refine tk 4 48 (v:=.agg y1) rfl rfl (fun W hW=>Kad rfl rfl (StT.load (P:=Tryz.prog) (W:=W) Kbd hs1 fun i u hu=>Kae hW (ltOf (hc1 i u hu)) (hc1 i u hu))) ?_
   simp only [Act.put,sA,sZ,sS]
   refine tk 5 49 (v:=.pointer (some ⟨w.heap.size + 1,0,none⟩)) rfl rfl (fun W hW=>Kac rfl rfl (fa_gr 0 (by omega) _ W)) ?_
   simp only [Act.put,sA,sZ,sS]
   refine tk 6 50 (v:=.slice (some ⟨b2,o2,none⟩) b.nodes.length dn) rfl rfl (fun W hW=>Kad rfl rfl (Kaf (w:=W) Tryz.underlying22 rfl (Kae hW (ltOf g2) g2))) ?_
   simp only [Act.put,sA,sZ,sS]
   refine tk 7 51 (v:=.int .i64 (j : Int)) rfl rfl (fun W hW=>Kab rfl rfl) ?_
   simp only [Act.put,sA,sZ,sS]
   refine tk 8 52 (v:=.pointer (some ⟨b2,o2 + j * 3,none⟩)) rfl rfl (fun W hW=>Kaj rfl rfl rfl (hi2 W)) ?_
   simp only [Act.put,sA,sZ,sS]
   refine tk 9 53 (v:=.agg y2) rfl rfl (fun W hW=>Kad rfl rfl (StT.load (P:=Tryz.prog) (W:=W) Kbd hs2 fun i u hu=>Kae hW (ltOf (hc2 i u hu)) (hc2 i u hu))) ?_
   simp only [Act.put,sA,sZ,sS]
   refine Kao 10 54 rfl rfl (by kernel_rfl) rfl (Kan [.agg y1,.agg y2] rfl rfl Tryz.func54 (by kernel_rfl) (by kernel_rfl)) ?_
   refine (hal _ hS).mono ?_
   rintro e W10 ⟨rfl,hb10⟩
   have hS10:=Kaa hS hb10
   refine ⟨_,rfl,.inr hS10,?_⟩
   simp only [Act.put,sA,sZ,sS]
   refine tk 11 55 (v:=.bool (!av)) rfl rfl (fun W hW=>Kap rfl rfl) ?_
   simp only [Act.put,sA,sZ,sS]
   refine done (by kernel_rfl) ?_ _
   have HB:=yh (Kaa HB1.out hS10)
   clear hi1 hi2 hal g1 g2 hs1 hs2 hc1 hc2 hB0 hS HY hS10 hb10
   cases av with
   | false =>
     have HF:=yh (HNO.out.1 (HM.out.1 rfl))
     clear HM
     go_wp2
     go_ret
     exact ⟨Kak HF.out.symm,Kaa HX.out HB.out⟩
   | true =>
     go_wp2
     go_roundw
     case rel=>exact ⟨j + 1,hlt1,by go_num,yh ⟨HM.out.2 rfl,HB.out⟩⟩
     case measure=>simp [intOf];omega
  ·obtain rfl : j = a.nodes.length:=by omega
   have HAN:=yh (HI.out.1.all HL1.out)
   have HB:=yh HI.out.2
   clear HI
   have gr : wr.cell? ⟨w.heap.size,1,none⟩ = some (.slice pr a.rels.length cr):=Kae HB.out (ltOf HC.out.2.2.1) HC.out.2.2.1
   go_wp2
   clear gw gr
   go_loopw [6] (fun i W=>∃ j : Nat,j ≤ a.rels.length ∧ i = .int .i64 (j : Int) ∧ Hid (AllJ sameRQ a.rels b.rels j ∧ Below w2.heap.size w2 W)) (fun i _=>a.rels.length - (intOf i).toNat)
   case atStart=>exact ⟨0,Nat.zero_le _,rfl,yh ⟨AllJ.zero _ _ _,HB.out⟩⟩
   case round =>
    obtain ⟨j,hj,rfl,HI⟩:=hrel
    have gw : wr.cell? ⟨w.heap.size,1,none⟩ = some (.slice pr a.rels.length cr):=Kae HI.out.2 (ltOf HC.out.2.2.1) HC.out.2.2.1
    by_cases hlt : j < a.rels.length
    ·have hlt1 : j + 1 ≤ a.rels.length:=hlt
     have hltb : j < b.rels.length:=by have:=HL2.out;omega
     obtain ⟨b1,o1,y1,rfl,hs1,hcc1,hv1⟩:=(HR.out.1.below (fun h=>h.below HI.out.2) HI.out.2).get hlt
     obtain ⟨b2,o2,y2,rfl,hs2,hcc2,hv2⟩:=(HR.out.2.below (fun h=>h.below HI.out.2) HI.out.2).get hltb
     have g1:=gw
     have g2 : wr.cell? ⟨w.heap.size + 1,1,none⟩ = some (.slice (some ⟨b2,o2,none⟩) b.rels.length dr):=Kae HI.out.2 (ltOf HC.out.2.2.2) HC.out.2.2.2
     have hi1 : ∀ W' : World,(Instr.indexAt 23 (.slice (some ⟨b1,o1,none⟩) a.rels.length cr) (.int .i64 (j : Int))).run Tryz.prog W' = .ok (.pointer (some ⟨b1,o1 + j * 5,none⟩)) W':=fun W'=>ia_rel hlt W'
     have hi2 : ∀ W' : World,(Instr.indexAt 23 (.slice (some ⟨b2,o2,none⟩) b.rels.length dr) (.int .i64 (j : Int))).run Tryz.prog W' = .ok (.pointer (some ⟨b2,o2 + j * 5,none⟩)) W':=fun W'=>ia_rel hltb W'
     have hal:=fun W (g : Below wr.heap.size wr W)=>sameRelD_any (hv1.below g) (hv2.below g)
     have hno:=all2_no (f:=sameRQ) (j:=j) hlt hltb
     have hye:=HI.out.1.succ hlt hltb
     generalize sameRQ a.rels[j] b.rels[j] = av at *
     have HM:=yh (And.intro hno hye)
     have HB1:=yh HI.out.2
     have hB0 : Below wr.heap.size wr wr.drew:=(Below.refl _ wr).drew
     have HY:=yh (And.intro hi1 (And.intro hi2 (And.intro hal (And.intro g1 (And.intro g2 (And.intro hs1 (And.intro hs2 (And.intro hcc1 (And.intro hcc2 hB0)))))))))
     clear hi1 hi2 hal g1 g2 hs1 hs2 hcc1 hcc2 hv1 hv2 hB0 hno hye HI
     go_wp2
     clear gw
     obtain ⟨hi1,hi2,hal,g1,g2,hs1,hs2,hc1,hc2,hB0⟩:=HY.out
     refine Kah (fun W=>Below wr.heap.size wr W) (by kernel_rfl) hB0 (fun hS=>?_)
     refine tk 0 63 (v:=.pointer (some ⟨w.heap.size,1,none⟩)) rfl rfl (fun W hW=>Kac rfl rfl (fa_gr 1 (by omega) _ W)) ?_
     simp only [Act.put,sA,sZ,sS]
     refine tk 1 64 (v:=.slice (some ⟨b1,o1,none⟩) a.rels.length cr) rfl rfl (fun W hW=>Kad rfl rfl (Kaf (w:=W) Tryz.underlying23 rfl (Kae hW (ltOf g1) g1))) ?_
     simp only [Act.put,sA,sZ,sS]
     refine tk 2 65 (v:=.int .i64 (j : Int)) rfl rfl (fun W hW=>Kab rfl rfl) ?_
     simp only [Act.put,sA,sZ,sS]
     refine tk 3 66 (v:=.pointer (some ⟨b1,o1 + j * 5,none⟩)) rfl rfl (fun W hW=>Kaj rfl rfl rfl (hi1 W)) ?_
     simp only [Act.put,sA,sZ,sS]
     refine tk 4 67 (v:=.agg y1) rfl rfl (fun W hW=>Kad rfl rfl (StT.load (P:=Tryz.prog) (W:=W) Kb1 hs1 fun i u hu=>Kae hW (ltOf (hc1 i u hu)) (hc1 i u hu))) ?_
     simp only [Act.put,sA,sZ,sS]
     refine tk 5 68 (v:=.pointer (some ⟨w.heap.size + 1,1,none⟩)) rfl rfl (fun W hW=>Kac rfl rfl (fa_gr 1 (by omega) _ W)) ?_
     simp only [Act.put,sA,sZ,sS]
     refine tk 6 69 (v:=.slice (some ⟨b2,o2,none⟩) b.rels.length dr) rfl rfl (fun W hW=>Kad rfl rfl (Kaf (w:=W) Tryz.underlying23 rfl (Kae hW (ltOf g2) g2))) ?_
     simp only [Act.put,sA,sZ,sS]
     refine tk 7 70 (v:=.int .i64 (j : Int)) rfl rfl (fun W hW=>Kab rfl rfl) ?_
     simp only [Act.put,sA,sZ,sS]
     refine tk 8 71 (v:=.pointer (some ⟨b2,o2 + j * 5,none⟩)) rfl rfl (fun W hW=>Kaj rfl rfl rfl (hi2 W)) ?_
     simp only [Act.put,sA,sZ,sS]
     refine tk 9 72 (v:=.agg y2) rfl rfl (fun W hW=>Kad rfl rfl (StT.load (P:=Tryz.prog) (W:=W) Kb1 hs2 fun i u hu=>Kae hW (ltOf (hc2 i u hu)) (hc2 i u hu))) ?_
     simp only [Act.put,sA,sZ,sS]
     refine Kao 10 73 rfl rfl (by kernel_rfl) rfl (Kan [.agg y1,.agg y2] rfl rfl Tryz.func55 (by kernel_rfl) (by kernel_rfl)) ?_
     refine (hal _ hS).mono ?_
     rintro e W10 ⟨rfl,hb10⟩
     have hS10:=Kaa hS hb10
     refine ⟨_,rfl,.inr hS10,?_⟩
     simp only [Act.put,sA,sZ,sS]
     refine tk 11 74 (v:=.bool (!av)) rfl rfl (fun W hW=>Kap rfl rfl) ?_
     simp only [Act.put,sA,sZ,sS]
     refine done (by kernel_rfl) ?_ _
     have HB:=yh (Kaa HB1.out hS10)
     clear hi1 hi2 hal g1 g2 hs1 hs2 hc1 hc2 hB0 hS HY hS10 hb10
     cases av with
     | false =>
       have HF:=yh (HNO.out.2 (HM.out.1 rfl))
       clear HM
       go_wp2
       go_ret
       exact ⟨Kak HF.out.symm,Kaa HX.out HB.out⟩
     | true =>
       go_wp2
       go_roundw
       case rel=>exact ⟨j + 1,hlt1,by go_num,yh ⟨HM.out.2 rfl,HB.out⟩⟩
       case measure=>simp [intOf];omega
    ·obtain rfl : j = a.rels.length:=by omega
     have HAR:=yh (HI.out.1.all HL2.out)
     have HB:=yh HI.out.2
     clear HI
     go_wp2
     go_ret
     exact ⟨Kak (HYES.out trivial trivial HAN.out HAR.out).symm,Kaa HX.out HB.out⟩
def SomeB (e : Ending) : Prop:=∃ b : Bool,e = .returned (.bool b)
theorem heavy_any {w : World} {p : Option Addr} {c : Nat} {l : List PropD} (h : GRd PRd 7 w p c l) (ht : ∀ x ∈ l,totV x.val ≤ 1099511627776) : Calls Tryz.prog 31 #[.slice p l.length c] w fun e w'=>SomeB e ∧ Below w.heap.size w w':=by
 have z1 : (l.length : Int) ≤ 140737488355328:=by have:=h.1.2.1;omega
 have H:=yh (And.intro h ht)
 clear h ht
 go_enter Tryz.func31,Tryz.ntmps31
 go_wp2
 go_loopw [3] (fun i W=>∃ j : Nat,j ≤ l.length ∧ i = .int .i64 (j : Int) ∧ Hid (Below w.heap.size w W)) (fun i _=>l.length - (intOf i).toNat)
 case atStart=>exact ⟨0,Nat.zero_le _,rfl,yh (Below.refl _ _)⟩
 case round =>
  obtain ⟨j,hj,rfl,HI⟩:=hrel
  by_cases hlt : j < l.length
  ·have hlt1 : j + 1 ≤ l.length:=hlt
   obtain ⟨b1,o1,cs1,rfl,_,hcc1,hv1⟩:=(H.out.1.below (fun h=>h.below HI.out) HI.out).get hlt
   have hto:=H.out.2 _ (List.getElem_mem hlt)
   obtain ⟨q1,hkl,y1,hu1,r1⟩:=Kdr hv1 hcc1
   have HL:=yh (StT.load (P:=Tryz.prog) (W:=wr) Kc9 (Kc7.size hu1) fun i u hu=>r1 i u hu)
   have HZ:=yh (sizeR_any _ wr y1 hto hu1)
   have HK:=yh q1
   have hsz : (strB l[j].key).size = l[j].key.length:=by simp [strB,ByteArray.size]
   clear hcc1 hv1 hu1 r1 hto q1
   generalize (countV l[j].val : Int) = n1 at *
   generalize (Kb7 l[j].val : Int) = n2 at *
   generalize l[j].key = s at *
   by_cases a1 : 200 < n1
   ·have a1b : decide (200 < n1) = true:=decide_eq_true a1
    clear a1
    go_wp2_with (first
     | ((with_reducible apply Kaq);exact HL.out;exact rfl)
     | (go_at_call 32;refine HZ.out.mono ?_;rintro e W2 ⟨rfl,hb⟩;have HB:=yh (Kaa HI.out hb);have hk0:=Kae hb (ltOf HK.out) HK.out;clear hb))
    go_ret
    exact ⟨⟨_,rfl⟩,HB.out⟩
   have a1b : decide (200 < n1) = false:=decide_eq_false a1
   clear a1
   by_cases a2 : 5000 < n2
   ·have a2b : decide (5000 < n2) = true:=decide_eq_true a2
    clear a2
    go_wp2_with (first
     | ((with_reducible apply Kaq);exact HL.out;exact rfl)
     | (go_at_call 32;refine HZ.out.mono ?_;rintro e W2 ⟨rfl,hb⟩;have HB:=yh (Kaa HI.out hb);have hk0:=Kae hb (ltOf HK.out) HK.out;clear hb))
    go_ret
    exact ⟨⟨_,rfl⟩,HB.out⟩
   have a2b : decide (5000 < n2) = false:=decide_eq_false a2
   clear a2
   by_cases a3 : 1000 < (s.length : Int)
   ·have a3b : decide (1000 < (s.length : Int)) = true:=decide_eq_true a3
    go_wp2_with (first
     | ((with_reducible apply Kaq);exact HL.out;exact rfl)
     | (go_at_call 32;refine HZ.out.mono ?_;rintro e W2 ⟨rfl,hb⟩;have HB:=yh (Kaa HI.out hb);have hk0:=Kae hb (ltOf HK.out) HK.out;clear hb))
    go_ret
    exact ⟨⟨_,rfl⟩,HB.out⟩
   ·have a3b : decide (1000 < (s.length : Int)) = false:=decide_eq_false a3
    go_wp2_with (first
     | ((with_reducible apply Kaq);exact HL.out;exact rfl)
     | (go_at_call 32;refine HZ.out.mono ?_;rintro e W2 ⟨rfl,hb⟩;have HB:=yh (Kaa HI.out hb);have hk0:=Kae hb (ltOf HK.out) HK.out;clear hb))
    go_roundw
    case rel=>exact ⟨j + 1,hlt1,by go_num,HB⟩
    case measure=>simp [intOf];omega
  ·obtain rfl : j = l.length:=by omega
   go_wp2
   go_ret
   exact ⟨⟨_,rfl⟩,HI.out⟩
theorem exec_lenPs {a : Act} {w : World} {o : Oper} {x : Operand} {p : Option Addr} {n c : Nat} (ho : o.op = .call { callee:=.builtin .len,args:=#[x],argTypes:=#[27] }) (hx : a.eval x = .slice p n c) : (execOp a.eval o).run Tryz.prog w = .ok (.value (.int .i64 (n : Int))) w:=by
 unfold execOp;simp only [ho,resolve,invoke,Sem.run_bind,Sem.run_pure,Result.andThen_ok,List.map_toArray,List.map_cons,List.map_nil,hx];simp [go_sem]
theorem exec_lenTs {a : Act} {w : World} {o : Oper} {x : Operand} {p : Option Addr} {n c : Nat} (ho : o.op = .call { callee:=.builtin .len,args:=#[x],argTypes:=#[26] }) (hx : a.eval x = .slice p n c) : (execOp a.eval o).run Tryz.prog w = .ok (.value (.int .i64 (n : Int))) w:=by
 unfold execOp;simp only [ho,resolve,invoke,Sem.run_bind,Sem.run_pure,Result.andThen_ok,List.map_toArray,List.map_cons,List.map_nil,hx];simp [go_sem]
theorem add_len {n m : Nat} (h1 : n ≤ 140737488355328) (h2 : m ≤ 140737488355328) (W : World) : (binOp .add 3 (.int .i64 (n : Int)) (.int .i64 (m : Int))).run Tryz.prog W = .ok (.int .i64 ((n : Int) + (m : Int))) W:=by
 have e : IntKind.i64.wrap ((n : Int) + (m : Int)) = (n : Int) + (m : Int):=by rw [IntKind.wrap_i64];omega
 simp [go_sem,e]
theorem gtr_12 (n : Int) (W : World) : (binOp .gtr 3 (.int .i64 n) (.int .i64 12)).run Tryz.prog W = .ok (.bool (decide (12 < n))) W:=by simp [go_sem]
theorem fa_ndo (i : Nat) (h : i < 3) (b o : Nat) (W : World) : (Instr.fieldAt 45 (.pointer (some ⟨b,o,none⟩)) i).run Tryz.prog W = .ok (.pointer (some ⟨b,o + i,none⟩)) W:=by
 match i,h with
 | 0,_=>simp [go_sem]
 | 1,_=>simp [go_sem]
 | 2,_=>simp [go_sem]
def VastB (g : GraphD) (e : Ending) : Prop:=∃ b : Bool,e = .returned (.bool b) ∧ (b = false → g.nodes.length ≤ 60 ∧ g.rels.length ≤ 60)
theorem vastL_any {w : World} {g : GraphD} {x : Array Value} (h : GrRd w g x) (ht : GTot g) : Calls Tryz.prog 9 #[.agg x] w fun e w'=>VastB g e ∧ Below w.heap.size w w':=by
 obtain ⟨pn,cn,pr,cr,rfl,hn,hr⟩:=h
 have hb1:=Kai (w:=w) (.cells #[.slice pn g.nodes.length cn,.slice pr g.rels.length cr,.int .i64 g.nextNode,.int .i64 g.nextRel] 25)
 have hx1:=heap_alloc_new w (.cells #[.slice pn g.nodes.length cn,.slice pr g.rels.length cr,.int .i64 g.nextNode,.int .i64 g.nextRel] 25)
 have p0 : (w.alloc (.cells #[.slice pn g.nodes.length cn,.slice pr g.rels.length cr,.int .i64 g.nextNode,.int .i64 g.nextRel] 25)).cell? ⟨w.heap.size,0,none⟩ = some (.slice pn g.nodes.length cn):=Kag (o:=0) hx1 rfl
 have p1 : (w.alloc (.cells #[.slice pn g.nodes.length cn,.slice pr g.rels.length cr,.int .i64 g.nextNode,.int .i64 g.nextRel] 25)).cell? ⟨w.heap.size,1,none⟩ = some (.slice pr g.rels.length cr):=Kag (o:=1) hx1 rfl
 have z1 : (g.nodes.length : Int) ≤ 140737488355328:=by have:=hn.1.2.1;omega
 have z2 : (g.rels.length : Int) ≤ 140737488355328:=by have:=hr.1.2.1;omega
 have hn1:=hn.below (fun h=>h.below hb1) hb1
 have hr1:=hr.below (fun h=>h.below hb1) hb1
 have HX:=yh hb1
 have HC:=yh (And.intro p0 p1)
 have HN:=yh (And.intro hn1 hr1)
 have HT:=yh ht
 clear hn hr hb1 hx1 p0 p1 hn1 hr1 ht
 by_cases a1 : (60 : Int) < (g.nodes.length : Int)
 ·have a1b : decide ((60 : Int) < (g.nodes.length : Int)) = true:=decide_eq_true a1
  go_enter Tryz.func9,Tryz.ntmps9
  go_wp2
  go_ret
  exact ⟨⟨_,rfl,by first | (intro _;exact HLN.out) | (intro h;cases h)⟩,HX.out⟩
 have a1b : decide ((60 : Int) < (g.nodes.length : Int)) = false:=decide_eq_false a1
 by_cases a2 : (60 : Int) < (g.rels.length : Int)
 ·have a2b : decide ((60 : Int) < (g.rels.length : Int)) = true:=decide_eq_true a2
  go_enter Tryz.func9,Tryz.ntmps9
  go_wp2
  go_ret
  exact ⟨⟨_,rfl,by first | (intro _;exact HLN.out) | (intro h;cases h)⟩,HX.out⟩
 have a2b : decide ((60 : Int) < (g.rels.length : Int)) = false:=decide_eq_false a2
 have HLN:=yh (show g.nodes.length ≤ 60 ∧ g.rels.length ≤ 60 by omega)
 go_enter Tryz.func9,Tryz.ntmps9
 go_wp2
 clear a1 a1b a2 a2b
 obtain ⟨w2,hw2⟩ : ∃ w2,w2 = (w.alloc (.cells #[.slice pn g.nodes.length cn,.slice pr g.rels.length cr,.int .i64 g.nextNode,.int .i64 g.nextRel] 25)):=⟨_,rfl⟩
 rw [← hw2] at HX HN HC ⊢
 clear hw2
 go_loopw [3] (fun i W=>∃ j : Nat,j ≤ g.nodes.length ∧ i = .int .i64 (j : Int) ∧ Hid (Below w2.heap.size w2 W)) (fun i _=>g.nodes.length - (intOf i).toNat)
 case atStart=>exact ⟨0,Nat.zero_le _,rfl,yh (Below.refl _ _)⟩
 case round =>
  obtain ⟨j,hj,rfl,HI⟩:=hrel
  have gw : wr.cell? ⟨w.heap.size,0,none⟩ = some (.slice pn g.nodes.length cn):=Kae HI.out (ltOf HC.out.1) HC.out.1
  by_cases hlt : j < g.nodes.length
  ·have hlt1 : j + 1 ≤ g.nodes.length:=hlt
   obtain ⟨b1,o1,cs,rfl,_,hcc,hv⟩:=(HN.out.1.below (fun h=>h.below HI.out) HI.out).get hlt
   have htv:=HT.out.1 _ (List.getElem_mem hlt)
   obtain ⟨pl,cl,pp,cp,rfl,hls,hps⟩:=hv
   have g0:=gw
   have c1 : wr.cell? ⟨b1,o1 + j * 3 + 1,none⟩ = some (.slice pl g.nodes[j].labels.length cl):=hcc 1 _ rfl
   have c2 : wr.cell? ⟨b1,o1 + j * 3 + 2,none⟩ = some (.slice pp g.nodes[j].props.length cp):=hcc 2 _ rfl
   have hi1 : ∀ W' : World,(Instr.indexAt 22 (.slice (some ⟨b1,o1,none⟩) g.nodes.length cn) (.int .i64 (j : Int))).run Tryz.prog W' = .ok (.pointer (some ⟨b1,o1 + j * 3,none⟩)) W':=fun W'=>ia_node hlt W'
   have hhv:=fun W (gg : Below wr.heap.size wr W)=>heavy_any (w:=W) (hps.below (fun h=>h.below gg) gg) htv
   have hadd:=fun W=>add_len (n:=g.nodes[j].labels.length) (m:=g.nodes[j].props.length) (by have:=hls.2.1.1;omega) (by have:=hps.1.2.1;omega) W
   have h1:=fun W=>gtr_12 ((g.nodes[j].labels.length : Int) + (g.nodes[j].props.length : Int)) W
   generalize decide (12 < (g.nodes[j].labels.length : Int) + (g.nodes[j].props.length : Int)) = bA at *
   have HB1:=yh HI.out
   have hB0 : Below wr.heap.size wr wr.drew:=(Below.refl _ wr).drew
   clear hps hls hcc htv HI
   generalize g.nodes[j].labels.length = nl at *
   generalize g.nodes[j].props.length = np at *
   have HY:=yh (And.intro hi1 (And.intro hhv (And.intro hadd (And.intro h1 (And.intro g0 (And.intro c1 (And.intro c2 hB0)))))))
   clear hi1 hhv hadd h1 g0 c1 c2 hB0
   go_wp2
   clear gw
   obtain ⟨hi1,hhv,hadd,h1,g0,c1,c2,hB0⟩:=HY.out
   refine Kah (fun W=>Below wr.heap.size wr W) (by kernel_rfl) hB0 (fun hS=>?_)
   refine tk 0 22 (v:=.pointer (some ⟨w.heap.size,0,none⟩)) rfl rfl (fun W hW=>Kac rfl rfl (fa_gr 0 (by omega) _ W)) ?_
   simp only [Act.put,sA,sZ,sS]
   refine tk 1 23 (v:=.slice (some ⟨b1,o1,none⟩) g.nodes.length cn) rfl rfl (fun W hW=>Kad rfl rfl (Kaf (w:=W) Tryz.underlying22 rfl (Kae hW (ltOf g0) g0))) ?_
   simp only [Act.put,sA,sZ,sS]
   refine tk 2 24 (v:=.int .i64 (j : Int)) rfl rfl (fun W hW=>Kab rfl rfl) ?_
   simp only [Act.put,sA,sZ,sS]
   refine tk 3 25 (v:=.pointer (some ⟨b1,o1 + j * 3,none⟩)) rfl rfl (fun W hW=>Kaj rfl rfl rfl (hi1 W)) ?_
   simp only [Act.put,sA,sZ,sS]
   refine tk 4 26 (v:=.pointer (some ⟨b1,o1 + j * 3 + 1,none⟩)) rfl rfl (fun W hW=>Kac rfl rfl (fa_ndo 1 (by omega) _ _ W)) ?_
   simp only [Act.put,sA,sZ,sS]
   refine tk 5 27 (v:=.slice pl nl cl) rfl rfl (fun W hW=>Kad rfl rfl (Kaf (w:=W) Tryz.underlying26 rfl (Kae hW (ltOf c1) c1))) ?_
   simp only [Act.put,sA,sZ,sS]
   refine tk 6 28 (v:=.int .i64 (nl : Int)) rfl rfl (fun W hW=>exec_lenTs rfl rfl) ?_
   simp only [Act.put,sA,sZ,sS]
   refine tk 7 29 (v:=.pointer (some ⟨w.heap.size,0,none⟩)) rfl rfl (fun W hW=>Kac rfl rfl (fa_gr 0 (by omega) _ W)) ?_
   simp only [Act.put,sA,sZ,sS]
   refine tk 8 30 (v:=.slice (some ⟨b1,o1,none⟩) g.nodes.length cn) rfl rfl (fun W hW=>Kad rfl rfl (Kaf (w:=W) Tryz.underlying22 rfl (Kae hW (ltOf g0) g0))) ?_
   simp only [Act.put,sA,sZ,sS]
   refine tk 9 31 (v:=.int .i64 (j : Int)) rfl rfl (fun W hW=>Kab rfl rfl) ?_
   simp only [Act.put,sA,sZ,sS]
   refine tk 10 32 (v:=.pointer (some ⟨b1,o1 + j * 3,none⟩)) rfl rfl (fun W hW=>Kaj rfl rfl rfl (hi1 W)) ?_
   simp only [Act.put,sA,sZ,sS]
   refine tk 11 33 (v:=.pointer (some ⟨b1,o1 + j * 3 + 2,none⟩)) rfl rfl (fun W hW=>Kac rfl rfl (fa_ndo 2 (by omega) _ _ W)) ?_
   simp only [Act.put,sA,sZ,sS]
   refine tk 12 34 (v:=.slice pp np cp) rfl rfl (fun W hW=>Kad rfl rfl (Kaf (w:=W) Tryz.underlying27 rfl (Kae hW (ltOf c2) c2))) ?_
   simp only [Act.put,sA,sZ,sS]
   refine tk 13 35 (v:=.int .i64 (np : Int)) rfl rfl (fun W hW=>exec_lenPs rfl rfl) ?_
   simp only [Act.put,sA,sZ,sS]
   refine tk 14 36 (v:=.int .i64 ((nl : Int) + (np : Int))) rfl rfl (fun W hW=>Kam rfl rfl rfl (hadd W)) ?_
   simp only [Act.put,sA,sZ,sS]
   cases bA with
   | true =>
     refine tk 15 37 (v:=.bool true) rfl rfl (fun W hW=>Kam rfl rfl rfl (h1 W)) ?_
     simp only [Act.put,sA,sZ,sS]
     refine tk 16 38 (v:=.bool true) rfl rfl (fun W hW=>Kab rfl rfl) ?_
     simp only [Act.put,sA,sZ,sS]
     refine tn 17 39 rfl rfl ?_
     simp only [Act.put,sA,sZ,sS]
     refine tn 18 40 rfl rfl ?_
     simp only [Act.put,sA,sZ,sS]
     refine tn 19 41 rfl rfl ?_
     simp only [Act.put,sA,sZ,sS]
     refine tn 20 42 rfl rfl ?_
     simp only [Act.put,sA,sZ,sS]
     refine tn 21 43 rfl rfl ?_
     simp only [Act.put,sA,sZ,sS]
     refine tn 22 44 rfl rfl ?_
     simp only [Act.put,sA,sZ,sS]
     refine Kau 23 45 rfl rfl (by kernel_rfl) rfl ?_ (.inr (by assumption))
     simp only [Act.put,sA,sZ,sS]
     refine tk 24 46 (v:=.bool true) rfl rfl (fun W hW=>rfl) ?_
     simp only [Act.put,sA,sZ,sS]
     refine done (by kernel_rfl) ?_ _
     have HB:=yh (Kaa HB1.out hS)
     clear hS hi1 hhv hadd h1 g0 c1 c2 hB0 HY
     go_wp2
     go_ret
     exact ⟨⟨_,rfl,by first | (intro _;exact HLN.out) | (intro h;cases h)⟩,Kaa HX.out HB.out⟩
   | false =>
     refine tk 15 37 (v:=.bool false) rfl rfl (fun W hW=>Kam rfl rfl rfl (h1 W)) ?_
     simp only [Act.put,sA,sZ,sS]
     refine tk 16 38 (v:=.bool false) rfl rfl (fun W hW=>Kab rfl rfl) ?_
     simp only [Act.put,sA,sZ,sS]
     refine tk 17 39 (v:=.pointer (some ⟨w.heap.size,0,none⟩)) rfl rfl (fun W hW=>Kac rfl rfl (fa_gr 0 (by omega) _ W)) ?_
     simp only [Act.put,sA,sZ,sS]
     refine tk 18 40 (v:=.slice (some ⟨b1,o1,none⟩) g.nodes.length cn) rfl rfl (fun W hW=>Kad rfl rfl (Kaf (w:=W) Tryz.underlying22 rfl (Kae hW (ltOf g0) g0))) ?_
     simp only [Act.put,sA,sZ,sS]
     refine tk 19 41 (v:=.int .i64 (j : Int)) rfl rfl (fun W hW=>Kab rfl rfl) ?_
     simp only [Act.put,sA,sZ,sS]
     refine tk 20 42 (v:=.pointer (some ⟨b1,o1 + j * 3,none⟩)) rfl rfl (fun W hW=>Kaj rfl rfl rfl (hi1 W)) ?_
     simp only [Act.put,sA,sZ,sS]
     refine tk 21 43 (v:=.pointer (some ⟨b1,o1 + j * 3 + 2,none⟩)) rfl rfl (fun W hW=>Kac rfl rfl (fa_ndo 2 (by omega) _ _ W)) ?_
     simp only [Act.put,sA,sZ,sS]
     refine tk 22 44 (v:=.slice pp np cp) rfl rfl (fun W hW=>Kad rfl rfl (Kaf (w:=W) Tryz.underlying27 rfl (Kae hW (ltOf c2) c2))) ?_
     simp only [Act.put,sA,sZ,sS]
     refine Kao 23 45 rfl rfl (by kernel_rfl) rfl (Kan [.slice pp np cp] rfl rfl Tryz.func31 (by kernel_rfl) (by kernel_rfl)) ?_
     refine (hhv _ hS).mono ?_
     rintro e W23 ⟨⟨bh,rfl⟩,hb23⟩
     have hS23:=Kaa hS hb23
     refine ⟨_,rfl,.inr hS23,?_⟩
     simp only [Act.put,sA,sZ,sS]
     refine tk 24 46 (v:=.bool bh) rfl rfl (fun W hW=>rfl) ?_
     simp only [Act.put,sA,sZ,sS]
     refine done (by kernel_rfl) ?_ _
     have HB:=yh (Kaa HB1.out hS23)
     clear hS hS23 hb23 hi1 hhv hadd h1 g0 c1 c2 hB0 HY
     cases bh with
     | true =>
       go_wp2
       go_ret
       exact ⟨⟨_,rfl,by first | (intro _;exact HLN.out) | (intro h;cases h)⟩,Kaa HX.out HB.out⟩
     | false =>
       go_wp2
       go_roundw
       case rel=>exact ⟨j + 1,hlt1,by go_num,yh HB.out⟩
       case measure=>simp [intOf];omega
  ·obtain rfl : j = g.nodes.length:=by omega
   have HB:=yh HI.out
   have gr : wr.cell? ⟨w.heap.size,1,none⟩ = some (.slice pr g.rels.length cr):=Kae HB.out (ltOf HC.out.2) HC.out.2
   clear HI
   go_wp2
   clear gw gr
   go_loopw [4] (fun i W=>∃ j : Nat,j ≤ g.rels.length ∧ i = .int .i64 (j : Int) ∧ Hid (Below w2.heap.size w2 W)) (fun i _=>g.rels.length - (intOf i).toNat)
   case atStart=>exact ⟨0,Nat.zero_le _,rfl,yh HB.out⟩
   case round =>
    rename_i wr0 wr
    clear HB
    obtain ⟨j,hj,rfl,HI⟩:=hrel
    have gw : wr.cell? ⟨w.heap.size,1,none⟩ = some (.slice pr g.rels.length cr):=Kae HI.out (ltOf HC.out.2) HC.out.2
    by_cases hlt : j < g.rels.length
    ·have hlt1 : j + 1 ≤ g.rels.length:=hlt
     obtain ⟨b1,o1,cs,rfl,_,hcc,hv⟩:=(HN.out.2.below (fun h=>h.below HI.out) HI.out).get hlt
     have htv:=HT.out.2 _ (List.getElem_mem hlt)
     obtain ⟨pp,cp,rfl,hty,hps⟩:=hv
     have c4 : wr.cell? ⟨b1,o1 + j * 5 + 4,none⟩ = some (.slice pp g.rels[j].props.length cp):=hcc 4 _ rfl
     have HV:=yh (heavy_any hps htv)
     clear hps hty hcc htv
     generalize g.rels[j].props.length = np at *
     by_cases a3 : (12 : Int) < (np : Int)
     ·have a3b : decide ((12 : Int) < (np : Int)) = true:=decide_eq_true a3
      go_wp2
      go_ret
      exact ⟨⟨_,rfl,by first | (intro _;exact HLN.out) | (intro h;cases h)⟩,Kaa HX.out HI.out⟩
     have a3b : decide ((12 : Int) < (np : Int)) = false:=decide_eq_false a3
     go_wp2_with (go_at_call 31;refine HV.out.mono ?_;rintro e W2 ⟨⟨bh,rfl⟩,hb⟩;have HB:=yh (Kaa HI.out hb);clear hb;cases bh)
     ·go_roundw
      case rel=>exact ⟨j + 1,hlt1,by go_num,HB⟩
      case measure=>simp [intOf];omega
     ·go_ret
      exact ⟨⟨_,rfl,by first | (intro _;exact HLN.out) | (intro h;cases h)⟩,Kaa HX.out HB.out⟩
    ·obtain rfl : j = g.rels.length:=by omega
     go_wp2
     go_ret
     exact ⟨⟨_,rfl,by first | (intro _;exact HLN.out) | (intro h;cases h)⟩,Kaa HX.out HI.out⟩
theorem vast_any {w : World} {g : GraphD} {x : Array Value} (h : GrRd w g x) (ht : GTot g) : Calls Tryz.prog 9 #[.agg x] w fun e w'=>SomeB e ∧ Below w.heap.size w w':=(vastL_any h ht).mono fun e w' h=>⟨⟨h.1.choose,h.1.choose_spec.1⟩,h.2⟩
theorem Kcb : EF GrRd 4:=by
 refine ⟨fun h g=>h.below g,fun h=>?_,fun h u hu=>?_⟩
 ·obtain ⟨pn,cn,pr,cr,rfl,_⟩:=h;rfl
 ·obtain ⟨pn,cn,pr,cr,rfl,_⟩:=h
  simp only [List.mem_cons,List.not_mem_nil,or_false] at hu
  rcases hu with rfl | rfl | rfl | rfl <;> rfl
def Lies (g : Nat) (T : TypeId) (x : Array Value) (W : World) : Prop:=W.heap[g]? = some (.cells x T (0,0))
theorem Lies.below {g : Nat} {T : TypeId} {x : Array Value} {W W' : World} (h : Lies g T x W) (b : Below W.heap.size W W') : Lies g T x W':=Kal b (Array.getElem?_eq_some_iff.1 h).1 h
theorem Lies.get {g : Nat} {x : Array Value} {W : World} (h : Lies g 25 x W) (hs : x.size = 4) : (loadVar 25 ⟨g,0,none⟩).run Tryz.prog W = .ok (.agg x) W:=StT.get Kbl hs h
theorem Lies.new (x : Array Value) (T : TypeId) (w : World) : Lies w.heap.size T x (w.alloc (.cells x T)):=heap_alloc_new w _
structure LQ2 (w W : World) (g o : GraphD) (x y : Array Value) : Prop where
 b1 : Lies w.heap.size 25 x W
 b2 : Lies (w.heap.size + 1) 25 y W
 gx : GrRd W g x
 ox : GrRd W o y
 b : Below w.heap.size w W
section
variable {w W W' : World} {g o : GraphD} {x y : Array Value}
theorem LQ2.below (h : LQ2 w W g o x y) (k : Below W.heap.size W W') : LQ2 w W' g o x y:=⟨h.b1.below k,h.b2.below k,h.gx.below k,h.ox.below k,Kaa h.b k⟩
theorem LQ2.lg (h : LQ2 w W g o x y) : (loadVar 25 ⟨w.heap.size,0,none⟩).run Tryz.prog W = .ok (.agg x) W:=h.b1.get (Kcb.size h.gx)
theorem LQ2.lo (h : LQ2 w W g o x y) : (loadVar 25 ⟨w.heap.size + 1,0,none⟩).run Tryz.prog W = .ok (.agg y) W:=h.b2.get (Kcb.size h.ox)
theorem LQ2.start (h1 : GrRd w g x) (h2 : GrRd w o y) : LQ2 w ((w.alloc (.cells x 25)).alloc (.cells y 25)) g o x y:=by
 have b1:=Kai (w:=w) (.cells x 25)
 have b2:=Kai (w:=w.alloc (.cells x 25)) (.cells y 25)
 have hb:=Kaa b1 b2
 have e2:=Lies.new y 25 (w.alloc (.cells x 25))
 rw [World.size_alloc] at e2
 exact ⟨(Lies.new x _ w).below b2,e2,h1.below hb,h2.below hb,hb⟩
end
theorem PsOk.tot {l : List PropD} (h : PsOk l) : ∀ x ∈ l,totV x.val ≤ 1099511627776:=fun x hx=>by have:=(h.2 x hx).2;omega
theorem GOk.tot {g : GraphD} (h : GOk g) : GTot g:=⟨fun n hn=>(h.2.2.1 n hn).2.2.tot,fun r hr=>(h.2.2.2 r hr).2.tot⟩
def FC (P : Nat → Prop) (W : World) (b o : Nat) (v : Value) : Prop:=P b ∧ ∃ cs t,W.heap[b]? = some (.cells cs t (0,0)) ∧ cs[o]? = some v
theorem FC.cell {P : Nat → Prop} {W : World} {b o : Nat} {v : Value} (h : FC P W b o v) : W.cell? ⟨b,o,none⟩ = some v:=by
 obtain ⟨_,cs,t,h1,h2⟩:=h;exact Kag h1 h2
def simv (v v' : Value) : Prop:=v' = v ∨ (∃ s s',v = .string s ∧ v' = .string s') ∨ ∃ n n',v = .int .i64 n ∧ v' = .int .i64 n'
structure Sim (base : Nat) (W0 W : World) : Prop where
 hp : ∀ (b : Nat) (cs : Array Value) (t : TypeId),W0.heap[b]? = some (.cells cs t (0,0)) → ∃ cs',W.heap[b]? = some (.cells cs' t (0,0)) ∧ ∀ (o : Nat) (v : Value),cs[o]? = some v → ∃ v',cs'[o]? = some v' ∧ simv v v'
 b : Below base W0 W
section
variable {base : Nat} {W0 W : World} {P : Nat → Prop} {b o : Nat}
theorem Sim.refl (base : Nat) (W : World) : Sim base W W:=⟨fun b cs t h=>⟨cs,h,fun o v h=>⟨v,h,.inl rfl⟩⟩,Below.refl _ _⟩
theorem Sim.slice {p : Option Addr} {n c : Nat} (h : Sim base W0 W) (f : FC P W0 b o (.slice p n c)) : FC P W b o (.slice p n c):=by
 obtain ⟨hb,cs,t,h1,h2⟩:=f
 obtain ⟨cs',h3,h4⟩:=h.hp b cs t h1
 obtain ⟨v',h5,h6⟩:=h4 o _ h2
 rcases h6 with rfl | ⟨_,_,e,_⟩ | ⟨_,_,e,_⟩
 ·exact ⟨hb,cs',t,h3,h5⟩
 ·cases e
 ·cases e
theorem Sim.str {s : ByteArray} (h : Sim base W0 W) (f : FC P W0 b o (.string s)) : ∃ s',FC P W b o (.string s'):=by
 obtain ⟨hb,cs,t,h1,h2⟩:=f
 obtain ⟨cs',h3,h4⟩:=h.hp b cs t h1
 obtain ⟨v',h5,h6⟩:=h4 o _ h2
 rcases h6 with rfl | ⟨_,s',_,rfl⟩ | ⟨_,_,e,_⟩
 ·exact ⟨s,hb,cs',t,h3,h5⟩
 ·exact ⟨s',hb,cs',t,h3,h5⟩
 ·cases e
theorem Sim.int {n : Int} (h : Sim base W0 W) (f : FC P W0 b o (.int .i64 n)) : ∃ n',FC P W b o (.int .i64 n'):=by
 obtain ⟨hb,cs,t,h1,h2⟩:=f
 obtain ⟨cs',h3,h4⟩:=h.hp b cs t h1
 obtain ⟨v',h5,h6⟩:=h4 o _ h2
 rcases h6 with rfl | ⟨_,_,e,_⟩ | ⟨_,n',_,rfl⟩
 ·exact ⟨n,hb,cs',t,h3,h5⟩
 ·cases e
 ·exact ⟨n',hb,cs',t,h3,h5⟩
theorem Sim.set {v u : Value} (h : Sim base W0 W) (hb : base ≤ b) (f : FC P W0 b o v) (hu : ∀ x,simv v x → simv v u) : Sim base W0 (W.setCell ⟨b,o,none⟩ u):=by
 refine ⟨fun b1 cs t h1=>?_,Kca h.b hb u⟩
 obtain ⟨cs',h3,h4⟩:=h.hp b1 cs t h1
 by_cases e : b1 = b
 ·subst e
  refine ⟨_,Kb0 u h3,fun o1 v1 hv1=>?_⟩
  obtain ⟨v',h5,h6⟩:=h4 o1 v1 hv1
  by_cases e2 : o1 = o
  ·subst e2
   obtain ⟨_,cs2,t2,g1,g2⟩:=f
   rw [h1] at g1
   cases g1
   rw [hv1] at g2
   cases g2
   have hlt:=(Array.getElem?_eq_some_iff.1 h5).1
   exact ⟨u,by simp [Array.getElem?_setIfInBounds,hlt],hu _ h6⟩
  ·exact ⟨v',by rw [Array.getElem?_setIfInBounds_ne (Ne.symm e2)];exact h5,h6⟩
 ·exact ⟨cs',(Below.heap_setCell _ ⟨b,o,none⟩ _ b1 e).trans h3,h4⟩
theorem put_strZ {w : World} {ad : Addr} {s : ByteArray} {u : Value} (hc : w.cell? ad = some u) (hf : w.frozen? ad = false) : (storeVar 9 ad (.string s)).run Tryz.prog w = .ok () (w.setCell ad (.string s)):=by
 simp [storeVar,go_sem,hc,hf]
theorem FC.free {v : Value} (f : FC P W b o v) : W.frozen? ⟨b,o,none⟩ = false:=by
 obtain ⟨_,cs,t,h1,_⟩:=f;exact Kbm h1
theorem Sim.put_str {s : ByteArray} (h : Sim base W0 W) (hb : base ≤ b) (f : FC P W0 b o (.string s)) (z : ByteArray) : (storeVar 9 ⟨b,o,none⟩ (.string z)).run Tryz.prog W = .ok () (W.setCell ⟨b,o,none⟩ (.string z)) ∧ Sim base W0 (W.setCell ⟨b,o,none⟩ (.string z)):=by
 obtain ⟨s',f'⟩:=h.str f
 exact ⟨put_strZ f'.cell f'.free,h.set hb f fun _ _=>.inr (.inl ⟨_,_,rfl,rfl⟩)⟩
theorem Sim.put_int {n : Int} (h : Sim base W0 W) (hb : base ≤ b) (f : FC P W0 b o (.int .i64 n)) (z : Int) : (storeVar 2 ⟨b,o,none⟩ (.int .i64 z)).run Tryz.prog W = .ok () (W.setCell ⟨b,o,none⟩ (.int .i64 z)) ∧ Sim base W0 (W.setCell ⟨b,o,none⟩ (.int .i64 z)):=by
 obtain ⟨s',f'⟩:=h.int f
 exact ⟨put_i64 f'.cell f'.free,h.set hb f fun _ _=>.inr (.inr ⟨_,_,rfl,rfl⟩)⟩
end
section
variable {α : Type} {E : World → (Nat → Prop) → α → Array Value → Prop} {K : Nat} {t : TypeId} {w : World} {P : Nat → Prop} {l : List α} {p : Option Addr} {c n : Nat}
theorem GOwn.at (hE : EL E K) (h : GOwn E t K w P (.slice p n c) l) {i : Nat} (hi : i < l.length) : ∃ b x,p = some ⟨b,0,none⟩ ∧ E w P l[i] x ∧ ∀ (k : Nat) (u : Value),x[k]? = some u → FC P w b (i * K + k) u:=by
 obtain ⟨xs,h1,h2⟩:=h
 obtain ⟨x,hx,hex⟩:=h2.2 i _ (List.getElem?_eq_getElem hi)
 have h6 : ∀ y ∈ xs,y.size = K:=fun y hy=>by
  obtain ⟨j,hj,rfl⟩:=List.getElem_of_mem hy
  obtain ⟨z,hz,hez⟩:=h2.2 j _ (List.getElem?_eq_getElem (by rw [← h2.1];exact hj))
  rw [List.getElem?_eq_getElem hj] at hz
  cases hz
  exact hE.size hez
 rcases h1.1.2 with ⟨hv,h0⟩ | ⟨g,cap,cur,hv,_,hg,_,_,hs,ht⟩
 ·omega
 ·cases hv
  refine ⟨g,x,rfl,hex,fun k u hu=>⟨h1.2 g rfl,cur,t,hg,?_⟩⟩
  have hk : k < K:=by
   have:=(Array.getElem?_eq_some_iff.1 hu).1
   rw [hE.size hex] at this;exact this
  have hf:=flat_K h6 i x hx k hk
  rw [hu,← ht] at hf
  rw [← Array.getElem?_toList]
  rw [List.getElem?_take] at hf
  split at hf
  ·exact hf
  ·cases hf
end
section
variable {w : World} {P : Nat → Prop} {g : GraphD} {p : Option Addr} {c n : Nat}
theorem one_node (h : GOwn NOwn 45 3 w P (.slice p n c) g.nodes) {i : Nat} (hi : i < g.nodes.length) : ∃ b pl cl pp cp,p = some ⟨b,0,none⟩ ∧ FC P w b (i * 3) (.int .i64 g.nodes[i].id) ∧ FC P w b (i * 3 + 1) (.slice pl g.nodes[i].labels.length cl) ∧ FC P w b (i * 3 + 2) (.slice pp g.nodes[i].props.length cp) ∧
 (∀ k,k < g.nodes[i].labels.length → ∃ b1 s,pl = some ⟨b1,0,none⟩ ∧ FC P w b1 k (.string s)) ∧ ∀ k,k < g.nodes[i].props.length → ∃ b1 s,pp = some ⟨b1,0,none⟩ ∧ FC P w b1 (k * 7) (.string s):=by
 obtain ⟨b,x,rfl,hx,hc⟩:=h.at Ka2 hi
 obtain ⟨vl,vp,rfl,h1,h2⟩:=hx
 obtain ⟨pl,cl,rfl⟩:=Kbk h1
 obtain ⟨pp,cp,rfl⟩:=h2.slice
 refine ⟨b,pl,cl,pp,cp,rfl,hc 0 _ rfl,hc 1 _ rfl,hc 2 _ rfl,fun k hk=>?_,fun k hk=>?_⟩
 ·rcases h1.1.2 with ⟨hv,h0⟩ | ⟨g2,cap,cur,hv,_,hg,_,_,hs,ht⟩
  ·omega
  ·cases hv
   refine ⟨g2,strB g.nodes[i].labels[k],rfl,h1.2 g2 rfl,cur,_,hg,?_⟩
   have h5 : (g.nodes[i].labels.map strV)[k]? = some (.string (strB g.nodes[i].labels[k])):=by rw [List.getElem?_map,List.getElem?_eq_getElem hk];rfl
   rw [← ht,List.getElem?_take] at h5
   split at h5
   ·rw [← Array.getElem?_toList];exact h5
   ·cases h5
 ·obtain ⟨b1,x,e,hx,hc1⟩:=h2.at Ka1 hk
  obtain ⟨y,rfl,_⟩:=hx
  exact ⟨b1,_,e,hc1 0 _ (by rw [Array.getElem?_append_left (by simp)];rfl)⟩
theorem one_rel (h : GOwn ROwn 49 5 w P (.slice p n c) g.rels) {i : Nat} (hi : i < g.rels.length) : ∃ b s,p = some ⟨b,0,none⟩ ∧ FC P w b (i * 5 + 3) (.string s):=by
 obtain ⟨b,x,rfl,hx,hc⟩:=h.at Kbi hi
 obtain ⟨vp,rfl,_⟩:=hx
 exact ⟨b,_,rfl,hc 3 _ rfl⟩
end
structure StepD where
 kind : Int
 id : Int
 tgt : Int
 rel : Bool
 key : List UInt8
 labels : List (List UInt8)
 props : List PropD
 val : V
def stepX (s : StepD) (pl : Option Addr) (cl : Nat) (pp : Option Addr) (cp : Nat) (y : Array Value) : Array Value:=#[.int .i64 s.kind,.int .i64 s.id,.int .i64 s.tgt,.bool s.rel,.string (strB s.key),.slice pl s.labels.length cl,.slice pp s.props.length cp] ++ y
def SpRd (w : World) (s : StepD) (x : Array Value) : Prop:=∃ pl cl pp cp y,x = stepX s pl cl pp cp y ∧ s.key.length ≤ 140737488355328 ∧ RdS w pl cl s.labels ∧ GRd PRd 7 w pp cp s.props ∧ VRd w s.val y
theorem SpRd.below {w w' : World} {s : StepD} {x : Array Value} (h : SpRd w s x) (g : Below w.heap.size w w') : SpRd w' s x:=by
 obtain ⟨pl,cl,pp,cp,y,e,h1,h2,h3,h4⟩:=h
 exact ⟨pl,cl,pp,cp,y,e,h1,h2.below g,h3.below (fun h=>h.below g) g,h4.below g⟩
theorem ef_step : EF SpRd 13:=by
 refine ⟨fun h g=>h.below g,fun h=>?_,fun h=>?_⟩
 ·obtain ⟨_,_,_,_,y,rfl,_,_,_,h4⟩:=h
  unfold stepX
  rw [Array.size_append,Kc7.size h4];rfl
 ·obtain ⟨_,_,_,_,y,rfl,_,_,_,h4⟩:=h
  exact ones_append (by simp [Value.oneCell']) (Kc7.ones h4)
theorem st_step : StT Tryz.prog 33 13:=.of Tryz.underlying33 (by rfl) (by kernel_rfl)
def SOk (s : StepD) : Prop:=s.labels.length ≤ 1100000 ∧ PsOk s.props ∧ totV s.val ≤ 1100000 ∧ s.key.length ≤ 1100000
theorem SpRd.cells {W : World} {s : StepD} {x : Array Value} {g : Nat} (h : SpRd W s x) (hb : W.heap[g]? = some (.cells x 33 (0,0))) :
 W.cell? ⟨g,0,none⟩ = some (.int .i64 s.kind) ∧ W.cell? ⟨g,1,none⟩ = some (.int .i64 s.id) ∧ W.cell? ⟨g,2,none⟩ = some (.int .i64 s.tgt) ∧ W.cell? ⟨g,3,none⟩ = some (.bool s.rel) ∧ W.cell? ⟨g,4,none⟩ = some (.string (strB s.key)) ∧
 (∃ pl cl,W.cell? ⟨g,5,none⟩ = some (.slice pl s.labels.length cl) ∧ RdS W pl cl s.labels) ∧ (∃ pp cp,W.cell? ⟨g,6,none⟩ = some (.slice pp s.props.length cp) ∧ GRd PRd 7 W pp cp s.props) ∧
 ∃ y,VRd W s.val y ∧ (loadVar 31 ⟨g,7,none⟩).run Tryz.prog W = .ok (.agg y) W:=by
 obtain ⟨pl,cl,pp,cp,y,rfl,h1,h2,h3,h4⟩:=h
 have hc : ∀ (o : Nat) (v : Value),(stepX s pl cl pp cp y)[o]? = some v → W.cell? ⟨g,o,none⟩ = some v:=fun o v hv=>Kag hb hv
 have hs : ∀ o,o < 7 → (stepX s pl cl pp cp y)[o]? = (#[.int .i64 s.kind,.int .i64 s.id,.int .i64 s.tgt,.bool s.rel,.string (strB s.key),.slice pl s.labels.length cl,.slice pp s.props.length cp] : Array Value)[o]?:=fun o ho=>by
  unfold stepX;rw [Array.getElem?_append_left (by simpa using ho)]
 refine ⟨hc _ _ (hs 0 (by omega)),hc _ _ (hs 1 (by omega)),hc _ _ (hs 2 (by omega)),hc _ _ (hs 3 (by omega)),hc _ _ (hs 4 (by omega)),⟨pl,cl,hc _ _ (hs 5 (by omega)),h2⟩,⟨pp,cp,hc _ _ (hs 6 (by omega)),h3⟩,y,h4,?_⟩
 refine StT.load (P:=Tryz.prog) (g:=g) (o:=7) (W:=W) Kc9 (Kc7.size h4) fun i u hu=>hc _ _ ?_
 unfold stepX
 rw [Array.getElem?_append_right (by simp)]
 simpa using hu
theorem big_any {w : World} {s : StepD} {x : Array Value} (h : SpRd w s x) (hk : SOk s) : Calls Tryz.prog 10 #[.agg x] w fun e w'=>SomeB e ∧ Below w.heap.size w w':=by
 have hb1:=Kai (w:=w) (.cells x 33)
 have hx1:=heap_alloc_new w (.cells x 33)
 have h1:=h.below hb1
 obtain ⟨_,_,_,_,q4,⟨pl,cl,q5,hls⟩,⟨pp,cp,q6,hps⟩,y,hy,hlv⟩:=h1.cells hx1
 have HLV:=yh hlv
 have HZ:=yh (sizeR_any _ _ y (by have:=hk.2.2.1;omega) hy)
 have HV:=yh (fun W (g : Below (w.alloc (.cells x 33)).heap.size (w.alloc (.cells x 33)) W)=>heavy_any (w:=W) (hps.below (fun h=>h.below g) g) hk.2.1.tot)
 have HC:=yh (And.intro q4 (And.intro q5 q6))
 have HX:=yh hb1
 have hsz : (strB s.key).size = s.key.length:=by simp [strB,ByteArray.size]
 have z1 : (s.labels.length : Int) ≤ 1100000:=by have:=hk.1;omega
 have z2 : (s.props.length : Int) ≤ 1100000:=by have:=hk.2.1.1;omega
 have z3 : (s.key.length : Int) ≤ 1100000:=by have:=hk.2.2.2;omega
 generalize (countV s.val : Int) = n1 at *
 generalize (Kb7 s.val : Int) = n2 at *
 generalize s.key = ky at *
 clear hb1 hx1 h1 q4 q5 q6 hls hps hy hlv h hk
 by_cases a1 : (12 : Int) < (s.labels.length : Int)
 ·have a1b : decide ((12 : Int) < (s.labels.length : Int)) = true:=decide_eq_true a1
  clear a1
  go_enter Tryz.func10,Tryz.ntmps10
  go_wp2_with (first
   | ((with_reducible apply Kaq);exact HLV.out;exact rfl;clear HLV)
   | (go_at_call 32
      (
       refine HZ.out.mono ?_
       rintro e W2 ⟨rfl,hb⟩
       have c4:=Kae hb (ltOf HC.out.1) HC.out.1
       have c5:=Kae hb (ltOf HC.out.2.1) HC.out.2.1
       have c6:=Kae hb (ltOf HC.out.2.2) HC.out.2.2
       have HV2:=yh (HV.out W2 hb)
       have HB:=yh hb
       clear hb HZ))
   | (go_at_call 31
      (
       refine HV2.out.mono ?_
       rintro e W3 ⟨⟨bh,rfl⟩,hb⟩
       have c4':=Kae hb (ltOf c4) c4
       have HB3:=yh (Kaa HB.out hb)
       clear hb HV2
       cases bh)))
  all_goals go_ret
  all_goals exact ⟨⟨_,rfl⟩,Kaa HX.out HB.out⟩
 have a1b : decide ((12 : Int) < (s.labels.length : Int)) = false:=decide_eq_false a1
 clear a1
 by_cases a2 : (12 : Int) < (s.props.length : Int)
 ·have a2b : decide ((12 : Int) < (s.props.length : Int)) = true:=decide_eq_true a2
  clear a2
  go_enter Tryz.func10,Tryz.ntmps10
  go_wp2_with (first
   | ((with_reducible apply Kaq);exact HLV.out;exact rfl;clear HLV)
   | (go_at_call 32
      (
       refine HZ.out.mono ?_
       rintro e W2 ⟨rfl,hb⟩
       have c4:=Kae hb (ltOf HC.out.1) HC.out.1
       have c5:=Kae hb (ltOf HC.out.2.1) HC.out.2.1
       have c6:=Kae hb (ltOf HC.out.2.2) HC.out.2.2
       have HV2:=yh (HV.out W2 hb)
       have HB:=yh hb
       clear hb HZ))
   | (go_at_call 31
      (
       refine HV2.out.mono ?_
       rintro e W3 ⟨⟨bh,rfl⟩,hb⟩
       have c4':=Kae hb (ltOf c4) c4
       have HB3:=yh (Kaa HB.out hb)
       clear hb HV2
       cases bh)))
  all_goals go_ret
  all_goals exact ⟨⟨_,rfl⟩,Kaa HX.out HB.out⟩
 have a2b : decide ((12 : Int) < (s.props.length : Int)) = false:=decide_eq_false a2
 clear a2
 by_cases a3 : (200 : Int) < n1
 ·have a3b : decide ((200 : Int) < n1) = true:=decide_eq_true a3
  clear a3
  go_enter Tryz.func10,Tryz.ntmps10
  go_wp2_with (first
   | ((with_reducible apply Kaq);exact HLV.out;exact rfl;clear HLV)
   | (go_at_call 32
      (
       refine HZ.out.mono ?_
       rintro e W2 ⟨rfl,hb⟩
       have c4:=Kae hb (ltOf HC.out.1) HC.out.1
       have c5:=Kae hb (ltOf HC.out.2.1) HC.out.2.1
       have c6:=Kae hb (ltOf HC.out.2.2) HC.out.2.2
       have HV2:=yh (HV.out W2 hb)
       have HB:=yh hb
       clear hb HZ))
   | (go_at_call 31
      (
       refine HV2.out.mono ?_
       rintro e W3 ⟨⟨bh,rfl⟩,hb⟩
       have c4':=Kae hb (ltOf c4) c4
       have HB3:=yh (Kaa HB.out hb)
       clear hb HV2
       cases bh)))
  all_goals go_ret
  all_goals exact ⟨⟨_,rfl⟩,Kaa HX.out HB3.out⟩
 have a3b : decide ((200 : Int) < n1) = false:=decide_eq_false a3
 clear a3
 by_cases a4 : (5000 : Int) < n2
 ·have a4b : decide ((5000 : Int) < n2) = true:=decide_eq_true a4
  clear a4
  go_enter Tryz.func10,Tryz.ntmps10
  go_wp2_with (first
   | ((with_reducible apply Kaq);exact HLV.out;exact rfl;clear HLV)
   | (go_at_call 32
      (
       refine HZ.out.mono ?_
       rintro e W2 ⟨rfl,hb⟩
       have c4:=Kae hb (ltOf HC.out.1) HC.out.1
       have c5:=Kae hb (ltOf HC.out.2.1) HC.out.2.1
       have c6:=Kae hb (ltOf HC.out.2.2) HC.out.2.2
       have HV2:=yh (HV.out W2 hb)
       have HB:=yh hb
       clear hb HZ))
   | (go_at_call 31
      (
       refine HV2.out.mono ?_
       rintro e W3 ⟨⟨bh,rfl⟩,hb⟩
       have c4':=Kae hb (ltOf c4) c4
       have HB3:=yh (Kaa HB.out hb)
       clear hb HV2
       cases bh)))
  all_goals go_ret
  all_goals exact ⟨⟨_,rfl⟩,Kaa HX.out HB3.out⟩
 have a4b : decide ((5000 : Int) < n2) = false:=decide_eq_false a4
 clear a4
 by_cases a5 : (1000 : Int) < (ky.length : Int)
 ·have a5b : decide ((1000 : Int) < (ky.length : Int)) = true:=decide_eq_true a5
  clear a5
  go_enter Tryz.func10,Tryz.ntmps10
  go_wp2_with (first
   | ((with_reducible apply Kaq);exact HLV.out;exact rfl;clear HLV)
   | (go_at_call 32
      (
       refine HZ.out.mono ?_
       rintro e W2 ⟨rfl,hb⟩
       have c4:=Kae hb (ltOf HC.out.1) HC.out.1
       have c5:=Kae hb (ltOf HC.out.2.1) HC.out.2.1
       have c6:=Kae hb (ltOf HC.out.2.2) HC.out.2.2
       have HV2:=yh (HV.out W2 hb)
       have HB:=yh hb
       clear hb HZ))
   | (go_at_call 31
      (
       refine HV2.out.mono ?_
       rintro e W3 ⟨⟨bh,rfl⟩,hb⟩
       have c4':=Kae hb (ltOf c4) c4
       have HB3:=yh (Kaa HB.out hb)
       clear hb HV2
       cases bh)))
  all_goals go_ret
  all_goals exact ⟨⟨_,rfl⟩,Kaa HX.out HB3.out⟩
 have a5b : decide ((1000 : Int) < (ky.length : Int)) = false:=decide_eq_false a5
 clear a5
 go_enter Tryz.func10,Tryz.ntmps10
 go_wp2_with (first
  | ((with_reducible apply Kaq);exact HLV.out;exact rfl;clear HLV)
  | (go_at_call 32
     (
      refine HZ.out.mono ?_
      rintro e W2 ⟨rfl,hb⟩
      have c4:=Kae hb (ltOf HC.out.1) HC.out.1
      have c5:=Kae hb (ltOf HC.out.2.1) HC.out.2.1
      have c6:=Kae hb (ltOf HC.out.2.2) HC.out.2.2
      have HV2:=yh (HV.out W2 hb)
      have HB:=yh hb
      clear hb HZ))
  | (go_at_call 31
     (
      refine HV2.out.mono ?_
      rintro e W3 ⟨⟨bh,rfl⟩,hb⟩
      have c4':=Kae hb (ltOf c4) c4
      have HB3:=yh (Kaa HB.out hb)
      clear hb HV2
      cases bh)))
 all_goals go_ret
 all_goals exact ⟨⟨_,rfl⟩,Kaa HX.out HB3.out⟩
theorem storeD_PsOk {l : List PropD} (h : PsOk l) (hm : Ka4 l = true) : PsOk (Kbc l):=by
 unfold Ka4 at hm
 simp only [Bool.and_eq_true,decide_eq_true_eq] at hm
 refine ⟨?_,fun p hp=>h.2 p ((storeD_mem hm.1 p).1 hp).1⟩
 have h1:=insAllB_len PropD.key (l.filter fun p=>!decide (p.val.kind = 0)) []
 have h2:=List.length_filter_le (fun p : PropD=>!decide (p.val.kind = 0)) l
 have h3:=h.1
 unfold Kbc
 simp only [List.length_nil,Nat.zero_add] at h1
 omega
theorem addNodeD_GOk {g : GraphD} (h : GOk g) (hok : okG g = true) {labels : List (List UInt8)} (hl : labels.length ≤ 1100000) (hs : ∀ s ∈ labels,s.length ≤ 140737488355328) {props : List PropD} (hp : PsOk props) : GOk (Kbf g labels props).1:=by
 unfold Kbf
 split
 ·exact h
 ·rename_i hn
  split
  ·exact h
  ·have hm : Ka4 props = true:=by
    cases e : Ka4 props with
    | true=>rfl
    | false=>exact absurd (.inr e) hn
   have h1:=((Kdj g).1 hok).1
   refine ⟨by simp only [List.length_append,List.length_cons,List.length_nil];omega,h.2.1,fun n hn=>?_,h.2.2.2⟩
   rcases List.mem_append.1 hn with hn | hn
   ·exact h.2.2.1 n hn
   ·rw [List.mem_singleton.1 hn]
    refine ⟨?_,fun s hs'=>hs s ?_,storeD_PsOk hp hm⟩
    ·have:=insAllB_len id labels []
     simp only [List.length_nil,Nat.zero_add] at this
     simp only;omega
    ·simpa using (Kc5 labels List.Pairwise.nil s).1 hs'
theorem tell_gg {S : Nat → Prop} {w : World} {B : GB} {g : GraphD} (h : GG S w B g) (hok : okG g = true) (hk : GOk g) : Calls Tryz.prog 16 #[.pointer (some ⟨B.gx,0,none⟩)] w fun e w'=>∃ x,e = .returned (.agg x) ∧ GrOwn w' (fun b=>w.heap.size ≤ b) g x ∧ Below w.heap.size w w':=by
 obtain ⟨ma,h⟩:=h
 have h1:=((Kdj g).1 hok).1
 exact tellG_any h hk.2.2.1 hk.2.2.2 (by show g.nodes.length ≤ 900000;omega) (by show g.rels.length ≤ 900000;omega)
structure LQS (w W : World) (g : GraphD) (x : Array Value) (s : StepD) (z : Array Value) : Prop where
 b1 : Lies w.heap.size 25 x W
 b2 : Lies (w.heap.size + 1) 33 z W
 gx : GrRd W g x
 sx : SpRd W s z
 b : Below w.heap.size w W
section
variable {w W W' : World} {g : GraphD} {x : Array Value} {s : StepD} {z : Array Value}
theorem LQS.below (h : LQS w W g x s z) (k : Below W.heap.size W W') : LQS w W' g x s z:=⟨h.b1.below k,h.b2.below k,h.gx.below k,h.sx.below k,Kaa h.b k⟩
theorem LQS.lg (h : LQS w W g x s z) : (loadVar 25 ⟨w.heap.size,0,none⟩).run Tryz.prog W = .ok (.agg x) W:=h.b1.get (Kcb.size h.gx)
theorem LQS.ls (h : LQS w W g x s z) : (loadVar 33 ⟨w.heap.size + 1,0,none⟩).run Tryz.prog W = .ok (.agg z) W:=StT.get st_step (ef_step.size h.sx) h.b2
theorem LQS.start (h1 : GrRd w g x) (h2 : SpRd w s z) : LQS w ((w.alloc (.cells x 25)).alloc (.cells z 33)) g x s z:=by
 have b1:=Kai (w:=w) (.cells x 25)
 have b2:=Kai (w:=w.alloc (.cells x 25)) (.cells z 33)
 have hb:=Kaa b1 b2
 have e2:=Lies.new z 33 (w.alloc (.cells x 25))
 rw [World.size_alloc] at e2
 exact ⟨(Lies.new x _ w).below b2,e2,h1.below hb,h2.below hb,hb⟩
end
theorem gkeeps_any {w : World} (hE : Env w) {g : GraphD} {x : Array Value} {s : StepD} {z : Array Value} (h1 : GrRd w g x) (h2 : SpRd w s z) (k1 : GOk g) (k2 : SOk s) : Calls Tryz.prog 3 #[.agg x,.agg z] w fun e w'=>e = .returned (.bool true) ∧ Below w.heap.size w w':=by
 have HQ:=yh (LQS.start h1 h2)
 have HE:=yh hE
 have HK:=yh (And.intro k1 (And.intro k2 k1.tot))
 have hls : ∀ t ∈ s.labels,t.length ≤ 140737488355328:=by obtain ⟨_,_,_,_,_,_,_,h,_⟩:=h2;exact h.2.2.2.1
 clear h1 h2 hE k1 k2
 cases hok : okG g with
 | false =>
   have HOK:=yh hok
   clear hok
   go_enter Tryz.func3,Tryz.ntmps3
   go_wp2_with (first
    | ((with_reducible apply Kaq);exact HQ.out.lg;exact rfl)
    | ((with_reducible apply Kco);exact HQ.out.ls;exact rfl;exact rfl)
    | ((with_reducible apply Kco);exact HQ.out.lg;exact rfl;exact rfl)
    | (go_at_call 9
       (
        refine (vast_any HQ.out.gx HK.out.2.2).mono ?_
        rintro e wv ⟨⟨bv,rfl⟩,hb⟩
        replace HQ:=yh (HQ.out.below hb)
        clear hb
        cases bv))
    | (go_at_call 10
       (
        refine (big_any HQ.out.sx HK.out.2.1).mono ?_
        rintro e wv ⟨⟨bg,rfl⟩,hb⟩
        replace HQ:=yh (HQ.out.below hb)
        clear hb
        cases bg))
    | (go_at_call 11
       (
        have hrc:=refcheck_any HQ.out.gx HK.out.2.2
        rw [HOK.out] at hrc
        refine hrc.mono ?_
        rintro e wv ⟨rfl,hb⟩
        replace HQ:=yh (HQ.out.below hb)
        clear hb hrc))
    | (go_at_call 12;refine (known_any (HE.out.b HQ.out.b)).mono ?_;rintro e wk ⟨rfl,hb⟩;have HKB:=yh (Kaa HQ.out.b hb);clear hb))
   all_goals (go_ret;exact ⟨rfl,HKB.out⟩)
 | true =>
   have HOK:=yh hok
   obtain ⟨g2,hg2⟩ : ∃ g2,g2 = (Kbf g s.labels s.props).1:=⟨_,rfl⟩
   have HG2:=yh (show okG g2 = true ∧ GOk g2 by rw [hg2];exact ⟨okG_addNode hok _ _,addNodeD_GOk HK.out.1 hok HK.out.2.1.1 hls HK.out.2.1.2.1⟩)
   have HG2E:=yh hg2
   clear hok hg2 hls
   go_enter Tryz.func3,Tryz.ntmps3
   go_wp2_with (first
    | ((with_reducible apply Kaq);exact HQ.out.lg;exact rfl)
    | ((with_reducible apply Kco);exact HQ.out.ls;exact rfl;exact rfl)
    | ((with_reducible apply Kco);exact HQ.out.lg;exact rfl;exact rfl)
    | (go_at_call 9
       (
        refine (vast_any HQ.out.gx HK.out.2.2).mono ?_
        rintro e wv ⟨⟨bv,rfl⟩,hb⟩
        replace HQ:=yh (HQ.out.below hb)
        clear hb
        cases bv))
    | (go_at_call 10
       (
        refine (big_any HQ.out.sx HK.out.2.1).mono ?_
        rintro e wv ⟨⟨bg,rfl⟩,hb⟩
        replace HQ:=yh (HQ.out.below hb)
        clear hb
        cases bg))
    | (go_at_call 11
       (
        have hrc:=refcheck_any HQ.out.gx HK.out.2.2
        rw [HOK.out] at hrc
        refine hrc.mono ?_
        rintro e wv ⟨rfl,hb⟩
        replace HQ:=yh (HQ.out.below hb)
        clear hb hrc))
    | (go_at_call 12;refine (known_any (HE.out.b HQ.out.b)).mono ?_;rintro e wk ⟨rfl,hb⟩;have HKB:=yh (Kaa HQ.out.b hb);clear hb)
    | (go_at_call 13
       (
        refine (copyG_any HQ.out.gx HK.out.1).mono ?_
        rintro e wd ⟨z5,rfl,hz,hb⟩
        have hzr:=hz.rdO HK.out.1
        have hn9:=Kai (w:=wd) (.cells z5 25)
        have HSTC:=yh (StT.fresh (P:=Tryz.prog) (W:=wd) Kbl (Kcb.size hzr) (Kcb.ones hzr))
        have HLZ:=yh (show Lies wd.heap.size 25 z5 (wd.alloc (.cells z5 25)) from heap_alloc_new wd _)
        have HCR:=yh (hzr.below hn9)
        replace HQ:=yh ((HQ.out.below hb).below hn9)
        clear hb hz hzr hn9))
    | ((with_reducible apply Kar);exact HSTC.out _ rfl;exact rfl;exact rfl;clear HSTC)
    | (go_at_call 14
       (
        refine (make_any (HE.out.b HQ.out.b) HQ.out.gx HK.out.1).mono ?_
        rintro e wm ⟨hb,h1,h2⟩
        obtain ⟨B,ma,rfl,hgm⟩:=h2 HOK.out
        have HQW:=HQ.out.below hb
        obtain ⟨_,_,_,_,_,⟨pl,cl,q5,hls⟩,⟨pp,cp,q6,hps⟩,_⟩:=HQW.sx.cells HQW.b2
        have HAN:=yh (addNode_gg (HE.out.b HQW.b) (GG.made HOK.out hgm) (fun b h=>Nat.le_trans hb.size h) HOK.out hls HK.out.2.1.1 hps HK.out.2.1.2.1)
        have HBM:=yh hb
        clear h1 h2 hgm HQW hls hps hb))
    | (go_at_call 15
       (
        refine HAN.out.mono ?_
        rintro e w5 ⟨rfl,hg5,hT5⟩
        rw [← HG2E.out] at hg5
        have HB5:=yh (hT5.low HBM.out)
        have HT1:=yh (tell_gg hg5 HG2.out.1 HG2.out.2)
        have HG5:=yh hg5
        clear hg5 hT5 HAN HBM q5 q6))
    | (go_at_call 16
       (
        refine HT1.out.mono ?_
        rintro e w6 ⟨y1,rfl,hy,hb⟩
        have hyr:=hy.rdO HG2.out.2
        have hn:=Kai (w:=w6) (.cells y1 25)
        have hba:=Kaa hb hn
        have HSTC:=yh (StT.fresh (P:=Tryz.prog) (W:=w6) Kbl (Kcb.size hyr) (Kcb.ones hyr))
        have HL8:=yh (show Lies w6.heap.size 25 y1 (w6.alloc (.cells y1 25)) from heap_alloc_new w6 _)
        have HR8:=yh (hyr.below hn)
        have HG7:=yh (HG5.out.below hba)
        have HB7:=yh (Kaa HB5.out hba)
        have HT2:=yh (tell_gg HG7.out HG2.out.1 HG2.out.2)
        clear hy hb hyr hn hba HT1 HG5 HB5))
    | (go_at_call 16
       (
        refine HT2.out.mono ?_
        rintro e w8 ⟨y2,rfl,hy,hb⟩
        have hyr:=hy.rdO HG2.out.2
        obtain ⟨vn,vr,rfl,hon,hor⟩:=hy
        obtain ⟨pn,cn,rfl⟩:=hon.slice
        obtain ⟨pr,cr,rfl⟩:=hor.slice
        have hn:=Kai (w:=w8) (.cells #[.slice pn g2.nodes.length cn,.slice pr g2.rels.length cr,.int .i64 g2.nextNode,.int .i64 g2.nextRel] 25)
        have HSTC:=yh (StT.fresh (P:=Tryz.prog) (W:=w8) Kbl (Kcb.size hyr) (Kcb.ones hyr))
        have HON:=yh (hon.below Ka2 hn)
        have HOR:=yh (hor.below Kbi hn)
        have hbx:=heap_alloc_new w8 (.cells #[.slice pn g2.nodes.length cn,.slice pr g2.rels.length cr,.int .i64 g2.nextNode,.int .i64 g2.nextRel] 25)
        have HF0:=yh (show FC (fun b=>(w6.alloc (.cells y1 25)).heap.size ≤ b) (w8.alloc (.cells #[.slice pn g2.nodes.length cn,.slice pr g2.rels.length cr,.int .i64 g2.nextNode,.int .i64 g2.nextRel] 25)) w8.heap.size 0 (.slice pn g2.nodes.length cn) from ⟨hb.size,_,_,hbx,rfl⟩)
        have HF1:=yh (show FC (fun b=>(w6.alloc (.cells y1 25)).heap.size ≤ b) (w8.alloc (.cells #[.slice pn g2.nodes.length cn,.slice pr g2.rels.length cr,.int .i64 g2.nextNode,.int .i64 g2.nextRel] 25)) w8.heap.size 1 (.slice pr g2.rels.length cr) from ⟨hb.size,_,_,hbx,rfl⟩)
        have HB9:=yh (Kaa hb hn)
        have g9:=HF0.out.cell
        clear hb hyr hon hor hn hbx HT2)))
   all_goals try (go_ret;exact ⟨rfl,HKB.out⟩)
   generalize w8.alloc (.cells #[.slice pn g2.nodes.length cn,.slice pr g2.rels.length cr,.int .i64 g2.nextNode,.int .i64 g2.nextRel] 25) = W9 at *
   generalize w8.heap.size = n9 at *
   have zN : (g2.nodes.length : Int) ≤ 1100000:=by have:=HG2.out.2.1;omega
   have zR : (g2.rels.length : Int) ≤ 1100000:=by have:=HG2.out.2.2.1;omega
   clear g9
   go_loopw [10] (fun i W=>∃ j : Nat,j ≤ g2.nodes.length ∧ i = .int .i64 (j : Int) ∧ Hid (Sim (w6.alloc (.cells y1 25)).heap.size W9 W)) (fun i _=>g2.nodes.length - (intOf i).toNat)
   case atStart=>exact ⟨0,Nat.zero_le _,rfl,yh (Sim.refl _ _)⟩
   case round =>
    obtain ⟨j,hj,rfl,HI⟩:=hrel
    have gw:=(HI.out.slice HF0.out).cell
    by_cases hlt : j < g2.nodes.length
    ·have hlt1:=Nat.succ_le_of_lt hlt
     obtain ⟨bn,pl,cl,pp,cp,rfl,fi,f1,f2,fl,fp⟩:=one_node HON.out hlt
     have hnk:=HG2.out.2.2.2.1 _ (List.getElem_mem hlt)
     have z1 : (g2.nodes[j].labels.length : Int) ≤ 1100000:=by have:=hnk.1;omega
     have z2 : (g2.nodes[j].props.length : Int) ≤ 1100000:=by have:=hnk.2.2.1;omega
     have c1:=(HI.out.slice f1).cell
     have HF:=yh (And.intro fi (And.intro f1 (And.intro f2 (And.intro fl fp))))
     generalize g2.nodes[j].labels.length = n1 at *
     generalize g2.nodes[j].props.length = n2 at *
     generalize g2.nodes[j].id = idj at *
     clear fi f1 f2 fl fp hnk
     go_wp2
     clear gw c1
     go_loopw [11] (fun i W=>∃ k : Nat,k ≤ n1 ∧ i = .int .i64 (k : Int) ∧ Hid (Sim (w6.alloc (.cells y1 25)).heap.size W9 W)) (fun i _=>n1 - (intOf i).toNat)
     case atStart=>exact ⟨0,Nat.zero_le _,rfl,HI⟩
     case round =>
      rename_i wq wr
      clear HI
      obtain ⟨k,hk,rfl,HJ⟩:=hrel
      have gw:=(HJ.out.slice HF0.out).cell
      have c1:=(HJ.out.slice HF.out.2.1).cell
      by_cases hkt : k < n1
      ·have hkt1:=Nat.succ_le_of_lt hkt
       obtain ⟨b1,s1,rfl,fs⟩:=HF.out.2.2.2.1 k hkt
       obtain ⟨e1,e2⟩:=HJ.out.put_str fs.1 fs ⟨#[90,122]⟩
       have HST:=yh e1
       have HN:=yh e2
       clear e1 e2 fs
       go_wp2_with ((with_reducible apply Kar);exact HST.out;exact rfl;exact rfl;clear HST)
       go_roundw
       case rel=>exact ⟨k + 1,hkt1,by go_num,HN⟩
       case measure=>simp [intOf];omega
      ·obtain rfl : k = n1:=by omega
       have c2:=(HJ.out.slice HF.out.2.2.1).cell
       go_wp2
       clear gw c1 c2
       go_loopw [12] (fun i W=>∃ m : Nat,m ≤ n2 ∧ i = .int .i64 (m : Int) ∧ Hid (Sim (w6.alloc (.cells y1 25)).heap.size W9 W)) (fun i _=>n2 - (intOf i).toNat)
       case atStart=>exact ⟨0,Nat.zero_le _,rfl,HJ⟩
       case round =>
        rename_i wq2 wr
        clear HJ
        obtain ⟨m,hm,rfl,HM⟩:=hrel
        have gw:=(HM.out.slice HF0.out).cell
        have c2:=(HM.out.slice HF.out.2.2.1).cell
        by_cases hmt : m < n2
        ·have hmt1:=Nat.succ_le_of_lt hmt
         obtain ⟨b1,s1,rfl,fs⟩:=HF.out.2.2.2.2 m hmt
         obtain ⟨e1,e2⟩:=HM.out.put_str fs.1 fs ⟨#[90,122]⟩
         have HST:=yh e1
         have HN:=yh e2
         clear e1 e2 fs
         go_wp2_with ((with_reducible apply Kar);exact HST.out;exact rfl;exact rfl;clear HST)
         go_roundw
         case rel=>exact ⟨m + 1,hmt1,by go_num,HN⟩
         case measure=>simp [intOf];omega
        ·obtain rfl : m = n2:=by omega
         obtain ⟨e1,e2⟩:=HM.out.put_int HF.out.1.1 HF.out.1 (-5)
         have HST:=yh e1
         have HN:=yh e2
         clear e1 e2
         go_wp2_with ((with_reducible apply Kar);exact HST.out;exact rfl;exact rfl;clear HST)
         go_roundw
         case rel=>exact ⟨j + 1,hlt1,by go_num,HN⟩
         case measure=>simp [intOf];omega
    ·obtain rfl : j = g2.nodes.length:=by omega
     have gr:=(HI.out.slice HF1.out).cell
     go_wp2
     clear gw gr
     go_loopw [13] (fun i W=>∃ j : Nat,j ≤ g2.rels.length ∧ i = .int .i64 (j : Int) ∧ Hid (Sim (w6.alloc (.cells y1 25)).heap.size W9 W)) (fun i _=>g2.rels.length - (intOf i).toNat)
     case atStart=>exact ⟨0,Nat.zero_le _,rfl,HI⟩
     case round =>
      rename_i wq wr
      clear HI
      obtain ⟨j,hj,rfl,HI⟩:=hrel
      have gr:=(HI.out.slice HF1.out).cell
      by_cases hlt : j < g2.rels.length
      ·have hlt1:=Nat.succ_le_of_lt hlt
       obtain ⟨b1,s1,rfl,fs⟩:=one_rel HOR.out hlt
       obtain ⟨e1,e2⟩:=HI.out.put_str fs.1 fs ⟨#[90,122]⟩
       have HST:=yh e1
       have HN:=yh e2
       clear e1 e2 fs
       go_wp2_with ((with_reducible apply Kar);exact HST.out;exact rfl;exact rfl;clear HST)
       go_roundw
       case rel=>exact ⟨j + 1,hlt1,by go_num,HN⟩
       case measure=>simp [intOf];omega
      ·obtain rfl : j = g2.rels.length:=by omega
       go_wp2
       clear gr
       have hbw:=Below.trans HB9.out HI.out.b
       have hgr:=HG7.out.kept (W':=wr) fun b _ hlt=>hbw.block b hlt
       have hq:=(HQ.out.below HB7.out).below hbw
       have hlz:=(HLZ.out.below HB7.out).below hbw
       have hcr:=(HCR.out.below HB7.out).below hbw
       have hl8:=HL8.out.below hbw
       have hr8:=HR8.out.below hbw
       have hlg:=fun W (g : Below wr.heap.size wr W)=>(hq.below g).lg
       have hly:=fun W (g : Below wr.heap.size wr W)=>(hl8.below g).get (Kcb.size hr8)
       have hlc:=fun W (g : Below wr.heap.size wr W)=>(hlz.below g).get (Kcb.size hcr)
       have htl:=fun W (gg : Below wr.heap.size wr W)=>tell_gg (hgr.below gg) HG2.out.1 HG2.out.2
       have hok8:=HG2.out.2
       have hs1:=fun W (gg : Below wr.heap.size wr W) (x8 : Array Value) (hx : GrRd W g2 x8)=>sameRefG_any hx (hr8.below gg)
       rw [(sameGQ_iff g2 g2).2 rfl] at hs1
       have hs2:=fun W (gg : Below wr.heap.size wr W)=>sameRefG_any (hq.gx.below gg) (hcr.below gg)
       rw [(sameGQ_iff g g).2 rfl] at hs2
       have hkn:=fun W (gg : Below wr.heap.size wr W)=>known_any (HE.out.b (Kaa hq.b gg))
       have HB5:=yh hq.b
       have hB0 : Below wr.heap.size wr wr.drew:=(Below.refl _ wr).drew
       clear hbw hgr hq hlz hcr hl8 hr8
       refine Kah (fun W=>Below wr.heap.size wr W) (by kernel_rfl) hB0 (fun hS=>?_)
       refine tk 0 112 (v:=.pointer (some ⟨B.gx,0,none⟩)) rfl rfl (fun W hW=>Kab rfl rfl) ?_
       simp only [Act.put,sA,sZ,sS]
       refine tk 2 114 (v:=.agg y1) rfl rfl (fun W hW=>Kad rfl rfl (hly W hW)) ?_
       simp only [Act.put,sA,sZ,sS]
       refine Kao 1 113 rfl rfl (by kernel_rfl) rfl (Kan [.pointer (some ⟨B.gx,0,none⟩)] rfl rfl Tryz.func16 (by kernel_rfl) (by kernel_rfl)) ?_
       refine (htl _ hS).mono ?_
       rintro e W1 ⟨x8,rfl,hx8,hb1⟩
       have hS1:=Kaa hS hb1
       have hs8:=hs1 _ hS1 x8 (hx8.rdO hok8)
       refine ⟨_,rfl,.inr hS1,?_⟩
       simp only [Act.put,sA,sZ,sS]
       refine Kao 3 115 rfl rfl (by kernel_rfl) rfl (Kan [.agg x8,.agg y1] rfl rfl Tryz.func17 (by kernel_rfl) (by kernel_rfl)) ?_
       refine (hs8).mono ?_
       rintro e W3 ⟨rfl,hb3⟩
       have hS3:=Kaa hS1 hb3
       refine ⟨_,rfl,.inr hS3,?_⟩
       simp only [Act.put,sA,sZ,sS]
       refine tk 4 116 (v:=.bool true) rfl rfl (fun W hW=>Kab rfl rfl) ?_
       simp only [Act.put,sA,sZ,sS]
       refine tk 5 117 (v:=.agg x) rfl rfl (fun W hW=>Kad rfl rfl (hlg W hW)) ?_
       simp only [Act.put,sA,sZ,sS]
       refine tk 6 118 (v:=.agg z5) rfl rfl (fun W hW=>Kad rfl rfl (hlc W hW)) ?_
       simp only [Act.put,sA,sZ,sS]
       refine Kao 7 119 rfl rfl (by kernel_rfl) rfl (Kan [.agg x,.agg z5] rfl rfl Tryz.func17 (by kernel_rfl) (by kernel_rfl)) ?_
       refine (hs2 _ hS3).mono ?_
       rintro e W7 ⟨rfl,hb7⟩
       have hS7:=Kaa hS3 hb7
       refine ⟨_,rfl,.inr hS7,?_⟩
       simp only [Act.put,sA,sZ,sS]
       refine tk 8 120 (v:=.bool true) rfl rfl (fun W hW=>rfl) ?_
       simp only [Act.put,sA,sZ,sS]
       refine tk 9 121 (v:=.bool true) rfl rfl (fun W hW=>Kab rfl rfl) ?_
       simp only [Act.put,sA,sZ,sS]
       refine Kao 10 122 rfl rfl (by kernel_rfl) rfl (Kan [] rfl rfl Tryz.func12 (by kernel_rfl) (by kernel_rfl)) ?_
       refine (hkn _ hS7).mono ?_
       rintro e W10 ⟨rfl,hb10⟩
       have hS10:=Kaa hS7 hb10
       refine ⟨_,rfl,.inr hS10,?_⟩
       simp only [Act.put,sA,sZ,sS]
       refine tk 11 123 (v:=.bool true) rfl rfl (fun W hW=>rfl) ?_
       simp only [Act.put,sA,sZ,sS]
       refine tk 12 4 (v:=.bool true) rfl rfl (fun W hW=>Kax rfl rfl) ?_
       simp only [Act.put,sA,sZ,sS]
       refine done (by kernel_rfl) ?_ _
       have HBL:=yh (Kaa HB5.out hS10)
       clear hS hS1 hS3 hS7 hS10 hb1 hb3 hb7 hb10 hx8 hs8 htl hs1 hs2 hkn hlg hly hlc
       go_wp2
       go_ret
       exact ⟨rfl,HBL.out⟩
end Go.Proofs.YtihfnegakcghiaaGreatDoor
namespace Go.Proofs.YtihfnegakcghiaaGreatDoor
open Go.ChangeShapes Go.WideShapes Go.ChangeAt Go.RowKit Go.Joins
open _root_.Go.Proofs.YtihfnegakcghiaaGreatDoor.Rows (uptoBulk uptoBulkAll)
section
variable {H : Type} {enc : TypeId × Value → H} {w : World} {base : Nat} {held : Bool}
theorem cellsS : Tryz.prog.cellsOf 33 = 13:=by kernel_rfl
theorem cellsI : Tryz.prog.cellsOf 3 = 1:=by kernel_rfl
instance : Inhabited StepD:=⟨⟨0,0,0,false,[],[],[],.mk 0 false 0 [] [] []⟩⟩
def rngS (s : StepD) : Prop:=i64T s.kind ∧ i64T s.id ∧ i64T s.tgt
theorem step_ofU (fuel : Nat) (cs : List Value) (x : DataW H × List MemPlace) (h : DataW.trod enc Tryz.prog w base (fun _=>true) held fuel 33 cs = some x) (hf : Fits 33 x.1) : ∃ v,SpRd w v cs.toArray ∧ rngS v ∧ (uptoBulk x.1 ≤ 1048576 → SOk v):=by
 obtain ⟨xs,n,rfl,rfl,hl,hlen,hfl⟩:=DataW.trod_struct Tryz.underlying33 h
 rw [cellsS] at hl
 match xs,hlen with
 | [y0,y1,y2,y3,y4,y5,y6,y7],_ =>
   match cs,hl with
   | [c0,c1,c2,c3,c4,c5,c6,c7,c8,c9,c10,c11,c12],_ =>
     have k0:=hfl 0 _ rfl
     have k1:=hfl 1 _ rfl
     have k2:=hfl 2 _ rfl
     have k3:=hfl 3 _ rfl
     have k4:=hfl 4 _ rfl
     have k5:=hfl 5 _ rfl
     have k6:=hfl 6 _ rfl
     have k7:=hfl 7 _ rfl
     simp only [cells2,cells4,cells9,cells23,cells26,cellsI,cellsPs,List.drop_zero,List.drop_succ_cons,List.take_succ_cons,List.take_zero,List.getElem?_cons_zero,List.getElem?_cons_succ] at k0 k1 k2 k3 k4 k5 k6 k7
     have hw : Fits 9 y4.1 ∧ Fits 26 y5.1 ∧ Fits 27 y6.1 ∧ Fits 31 y7.1:=by
      unfold Fits at hf
      rw [DataW.weights,Tryz.underlying33] at hf
      simp only [List.map_cons,List.map_nil,DataW.weightsEach,List.append_nil,List.mem_append] at hf
      exact ⟨fun n hn=>hf n (by simp [hn]),fun n hn=>hf n (by simp [hn]),fun n hn=>hf n (by simp [hn]),fun n hn=>hf n (by simp [hn])⟩
     obtain ⟨i0,e0,_,r0⟩:=DataW.trod_int Tryz.underlying3 k0
     obtain ⟨i1,e1,_,r1⟩:=DataW.trod_int Tryz.underlying2 k1
     obtain ⟨i2,e2,_,r2⟩:=DataW.trod_int Tryz.underlying2 k2
     obtain ⟨b3,e3,_⟩:=DataW.trod_bool Tryz.underlying4 k3
     obtain ⟨s,e4,e4',_⟩:=DataW.trod_string Tryz.underlying9 k4
     obtain ⟨pk,ck,ks,rfl,hks,hkb⟩:=keys_ofU k5 hw.2.1
     obtain ⟨pp,cp,ps,rfl,hps,hpr,hpk⟩:=props_ofU k6 hw.2.2.1
     obtain ⟨v,hv1,hv2,hv3⟩:=value_ofU _ _ _ k7 hw.2.2.2
     obtain rfl : c0 = _:=(List.cons.inj e0).1
     obtain rfl : c1 = _:=(List.cons.inj e1).1
     obtain rfl : c2 = _:=(List.cons.inj e2).1
     obtain rfl : c3 = _:=(List.cons.inj e3).1
     obtain rfl : c4 = _:=(List.cons.inj e4).1
     have hs:=hw.1
     rw [e4'] at hs
     have ht:=Kc4 hs
     have hb4 : uptoBulk y4.1 = s.data.toList.length + 1:=by rw [e4',bulk_str]
     refine ⟨⟨i0,i1,i2,b3,s.data.toList,ks,ps,v⟩,⟨pk,ck,pp,cp,#[c7,c8,c9,c10,c11,c12],by unfold stepX;rw [Kdq];rfl,by simp only;omega,hks,hps,hv1⟩,⟨Kdg r0,Kdg r1,Kdg r2⟩,fun hb0=>?_⟩
     have hb:=bulk_agg ([y0,y1,y2,y3,y4,y5,y6,y7].map (·.1))
     have hb0 : uptoBulk (DataW.agg ([y0,y1,y2,y3,y4,y5,y6,y7].map (·.1))) ≤ 1048576:=hb0
     simp only [List.map_cons,List.map_nil,uptoBulkAll] at hb hb0
     exact ⟨by simp only;omega,hpk (by omega),by simp only;omega,by simp only;omega⟩
theorem step_inU {r : Reach} {b0 : Nat} {v : Value} {d : DataW H} {p : List MemPlace} (hv : Value.okWide Tryz.prog w r b0 33 v) (h : DataW.Trod enc Tryz.prog w base (fun _=>true) held 33 v d p) (hf : Fits 33 d) :
 ∃ u x,v = .agg x ∧ SpRd w u x ∧ rngS u ∧ (uptoBulk d ≤ 1048576 → SOk u):=by
 obtain ⟨cs,rfl,_⟩:=okWide_struct Tryz.underlying33 hv
 obtain ⟨fuel,h⟩:=h
 obtain ⟨u,h1,h2⟩:=step_ofU fuel _ _ h hf
 exact ⟨u,cs,rfl,by simpa [Value.cells] using h1,h2⟩
end
end Go.Proofs.YtihfnegakcghiaaGreatDoor
namespace Go.Proofs.YtihfnegakcghiaaGreatDoor
open Go.ChangeShapes Go.WideShapes Go.ChangeAt Go.RowKit Go.Joins
theorem graphKeeps_reads (os : Os) {H : Type} (enc : TypeId × Value → H) : ∃ x : List (DataW H) × List (DataW H) × List MemPlace,DataW.whole enc Tryz.checked.prog ((World.laidAll Tryz.prog os LD).forCall (fun _ _=>0) ⟨#[],#[.agg #[.slice none 0 0,.slice none 0 0,.int .i64 0,.int .i64 0],.agg #[.int .i64 0,.int .i64 0,.int .i64 0,.bool false,.string ⟨#[]⟩,.slice none 0 0,.slice none 0 0,.int .i64 0,.bool false,.int .i64 0,.string ⟨#[]⟩,.slice none 0 0,.slice none 0 0]],[]⟩).memory Tryz.f3.params.toList (Rows.OpenSpec.upto Rows.graphKeepsSpec).vars false #[.agg #[.slice none 0 0,.slice none 0 0,.int .i64 0,.int .i64 0],.agg #[.int .i64 0,.int .i64 0,.int .i64 0,.bool false,.string ⟨#[]⟩,.slice none 0 0,.slice none 0 0,.int .i64 0,.bool false,.int .i64 0,.string ⟨#[]⟩,.slice none 0 0,.slice none 0 0]].toList 8 = some x ∧ Rows.uptoSmall H (x.1 ++ x.2.1) = true:=by
 refine ⟨([.agg [.nil,.nil,.lit (.int .i64 0),.lit (.int .i64 0)],.agg [.lit (.int .i64 0),.lit (.int .i64 0),.lit (.int .i64 0),.lit (.bool false),.lit (.string []),.nil,.nil,.agg [.lit (.int .i64 0),.lit (.bool false),.lit (.int .i64 0),.lit (.string []),.nil,.nil]]],[],[]),?_,?_⟩
 ·kernel_rfl
 ·kernel_rfl
theorem graphKeeps_lifted (os : Os) (started : os.Started) (H : Type) (enc : TypeId × Value → H) (F : Stop.Interp) :
 ReturnsInHanded {} Tryz.checked os 3 .any ((Rows.OpenSpec.upto Rows.graphKeepsSpec).preRow enc Tryz.prog Tryz.f3 [] false LD) (((Rows.OpenSpec.upto Rows.graphKeepsSpec).at F).post enc Tryz.prog Tryz.f3 false true false false):=by
 obtain ⟨xr,hxr,hsm⟩:=graphKeeps_reads os enc
 refine returns_upto started (by kernel_rfl) Tryz.func3 #[.agg #[.slice none 0 0,.slice none 0 0,.int .i64 0,.int .i64 0],.agg #[.int .i64 0,.int .i64 0,.int .i64 0,.bool false,.string ⟨#[]⟩,.slice none 0 0,.slice none 0 0,.int .i64 0,.bool false,.int .i64 0,.string ⟨#[]⟩,.slice none 0 0,.slice none 0 0]] (by kernel_rfl) (by kernel_rfl) (by kernel_rfl) hxr hsm (by kernel_rfl) (wit_laid _ _) ?_
 intro W base args ds gs before hval0 hW hbk hz hE
 have hval : ∀ (j : Nat) t v,Tryz.f3.params[j]? = some t → args[j]? = some v → Value.okWide Tryz.prog W .any base t v:=hval0
 have hW':=hW
 obtain ⟨p,q,hA0,hV,rfl,hfz,hnd⟩:=hW
 have hA : DataW.TrodAll enc Tryz.prog W 0 (fun _=>true) true Tryz.f3.params.toList args.toList ds p:=hA0
 rw [Tryz.params3] at hA hval
 obtain ⟨v0,vs0,d0,ds0,p0,q0,hargs,rfl,rfl,h0,r0⟩:=trodAll_cons hA
 obtain ⟨v1,vs1,d1,ds1,p1,q1,rfl,rfl,rfl,h1,r1⟩:=trodAll_cons r0
 obtain ⟨rfl,rfl,rfl⟩:=trodAll_nil r1
 obtain ⟨rfl,rfl⟩:=trodVars_none hV
 obtain rfl : args = #[v0,v1]:=by cases args;simp_all
 rw [Tryz.params3] at hz
 simp only [List.append_nil,Rows.uptoBulkAll] at hbk
 obtain ⟨z0,z1⟩:=fits_two hz
 obtain ⟨a0,x0,rfl,hx0,hr0,hk0⟩:=graph_inU (hval 0 25 v0 rfl rfl) h0 z0
 have hk0:=hk0 (by omega)
 obtain ⟨a1,x1,rfl,hx1,hr1,hk1⟩:=step_inU (hval 1 33 v1 rfl rfl) h1 z1
 have hk1:=hk1 (by omega)
 clear hA0 hval0
 refine (gkeeps_any hE hx0 hx1 hk0 hk1).mono fun e W' ⟨he,hg⟩=>?_
 subst he
 exact ⟨_,rfl,law_post laidT (by decide +kernel) Tryz.underlying4 (by kernel_rfl) rfl hW' rfl hg⟩
theorem graphKeeps_row : Rows.GraphKeepsUptoSaid :=
 OpenClaim.holds_of_cond 3 Tryz.f3 rfl rfl rfl rfl rfl rfl rfl ⟨rfl,rfl,rfl,rfl,rfl⟩ rfl rfl rfl rfl rfl (by kernel_rfl) Tryz.func3 (by kernel_rfl)
  (of_decide_eq_true (by kernel_rfl)) (by unfold Func.isWrapper;first | (rw [if_pos (by decide +kernel)];kernel_rfl) | (rw [if_neg (by decide +kernel)];exact ⟨rfl,rfl⟩))
  (fun os started H enc _ F=>by rw [OpenClaim.pre_eq_preRow];exact graphKeeps_lifted os started H enc F)
theorem gkeeps_law_holds : Rows.GraphKeepsUptoCardSaid :=
 Claim7.holds_tied_plain_at .later [] _ _ _ _
  graphKeeps_row (fun _ h=>by cases h) (by kernel_rfl) (fun _ h=>by cases h) graphKeepsUpto_row_tie rfl ⟨rfl,rfl⟩ (by kernel_rfl) rfl
  (fun f fn hf hfn=>by
    obtain rfl : f = 3 := Option.some.inj ((show Tryz.prog.funcNamed "lattice/latticelaw05.GraphKeeps" = some 3 by kernel_rfl).symm.trans hf) |>.symm
    obtain rfl : fn = Tryz.f3:=(Option.some.inj (Tryz.func3.symm.trans hfn)).symm
    exact ⟨by kernel_rfl,fun j t ht=>by
     rw [Tryz.params3] at ht
     have hm : t ∈ [25,33]:=by simpa using Array.mem_of_getElem? ht
     have hall : ([25,33].all fun u=>!Tryz.prog.wantsStandIn u) = true:=by kernel_rfl
     exact (show Tryz.prog.wantsStandIn t = false by simpa using List.all_eq_true.1 hall t hm)⟩)
  (by kernel_rfl)
#print axioms gkeeps_law_holds
end Go.Proofs.YtihfnegakcghiaaGreatDoor
