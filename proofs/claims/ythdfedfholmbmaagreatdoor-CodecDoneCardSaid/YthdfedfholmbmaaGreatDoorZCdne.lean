/- Texts that the proof shares (each declaration is a lemma of this layer). -/
import Derived.Test.YthdfedfholmbmaaGreatDoorZCdna
import Derived.Test.YthdfedfholmbmaaGreatDoorZCdnb
import Derived.Test.YthdfedfholmbmaaGreatDoorZCdnc
import Derived.Test.YthdfedfholmbmaaGreatDoorZCdnd
import Derived.Lib.Replace
import Derived.Lib.SplitLaws
import Derived.Shelf.SlIterI.Nil
import Derived.Lib.SlKeysI
import Derived.Shelf.SortM.Plain
import Derived.Shelf.SortM.SortNone
import Derived.Ground.GgzProg
import Derived.Ground.SlgmProg
import Derived.Ground.SlgnProg
import Derived.Ground.Names2Prog
import Derived.Shelf.SlicesG.SearchI
import Derived.Shelf.Spec.SlicesInsert
import Derived.Shelf.Spec.SlicesInsertGrow
import Derived.Test.YthdfedfholmbmaaGreatDoorProg
import Derived.Laws.Cover3
set_option linter.unusedSimpArgs false
set_option linter.unusedVariables false
set_option maxRecDepth 100000
set_option maxHeartbeats 64000000
namespace Go.Proofs.YthdfedfholmbmaaGreatDoor
open Go.RowKit
theorem Kdq {i j : Nat} (h : i + j ≤ 4611686018427387904) (W : World) : (binOp .add 3 (.int .i64 (i : Int)) (.int .i64 (j : Int))).run Tryz.prog W = .ok (.int .i64 ((i + j : Nat) : Int)) W:=by
 have e : IntKind.i64.wrap ((i : Int) + (j : Int)) = ((i + j : Nat) : Int):=by rw [IntKind.wrap_i64];omega
 simp [go_sem,e]
theorem add_one' {i : Nat} (h : i ≤ 4611686018427387903) (W : World) : (binOp .add 3 (.int .i64 (i : Int)) (.int .i64 1)).run Tryz.prog W = .ok (.int .i64 ((i + 1 : Nat) : Int)) W:=Kdq (i:=i) (j:=1) (by omega) W
theorem exec_lenQ {a : Act} {w : World} {o : Oper} {x : Operand} {l : List UInt8} (ho : o.op = .call { callee:=.builtin .len,args:=#[x],argTypes:=#[9] }) (hx : a.eval x = .string (strB l)) : (execOp a.eval o).run Tryz.prog w = .ok (.value (.int .i64 (l.length : Int))) w:=by
 have e : (strB l).size = l.length:=rfl
 unfold execOp
 simp only [ho,resolve,invoke,builtin,Sem.run_bind,Sem.run_pure,Result.andThen_ok,List.map_toArray,List.map_cons,List.map_nil,hx]
 simp [go_sem,e]
theorem Ke7 {α : Type} (f : α → Nat) {l : List α} {j : Nat} (h : j < l.length) : ((l.take (j + 1)).map f).sum = ((l.take j).map f).sum + f l[j]:=by
 rw [List.take_succ_eq_append_getElem h,List.map_append,List.sum_append];simp
def Szo (tot r : Nat) : Prop:=(r ≤ 3000 → tot ≤ r) ∧ r ≤ 1125899906842624
theorem psz_any {w : World} {pl pp : Option Addr} {cl cp : Nat} {ls : List (List UInt8)} {ps : List PropD} (hl : RdS w pl cl ls) (hp : GRd PRd 7 w pp cp ps) :
 Calls Tryz.prog 36 #[.slice pl ls.length cl,.slice pp ps.length cp] w fun e w'=>∃ r : Nat,e = .returned (.int .i64 (r : Int)) ∧ Szo (1 + totLs ls + totPs ps) r ∧ Below w.heap.size w w':=by
 have z1 : (ls.length : Int) ≤ 140737488355328:=by have:=hl.2.1.1;omega
 have z2 : (ps.length : Int) ≤ 140737488355328:=by have:=hp.1.2.1;omega
 have HL:=yh hl
 have HP:=yh hp
 have htot : totPs ps = (ps.map totP).sum:=rfl
 rw [htot]
 clear hl hp htot
 go_enter Tryz.func36,Tryz.ntmps36
 go_wp2
 go_loopw [5,6] (fun m i W=>∃ j nn : Nat,j ≤ ls.length ∧ i = .int .i64 (j : Int) ∧ m = .int .i64 (nn : Int) ∧ nn ≤ 1125899906842624 ∧ Hid ((nn ≤ 3000 → 1 + ((ls.take j).map fun s=>1 + s.length).sum ≤ nn) ∧ Below w.heap.size w W)) (fun _ i _=>ls.length - (intOf i).toNat)
 case atStart=>exact ⟨0,1,Nat.zero_le _,rfl,rfl,by omega,yh ⟨fun _=>by simp,Below.refl _ _⟩⟩
 case round =>
  obtain ⟨j,nn,hj,rfl,rfl,hnb,HS⟩:=hrel
  have z5 : (nn : Int) ≤ 1125899906842624:=by omega
  by_cases hlt : j < ls.length
  ·have hlt1 : j + 1 ≤ ls.length:=hlt
   by_cases hle : nn ≤ 3000
   ·have hle1 : (nn : Int) ≤ 3000:=by omega
    obtain ⟨bk,ok,rfl,q0,hsl⟩:=(HL.out.below HS.out.2).get hlt
    have hstep : ((ls.take (j + 1)).map fun s=>1 + s.length).sum = ((ls.take j).map fun s=>1 + s.length).sum + (1 + ls[j].length):=Ke7 (fun s : List UInt8=>1 + s.length) hlt
    generalize ls[j] = kk at *
    have hszk : (strB kk).size = kk.length:=rfl
    have z6 : (kk.length : Int) ≤ 140737488355328:=by omega
    have HF:=yh (And.intro hstep HS.out)
    clear hstep HS
    go_wp2
    go_roundw
    case rel=>exact ⟨j + 1,nn + 1 + kk.length,hlt1,by go_num,by go_num,by omega,yh ⟨fun h=>by have:=HF.out.1;have:=HF.out.2.1 (by omega);omega,HF.out.2.2⟩⟩
    case measure=>simp [intOf];omega
   ·have hle1 : ¬ (nn : Int) ≤ 3000:=by omega
    have hle0 : decide ((nn : Int) ≤ 3000) = false:=by simpa using hle1
    have HF:=yh (show (nn ≤ 3000 → 1 + totLs ls ≤ nn) ∧ Below w.heap.size w wr from ⟨fun h=>absurd h hle,HS.out.2⟩)
    clear HS hle
    go_wp2
    go_loopw [5,7] (fun m i W=>∃ j2 nn : Nat,j2 ≤ ps.length ∧ i = .int .i64 (j2 : Int) ∧ m = .int .i64 (nn : Int) ∧ nn ≤ 1125899906842624 ∧ Hid ((nn ≤ 3000 → 1 + totLs ls + ((ps.take j2).map totP).sum ≤ nn) ∧ Below w.heap.size w W)) (fun _ i _=>ps.length - (intOf i).toNat)
    case atStart=>exact ⟨0,nn,Nat.zero_le _,rfl,rfl,by omega,yh ⟨fun h=>by have:=HF.out.1 h;simp only [List.take_zero,List.map_nil,List.sum_nil];omega,HF.out.2⟩⟩
    case round =>
     clear HF
     obtain ⟨j2,nn,hj2,rfl,rfl,hnb2,HQ⟩:=hrel
     have z5 : (nn : Int) ≤ 1125899906842624:=by omega
     by_cases hlt2 : j2 < ps.length
     ·have hlt3 : j2 + 1 ≤ ps.length:=hlt2
      by_cases hle : nn ≤ 3000
      ·have hle1 : (nn : Int) ≤ 3000:=by omega
       obtain ⟨b,of,cs,rfl,hs,hc0,hv⟩:=HP.out.get hlt2
       have hc : ∀ (k : Nat) (u : Value),cs[k]? = some u → wr.cell? ⟨b,of + j2 * 7 + k,none⟩ = some u:=fun k u hu=>Kak HQ.out.2 (ltOf (hc0 k u hu)) (hc0 k u hu)
       have hst:=Ke7 totP hlt2
       have hia : ∀ W' : World,(Instr.indexAt 68 (.slice (some ⟨b,of,none⟩) ps.length cp) (.int .i64 (j2 : Int))).run Tryz.prog W' = .ok (.pointer (some ⟨b,of + j2 * 7,none⟩)) W':=by intro W';simp [go_sem,hlt2]
       have hf0 : ∀ W' : World,(Instr.fieldAt 136 (.pointer (some ⟨b,of + j2 * 7,none⟩)) 0).run Tryz.prog W' = .ok (.pointer (some ⟨b,of + j2 * 7,none⟩)) W':=by intro W';simp [go_sem]
       have hf1 : ∀ W' : World,(Instr.fieldAt 136 (.pointer (some ⟨b,of + j2 * 7,none⟩)) 1).run Tryz.prog W' = .ok (.pointer (some ⟨b,of + j2 * 7 + 1,none⟩)) W':=by intro W';simp [go_sem]
       have hS0 : (∀ (k : Nat) (u : Value),cs[k]? = some u → wr.drew.cell? ⟨b,of + j2 * 7 + k,none⟩ = some u) ∧ Below w.heap.size w wr.drew:=⟨fun k u hu=>hc k u hu,HQ.out.2.drew⟩
       have htp : totP ps[j2] = 1 + ps[j2].key.length + totV ps[j2].val:=rfl
       obtain ⟨y,ey,hkl,hvv⟩:=hv
       have hys : y.size = 6:=Kec.size hvv
       generalize totP ps[j2] = tp at *
       generalize ps[j2].key = key at *
       generalize ps[j2].val = val at *
       have hk0 : cs[0]? = some (.string (strB key)):=by rw [ey,Array.getElem?_append_left (by simp)];rfl
       have hky : ∀ (i : Nat) (u : Value),y[i]? = some u → cs[1 + i]? = some u:=fun i u hu=>by
        rw [ey,Array.getElem?_append_right (by simp)]
        simpa using hu
       have hlv : ∀ W : World,((∀ (k : Nat) (u : Value),cs[k]? = some u → W.cell? ⟨b,of + j2 * 7 + k,none⟩ = some u) ∧ Below w.heap.size w W) → (loadVar 48 ⟨b,of + j2 * 7 + 1,none⟩).run Tryz.prog W = .ok (.agg y) W:=fun W h=>StT.load Kbp hys fun i u hu=>by
        rw [Nat.add_assoc];exact h.1 _ _ (hky i u hu)
       have hvw0:=hvv
       have hcall : ∀ W,Below w.heap.size w W → Calls Tryz.prog 19 #[.agg y,.int .i64 3000] W fun e w'=>(∃ r : Nat,e = .returned (.int .i64 (r : Int)) ∧ SizeLo 3000 (totV val) r) ∧ Below W.heap.size W w':=fun W g=>vsz_any val 3000 (Nat.le_refl _) W y (hvw0.below g)
       have HX:=yh (And.intro hia (And.intro hf0 (And.intro hf1 (And.intro hS0 (And.intro hk0 (And.intro hlv (And.intro hcall (And.intro hkl (And.intro hst htp)))))))))
       clear hia hf0 hf1 hS0 hk0 hky hlv hcall hkl hst hc hvv hvw0 ey hc0 hs htp
       go_wp2
       obtain ⟨hia,hf0,hf1,hS0,hk0,hlv,hcall,hkl,hst,htp⟩:=HX.out
       refine Kaj (fun W=>(∀ (k : Nat) (u : Value),cs[k]? = some u → W.cell? ⟨b,of + j2 * 7 + k,none⟩ = some u) ∧ Below w.heap.size w W) (by kernel_rfl) hS0 (fun hS=>?_)
       refine tk 0 36 (v:=.int .i64 (nn : Int)) rfl rfl (fun W hW=>Kah rfl rfl) ?_
       simp only [Act.put,sA,sZ,sS]
       refine tk 1 37 (v:=.int .i64 ((nn + 1 : Nat) : Int)) rfl rfl (fun W hW=>Kar rfl rfl rfl (add_one' (by omega) W)) ?_
       simp only [Act.put,sA,sZ,sS]
       refine tk 2 38 (v:=.slice (some ⟨b,of,none⟩) ps.length cp) rfl rfl (fun W hW=>Kah rfl rfl) ?_
       simp only [Act.put,sA,sZ,sS]
       refine tk 3 39 (v:=.int .i64 (j2 : Int)) rfl rfl (fun W hW=>Kah rfl rfl) ?_
       simp only [Act.put,sA,sZ,sS]
       refine tk 4 40 (v:=.pointer (some ⟨b,of + j2 * 7,none⟩)) rfl rfl (fun W hW=>Kao rfl rfl rfl (hia W)) ?_
       simp only [Act.put,sA,sZ,sS]
       refine tk 5 41 (v:=.pointer (some ⟨b,of + j2 * 7,none⟩)) rfl rfl (fun W hW=>Kad rfl rfl (hf0 W)) ?_
       simp only [Act.put,sA,sZ,sS]
       refine tk 6 42 (v:=.string (strB key)) rfl rfl (fun W hW=>Kaf rfl rfl (Kag (w:=W) Tryz.underlying9 rfl (hW.1 0 _ hk0))) ?_
       simp only [Act.put,sA,sZ,sS]
       refine tk 7 43 (v:=.int .i64 (key.length : Int)) rfl rfl (fun W hW=>exec_lenQ rfl rfl) ?_
       simp only [Act.put,sA,sZ,sS]
       refine tk 8 44 (v:=.int .i64 ((nn + 1 + key.length : Nat) : Int)) rfl rfl (fun W hW=>Kar rfl rfl rfl (Kdq (by omega) W)) ?_
       simp only [Act.put,sA,sZ,sS]
       refine tk 9 45 (v:=.slice (some ⟨b,of,none⟩) ps.length cp) rfl rfl (fun W hW=>Kah rfl rfl) ?_
       simp only [Act.put,sA,sZ,sS]
       refine tk 10 46 (v:=.int .i64 (j2 : Int)) rfl rfl (fun W hW=>Kah rfl rfl) ?_
       simp only [Act.put,sA,sZ,sS]
       refine tk 11 47 (v:=.pointer (some ⟨b,of + j2 * 7,none⟩)) rfl rfl (fun W hW=>Kao rfl rfl rfl (hia W)) ?_
       simp only [Act.put,sA,sZ,sS]
       refine tk 12 48 (v:=.pointer (some ⟨b,of + j2 * 7 + 1,none⟩)) rfl rfl (fun W hW=>Kad rfl rfl (hf1 W)) ?_
       simp only [Act.put,sA,sZ,sS]
       refine tk 13 49 (v:=.agg y) rfl rfl (fun W hW=>Kaf rfl rfl (hlv W hW)) ?_
       simp only [Act.put,sA,sZ,sS]
       refine Kau 14 50 rfl rfl (by kernel_rfl) rfl (Kaq [.agg y,.int .i64 3000] rfl rfl Tryz.func19 (by kernel_rfl) (by kernel_rfl)) ?_
       refine (hcall _ hS.2).mono ?_
       rintro e w7 ⟨⟨r,rfl,hr⟩,hb7⟩
       have hS7 : (∀ (k : Nat) (u : Value),cs[k]? = some u → w7.cell? ⟨b,of + j2 * 7 + k,none⟩ = some u) ∧ Below w.heap.size w w7:=⟨fun k u hu=>Kak hb7 (ltOf (hS.1 k u hu)) (hS.1 k u hu),Kaa hS.2 hb7⟩
       have hrb:=hr.2.2
       refine ⟨_,rfl,.inr hS7,?_⟩
       simp only [Act.put,sA,sZ,sS]
       refine tk 15 51 (v:=.int .i64 ((nn + 1 + key.length + r : Nat) : Int)) rfl rfl (fun W hW=>Kar rfl rfl rfl (Kdq (by omega) W)) ?_
       simp only [Act.put,sA,sZ,sS]
       refine tk 16 5 (v:=.int .i64 ((nn + 1 + key.length + r : Nat) : Int)) rfl rfl (fun W hW=>Kaz rfl rfl) ?_
       simp only [Act.put,sA,sZ,sS]
       refine done (by kernel_rfl) ?_ _
       have HB:=yh (And.intro hS7.2 (And.intro hr (And.intro hst htp)))
       have hnew : nn + 1 + key.length + r ≤ 1125899906842624:=by omega
       have HN:=yh (show (nn + 1 + key.length + r ≤ 3000 → 1 + totLs ls + ((ps.take (j2 + 1)).map totP).sum ≤ nn + 1 + key.length + r) from fun h=>by
        have h1:=HQ.out.1 (by omega)
        have h2:=hr.1
        have h3:=hr.2.1
        rw [hst,htp]
        by_cases h4 : 3000 < totV val
        ·have:=h3 h4;omega
        ·have:=h2 (by omega);omega)
       clear hia hf0 hf1 hS0 hk0 hlv hcall hkl hst htp hS hS7 hb7 hr hrb HX HQ
       generalize nn + 1 + key.length + r = nx at *
       go_wp2
       go_roundw
       case rel=>exact ⟨j2 + 1,nx,hlt3,by go_num,rfl,hnew,yh ⟨HN.out,HB.out.1⟩⟩
       case measure=>simp [intOf];omega
      ·have hle1 : ¬ (nn : Int) ≤ 3000:=by omega
       have hle0 : decide ((nn : Int) ≤ 3000) = false:=by simpa using hle1
       have HF2:=yh (And.intro hle HQ.out.2)
       clear HQ
       go_wp2
       go_ret
       exact ⟨nn,rfl,⟨fun h=>absurd h HF2.out.1,hnb2⟩,HF2.out.2⟩
     ·obtain rfl : j2 = ps.length:=by omega
      have HF2:=yh HQ.out
      clear HQ
      go_wp2
      go_ret
      refine ⟨nn,rfl,⟨fun h=>?_,hnb2⟩,HF2.out.2⟩
      have:=HF2.out.1 h
      rw [List.take_length] at this
      exact this
  ·obtain rfl : j = ls.length:=by omega
   have HF:=yh (show (nn ≤ 3000 → 1 + totLs ls ≤ nn) ∧ Below w.heap.size w wr from ⟨fun h=>by have:=HS.out.1 h;rw [List.take_length] at this;exact this,HS.out.2⟩)
   clear HS
   go_wp2
   go_loopw [5,7] (fun m i W=>∃ j2 nn : Nat,j2 ≤ ps.length ∧ i = .int .i64 (j2 : Int) ∧ m = .int .i64 (nn : Int) ∧ nn ≤ 1125899906842624 ∧ Hid ((nn ≤ 3000 → 1 + totLs ls + ((ps.take j2).map totP).sum ≤ nn) ∧ Below w.heap.size w W)) (fun _ i _=>ps.length - (intOf i).toNat)
   case atStart=>exact ⟨0,nn,Nat.zero_le _,rfl,rfl,by omega,yh ⟨fun h=>by have:=HF.out.1 h;simp only [List.take_zero,List.map_nil,List.sum_nil];omega,HF.out.2⟩⟩
   case round =>
    clear HF
    obtain ⟨j2,nn,hj2,rfl,rfl,hnb2,HQ⟩:=hrel
    have z5 : (nn : Int) ≤ 1125899906842624:=by omega
    by_cases hlt2 : j2 < ps.length
    ·have hlt3 : j2 + 1 ≤ ps.length:=hlt2
     by_cases hle : nn ≤ 3000
     ·have hle1 : (nn : Int) ≤ 3000:=by omega
      obtain ⟨b,of,cs,rfl,hs,hc0,hv⟩:=HP.out.get hlt2
      have hc : ∀ (k : Nat) (u : Value),cs[k]? = some u → wr.cell? ⟨b,of + j2 * 7 + k,none⟩ = some u:=fun k u hu=>Kak HQ.out.2 (ltOf (hc0 k u hu)) (hc0 k u hu)
      have hst:=Ke7 totP hlt2
      have hia : ∀ W' : World,(Instr.indexAt 68 (.slice (some ⟨b,of,none⟩) ps.length cp) (.int .i64 (j2 : Int))).run Tryz.prog W' = .ok (.pointer (some ⟨b,of + j2 * 7,none⟩)) W':=by intro W';simp [go_sem,hlt2]
      have hf0 : ∀ W' : World,(Instr.fieldAt 136 (.pointer (some ⟨b,of + j2 * 7,none⟩)) 0).run Tryz.prog W' = .ok (.pointer (some ⟨b,of + j2 * 7,none⟩)) W':=by intro W';simp [go_sem]
      have hf1 : ∀ W' : World,(Instr.fieldAt 136 (.pointer (some ⟨b,of + j2 * 7,none⟩)) 1).run Tryz.prog W' = .ok (.pointer (some ⟨b,of + j2 * 7 + 1,none⟩)) W':=by intro W';simp [go_sem]
      have hS0 : (∀ (k : Nat) (u : Value),cs[k]? = some u → wr.drew.cell? ⟨b,of + j2 * 7 + k,none⟩ = some u) ∧ Below w.heap.size w wr.drew:=⟨fun k u hu=>hc k u hu,HQ.out.2.drew⟩
      have htp : totP ps[j2] = 1 + ps[j2].key.length + totV ps[j2].val:=rfl
      obtain ⟨y,ey,hkl,hvv⟩:=hv
      have hys : y.size = 6:=Kec.size hvv
      generalize totP ps[j2] = tp at *
      generalize ps[j2].key = key at *
      generalize ps[j2].val = val at *
      have hk0 : cs[0]? = some (.string (strB key)):=by rw [ey,Array.getElem?_append_left (by simp)];rfl
      have hky : ∀ (i : Nat) (u : Value),y[i]? = some u → cs[1 + i]? = some u:=fun i u hu=>by
       rw [ey,Array.getElem?_append_right (by simp)]
       simpa using hu
      have hlv : ∀ W : World,((∀ (k : Nat) (u : Value),cs[k]? = some u → W.cell? ⟨b,of + j2 * 7 + k,none⟩ = some u) ∧ Below w.heap.size w W) → (loadVar 48 ⟨b,of + j2 * 7 + 1,none⟩).run Tryz.prog W = .ok (.agg y) W:=fun W h=>StT.load Kbp hys fun i u hu=>by
       rw [Nat.add_assoc];exact h.1 _ _ (hky i u hu)
      have hvw0:=hvv
      have hcall : ∀ W,Below w.heap.size w W → Calls Tryz.prog 19 #[.agg y,.int .i64 3000] W fun e w'=>(∃ r : Nat,e = .returned (.int .i64 (r : Int)) ∧ SizeLo 3000 (totV val) r) ∧ Below W.heap.size W w':=fun W g=>vsz_any val 3000 (Nat.le_refl _) W y (hvw0.below g)
      have HX:=yh (And.intro hia (And.intro hf0 (And.intro hf1 (And.intro hS0 (And.intro hk0 (And.intro hlv (And.intro hcall (And.intro hkl (And.intro hst htp)))))))))
      clear hia hf0 hf1 hS0 hk0 hky hlv hcall hkl hst hc hvv hvw0 ey hc0 hs htp
      go_wp2
      obtain ⟨hia,hf0,hf1,hS0,hk0,hlv,hcall,hkl,hst,htp⟩:=HX.out
      refine Kaj (fun W=>(∀ (k : Nat) (u : Value),cs[k]? = some u → W.cell? ⟨b,of + j2 * 7 + k,none⟩ = some u) ∧ Below w.heap.size w W) (by kernel_rfl) hS0 (fun hS=>?_)
      refine tk 0 36 (v:=.int .i64 (nn : Int)) rfl rfl (fun W hW=>Kah rfl rfl) ?_
      simp only [Act.put,sA,sZ,sS]
      refine tk 1 37 (v:=.int .i64 ((nn + 1 : Nat) : Int)) rfl rfl (fun W hW=>Kar rfl rfl rfl (add_one' (by omega) W)) ?_
      simp only [Act.put,sA,sZ,sS]
      refine tk 2 38 (v:=.slice (some ⟨b,of,none⟩) ps.length cp) rfl rfl (fun W hW=>Kah rfl rfl) ?_
      simp only [Act.put,sA,sZ,sS]
      refine tk 3 39 (v:=.int .i64 (j2 : Int)) rfl rfl (fun W hW=>Kah rfl rfl) ?_
      simp only [Act.put,sA,sZ,sS]
      refine tk 4 40 (v:=.pointer (some ⟨b,of + j2 * 7,none⟩)) rfl rfl (fun W hW=>Kao rfl rfl rfl (hia W)) ?_
      simp only [Act.put,sA,sZ,sS]
      refine tk 5 41 (v:=.pointer (some ⟨b,of + j2 * 7,none⟩)) rfl rfl (fun W hW=>Kad rfl rfl (hf0 W)) ?_
      simp only [Act.put,sA,sZ,sS]
      refine tk 6 42 (v:=.string (strB key)) rfl rfl (fun W hW=>Kaf rfl rfl (Kag (w:=W) Tryz.underlying9 rfl (hW.1 0 _ hk0))) ?_
      simp only [Act.put,sA,sZ,sS]
      refine tk 7 43 (v:=.int .i64 (key.length : Int)) rfl rfl (fun W hW=>exec_lenQ rfl rfl) ?_
      simp only [Act.put,sA,sZ,sS]
      refine tk 8 44 (v:=.int .i64 ((nn + 1 + key.length : Nat) : Int)) rfl rfl (fun W hW=>Kar rfl rfl rfl (Kdq (by omega) W)) ?_
      simp only [Act.put,sA,sZ,sS]
      refine tk 9 45 (v:=.slice (some ⟨b,of,none⟩) ps.length cp) rfl rfl (fun W hW=>Kah rfl rfl) ?_
      simp only [Act.put,sA,sZ,sS]
      refine tk 10 46 (v:=.int .i64 (j2 : Int)) rfl rfl (fun W hW=>Kah rfl rfl) ?_
      simp only [Act.put,sA,sZ,sS]
      refine tk 11 47 (v:=.pointer (some ⟨b,of + j2 * 7,none⟩)) rfl rfl (fun W hW=>Kao rfl rfl rfl (hia W)) ?_
      simp only [Act.put,sA,sZ,sS]
      refine tk 12 48 (v:=.pointer (some ⟨b,of + j2 * 7 + 1,none⟩)) rfl rfl (fun W hW=>Kad rfl rfl (hf1 W)) ?_
      simp only [Act.put,sA,sZ,sS]
      refine tk 13 49 (v:=.agg y) rfl rfl (fun W hW=>Kaf rfl rfl (hlv W hW)) ?_
      simp only [Act.put,sA,sZ,sS]
      refine Kau 14 50 rfl rfl (by kernel_rfl) rfl (Kaq [.agg y,.int .i64 3000] rfl rfl Tryz.func19 (by kernel_rfl) (by kernel_rfl)) ?_
      refine (hcall _ hS.2).mono ?_
      rintro e w7 ⟨⟨r,rfl,hr⟩,hb7⟩
      have hS7 : (∀ (k : Nat) (u : Value),cs[k]? = some u → w7.cell? ⟨b,of + j2 * 7 + k,none⟩ = some u) ∧ Below w.heap.size w w7:=⟨fun k u hu=>Kak hb7 (ltOf (hS.1 k u hu)) (hS.1 k u hu),Kaa hS.2 hb7⟩
      have hrb:=hr.2.2
      refine ⟨_,rfl,.inr hS7,?_⟩
      simp only [Act.put,sA,sZ,sS]
      refine tk 15 51 (v:=.int .i64 ((nn + 1 + key.length + r : Nat) : Int)) rfl rfl (fun W hW=>Kar rfl rfl rfl (Kdq (by omega) W)) ?_
      simp only [Act.put,sA,sZ,sS]
      refine tk 16 5 (v:=.int .i64 ((nn + 1 + key.length + r : Nat) : Int)) rfl rfl (fun W hW=>Kaz rfl rfl) ?_
      simp only [Act.put,sA,sZ,sS]
      refine done (by kernel_rfl) ?_ _
      have HB:=yh (And.intro hS7.2 (And.intro hr (And.intro hst htp)))
      have hnew : nn + 1 + key.length + r ≤ 1125899906842624:=by omega
      have HN:=yh (show (nn + 1 + key.length + r ≤ 3000 → 1 + totLs ls + ((ps.take (j2 + 1)).map totP).sum ≤ nn + 1 + key.length + r) from fun h=>by
       have h1:=HQ.out.1 (by omega)
       have h2:=hr.1
       have h3:=hr.2.1
       rw [hst,htp]
       by_cases h4 : 3000 < totV val
       ·have:=h3 h4;omega
       ·have:=h2 (by omega);omega)
      clear hia hf0 hf1 hS0 hk0 hlv hcall hkl hst htp hS hS7 hb7 hr hrb HX HQ
      generalize nn + 1 + key.length + r = nx at *
      go_wp2
      go_roundw
      case rel=>exact ⟨j2 + 1,nx,hlt3,by go_num,rfl,hnew,yh ⟨HN.out,HB.out.1⟩⟩
      case measure=>simp [intOf];omega
     ·have hle1 : ¬ (nn : Int) ≤ 3000:=by omega
      have hle0 : decide ((nn : Int) ≤ 3000) = false:=by simpa using hle1
      have HF2:=yh (And.intro hle HQ.out.2)
      clear HQ
      go_wp2
      go_ret
      exact ⟨nn,rfl,⟨fun h=>absurd h HF2.out.1,hnb2⟩,HF2.out.2⟩
    ·obtain rfl : j2 = ps.length:=by omega
     have HF2:=yh HQ.out
     clear HQ
     go_wp2
     go_ret
     refine ⟨nn,rfl,⟨fun h=>?_,hnb2⟩,HF2.out.2⟩
     have:=HF2.out.1 h
     rw [List.take_length] at this
     exact this
theorem rds_nil {W : World} : RdS W none 0 []:=⟨Nat.le_refl _,⟨by simp,by omega⟩,(fun _=>rfl),(fun s hs=>by cases hs),fun ad h=>by cases h⟩
def SmOk (g : GraphD) (b : Bool) : Prop:=b = true → totG g ≤ 3000
def SmPost (w : World) (g : GraphD) (e : Ending) (w' : World) : Prop:=∃ b,e = .returned (.bool b) ∧ SmOk g b ∧ Below w.heap.size w w'
theorem smallG_any {w : World} {g : GraphD} {x : Array Value} (h : GrRd w g x) : Calls Tryz.prog 9 #[.agg x] w (SmPost w g):=by
 obtain ⟨pn,cn,pr,cr,rfl,hn,hrl⟩:=h
 have z1 : (g.nodes.length : Int) ≤ 140737488355328:=by have:=hn.1.2.1;omega
 have z2 : (g.rels.length : Int) ≤ 140737488355328:=by have:=hrl.1.2.1;omega
 have hb:=Kac (w:=w) (.cells #[.slice pn g.nodes.length cn,.slice pr g.rels.length cr,.int .i64 g.nextNode,.int .i64 g.nextRel] 25)
 have hg:=heap_alloc_new w (.cells #[.slice pn g.nodes.length cn,.slice pr g.rels.length cr,.int .i64 g.nextNode,.int .i64 g.nextRel] 25)
 have hn1:=hn.below (fun h=>h.below hb) hb
 have hr1:=hrl.below (fun h=>h.below hb) hb
 have hlt0:=Array.getElem?_eq_some_iff.1 hg |>.1
 have H:=yh (And.intro hn1 (And.intro hr1 (And.intro hg hlt0)))
 have HB0:=yh hb
 have HTG:=yh (show totG g = (g.nodes.map totN).sum + (g.rels.map totR).sum from rfl)
 clear hn hrl hb hg hn1 hr1 hlt0
 go_enter Tryz.func9,Tryz.ntmps9
 go_wp2
 generalize w.alloc (.cells #[.slice pn g.nodes.length cn,.slice pr g.rels.length cr,.int .i64 g.nextNode,.int .i64 g.nextRel] 25) = w1 at *
 go_loopw [3,4] (fun m i W=>∃ j nn : Nat,j ≤ g.nodes.length ∧ i = .int .i64 (j : Int) ∧ m = .int .i64 (nn : Int) ∧ nn ≤ 2251799813685248 ∧ Hid ((nn ≤ 3000 → ((g.nodes.take j).map totN).sum ≤ nn) ∧ Below w1.heap.size w1 W)) (fun _ i _=>g.nodes.length - (intOf i).toNat)
 case atStart=>exact ⟨0,0,Nat.zero_le _,rfl,rfl,by omega,yh ⟨fun _=>by simp,Below.refl _ _⟩⟩
 case round =>
  obtain ⟨j,nn,hj,rfl,rfl,hnb,HS⟩:=hrel
  have z5 : (nn : Int) ≤ 2251799813685248:=by omega
  obtain ⟨hn1,hr1,hg,hlt0⟩:=H.out
  have hcl0:=Kab (o:=0) (Kai HS.out.2 hlt0 hg) rfl
  clear hn1 hr1 hg hlt0
  by_cases hlt : j < g.nodes.length
  ·have hlt1 : j + 1 ≤ g.nodes.length:=hlt
   by_cases hle : nn ≤ 3000
   ·have hle1 : (nn : Int) ≤ 3000:=by omega
    obtain ⟨hn1,hr1,hg,hlt0⟩:=H.out
    obtain ⟨b,of,cs,rfl,hs,hc0,hv⟩:=hn1.get hlt
    have hc : ∀ (k : Nat) (u : Value),cs[k]? = some u → wr.cell? ⟨b,of + j * 3 + k,none⟩ = some u:=fun k u hu=>Kak HS.out.2 (ltOf (hc0 k u hu)) (hc0 k u hu)
    have hst:=Ke7 totN hlt
    have htn : totN g.nodes[j] = 1 + totLs g.nodes[j].labels + totPs g.nodes[j].props:=rfl
    obtain ⟨pl,cl,pp,cp,ecs,hls,hps⟩:=hv
    generalize totN g.nodes[j] = tn at *
    generalize g.nodes[j].labels = ls at *
    generalize g.nodes[j].props = ps at *
    have hc1 : cs[1]? = some (.slice pl ls.length cl):=by rw [ecs];rfl
    have hc2 : cs[2]? = some (.slice pp ps.length cp):=by rw [ecs];rfl
    have hia : ∀ W' : World,(Instr.indexAt 22 (.slice (some ⟨b,of,none⟩) g.nodes.length cn) (.int .i64 (j : Int))).run Tryz.prog W' = .ok (.pointer (some ⟨b,of + j * 3,none⟩)) W':=by intro W';simp [go_sem,hlt]
    have hf1 : ∀ W' : World,(Instr.fieldAt 70 (.pointer (some ⟨b,of + j * 3,none⟩)) 1).run Tryz.prog W' = .ok (.pointer (some ⟨b,of + j * 3 + 1,none⟩)) W':=by intro W';simp [go_sem]
    have hf2 : ∀ W' : World,(Instr.fieldAt 70 (.pointer (some ⟨b,of + j * 3,none⟩)) 2).run Tryz.prog W' = .ok (.pointer (some ⟨b,of + j * 3 + 2,none⟩)) W':=by intro W';simp [go_sem]
    have hg0 : ∀ W' : World,(Instr.fieldAt 25 (.pointer (some ⟨w.heap.size,0,none⟩)) 0).run Tryz.prog W' = .ok (.pointer (some ⟨w.heap.size,0,none⟩)) W':=by intro W';simp [go_sem]
    have hln : ∀ W,Below w1.heap.size w1 W → (loadVar 22 ⟨w.heap.size,0,none⟩).run Tryz.prog W = .ok (.slice (some ⟨b,of,none⟩) g.nodes.length cn) W:=fun W q=>Kei Tryz.underlying22 rfl q hg rfl
    have hcall13 : ∀ W,Below w1.heap.size w1 W → Calls Tryz.prog 36 #[.slice pl ls.length cl,.slice pp ps.length cp] W fun e w'=>∃ r : Nat,e = .returned (.int .i64 (r : Int)) ∧ Szo (1 + totLs ls + totPs ps) r ∧ Below W.heap.size W w':=fun W q=>psz_any (hls.below q) (hps.below (fun h=>h.below q) q)
    have hS0 : (∀ (k : Nat) (u : Value),cs[k]? = some u → wr.drew.cell? ⟨b,of + j * 3 + k,none⟩ = some u) ∧ Below w1.heap.size w1 wr.drew:=⟨fun k u hu=>hc k u hu,HS.out.2.drew⟩
    have HX:=yh (And.intro hia (And.intro hf1 (And.intro hf2 (And.intro hg0 (And.intro hln (And.intro hcall13 (And.intro hS0 (And.intro hc1 (And.intro hc2 (And.intro hst htn))))))))))
    clear hia hf1 hf2 hg0 hln hcall13 hS0 hc1 hc2 hst htn hn1 hr1 hg hlt0 hc hc0 hls hps ecs hs
    go_wp2
    obtain ⟨hia,hf1,hf2,hg0,hln,hcall13,hS0,hc1,hc2,hst,htn⟩:=HX.out
    refine Kaj (fun W=>(∀ (k : Nat) (u : Value),cs[k]? = some u → W.cell? ⟨b,of + j * 3 + k,none⟩ = some u) ∧ Below w1.heap.size w1 W) (by kernel_rfl) hS0 (fun hS=>?_)
    refine tk 0 17 (v:=.int .i64 (nn : Int)) rfl rfl (fun W hW=>Kah rfl rfl) ?_
    simp only [Act.put,sA,sZ,sS]
    refine tk 1 18 (v:=.pointer (some ⟨w.heap.size,0,none⟩)) rfl rfl (fun W hW=>Kad rfl rfl (hg0 W)) ?_
    simp only [Act.put,sA,sZ,sS]
    refine tk 2 19 (v:=.slice (some ⟨b,of,none⟩) g.nodes.length cn) rfl rfl (fun W hW=>Kaf rfl rfl (hln W hW.2)) ?_
    simp only [Act.put,sA,sZ,sS]
    refine tk 3 20 (v:=.int .i64 (j : Int)) rfl rfl (fun W hW=>Kah rfl rfl) ?_
    simp only [Act.put,sA,sZ,sS]
    refine tk 4 21 (v:=.pointer (some ⟨b,of + j * 3,none⟩)) rfl rfl (fun W hW=>Kao rfl rfl rfl (hia W)) ?_
    simp only [Act.put,sA,sZ,sS]
    refine tk 5 22 (v:=.pointer (some ⟨b,of + j * 3 + 1,none⟩)) rfl rfl (fun W hW=>Kad rfl rfl (hf1 W)) ?_
    simp only [Act.put,sA,sZ,sS]
    refine tk 6 23 (v:=.slice pl ls.length cl) rfl rfl (fun W hW=>Kaf rfl rfl (Kag (w:=W) Tryz.underlying45 rfl (hW.1 1 _ hc1))) ?_
    simp only [Act.put,sA,sZ,sS]
    refine tk 7 24 (v:=.pointer (some ⟨w.heap.size,0,none⟩)) rfl rfl (fun W hW=>Kad rfl rfl (hg0 W)) ?_
    simp only [Act.put,sA,sZ,sS]
    refine tk 8 25 (v:=.slice (some ⟨b,of,none⟩) g.nodes.length cn) rfl rfl (fun W hW=>Kaf rfl rfl (hln W hW.2)) ?_
    simp only [Act.put,sA,sZ,sS]
    refine tk 9 26 (v:=.int .i64 (j : Int)) rfl rfl (fun W hW=>Kah rfl rfl) ?_
    simp only [Act.put,sA,sZ,sS]
    refine tk 10 27 (v:=.pointer (some ⟨b,of + j * 3,none⟩)) rfl rfl (fun W hW=>Kao rfl rfl rfl (hia W)) ?_
    simp only [Act.put,sA,sZ,sS]
    refine tk 11 28 (v:=.pointer (some ⟨b,of + j * 3 + 2,none⟩)) rfl rfl (fun W hW=>Kad rfl rfl (hf2 W)) ?_
    simp only [Act.put,sA,sZ,sS]
    refine tk 12 29 (v:=.slice pp ps.length cp) rfl rfl (fun W hW=>Kaf rfl rfl (Kag (w:=W) Tryz.underlying68 rfl (hW.1 2 _ hc2))) ?_
    simp only [Act.put,sA,sZ,sS]
    refine Kau 13 30 rfl rfl (by kernel_rfl) rfl (Kaq [.slice pl ls.length cl,.slice pp ps.length cp] rfl rfl Tryz.func36 (by kernel_rfl) (by kernel_rfl)) ?_
    refine (hcall13 _ hS.2).mono ?_
    rintro e w13 ⟨r,rfl,hr,hb13⟩
    have hS13 : (∀ (k : Nat) (u : Value),cs[k]? = some u → w13.cell? ⟨b,of + j * 3 + k,none⟩ = some u) ∧ Below w1.heap.size w1 w13:=⟨fun k u hu=>Kak hb13 (ltOf (hS.1 k u hu)) (hS.1 k u hu),Kaa hS.2 hb13⟩
    have hbr:=hr.2
    refine ⟨_,rfl,.inr hS13,?_⟩
    simp only [Act.put,sA,sZ,sS]
    refine tk 14 31 (v:=.int .i64 ((nn + r : Nat) : Int)) rfl rfl (fun W hW=>Kar rfl rfl rfl (Kdq (by omega) W)) ?_
    simp only [Act.put,sA,sZ,sS]
    refine tk 15 3 (v:=.int .i64 ((nn + r : Nat) : Int)) rfl rfl (fun W hW=>Kaz rfl rfl) ?_
    simp only [Act.put,sA,sZ,sS]
    refine done (by kernel_rfl) ?_ _
    have hnew : nn + r ≤ 2251799813685248:=by omega
    have HN:=yh (show (nn + r ≤ 3000 → ((g.nodes.take (j + 1)).map totN).sum ≤ nn + r) ∧ Below w1.heap.size w1 w13 from ⟨fun h=>by
     have h1:=HS.out.1 (by omega)
     have h2:=hr.1 (by omega)
     rw [hst,htn];omega,hS13.2⟩)
    clear hia hf1 hf2 hg0 hln hcall13 hS0 hc1 hc2 hst htn hS hS13 hb13 hr hbr HX HS
    generalize nn + r = nx at *
    go_wp2
    go_roundw
    case rel=>exact ⟨j + 1,nx,hlt1,by go_num,rfl,hnew,HN⟩
    case measure=>simp [intOf];omega
   ·have hle1 : ¬ (nn : Int) ≤ 3000:=by omega
    have hle0 : decide ((nn : Int) ≤ 3000) = false:=by simpa using hle1
    have HF:=yh (show (nn ≤ 3000 → (g.nodes.map totN).sum ≤ nn) ∧ Below w1.heap.size w1 wr from ⟨fun h=>absurd h hle,HS.out.2⟩)
    clear HS hle
    go_wp2
    clear hcl0
    go_loopw [3,5] (fun m i W=>∃ j2 nn : Nat,j2 ≤ g.rels.length ∧ i = .int .i64 (j2 : Int) ∧ m = .int .i64 (nn : Int) ∧ nn ≤ 4503599627370496 ∧ Hid ((nn ≤ 3000 → (g.nodes.map totN).sum + ((g.rels.take j2).map totR).sum ≤ nn) ∧ Below w1.heap.size w1 W)) (fun _ i _=>g.rels.length - (intOf i).toNat)
    case atStart=>exact ⟨0,nn,Nat.zero_le _,rfl,rfl,by omega,yh ⟨fun h=>by have:=HF.out.1 h;simp only [List.take_zero,List.map_nil,List.sum_nil];omega,HF.out.2⟩⟩
    case round =>
     clear HF
     obtain ⟨j2,nn,hj2,rfl,rfl,hnb2,HS⟩:=hrel
     have z5 : (nn : Int) ≤ 4503599627370496:=by omega
     obtain ⟨hn1,hr1,hg,hlt0⟩:=H.out
     have hcl1:=Kab (o:=1) (Kai HS.out.2 hlt0 hg) rfl
     clear hn1 hr1 hg hlt0
     by_cases hlt2 : j2 < g.rels.length
     ·have hlt3 : j2 + 1 ≤ g.rels.length:=hlt2
      by_cases hle : nn ≤ 3000
      ·have hle1 : (nn : Int) ≤ 3000:=by omega
       obtain ⟨hn1,hr1,hg,hlt0⟩:=H.out
       obtain ⟨b,of,cs,rfl,hs,hc0,hv⟩:=hr1.get hlt2
       have hc : ∀ (k : Nat) (u : Value),cs[k]? = some u → wr.cell? ⟨b,of + j2 * 5 + k,none⟩ = some u:=fun k u hu=>Kak HS.out.2 (ltOf (hc0 k u hu)) (hc0 k u hu)
       have hst:=Ke7 totR hlt2
       have htn : totR g.rels[j2] = 1 + g.rels[j2].type.length + totPs g.rels[j2].props:=rfl
       obtain ⟨pp,cp,ecs,hty,hps⟩:=hv
       generalize totR g.rels[j2] = tn at *
       generalize g.rels[j2].type = ty at *
       generalize g.rels[j2].props = ps at *
       have hc3 : cs[3]? = some (.string (strB ty)):=by rw [ecs];rfl
       have hc4 : cs[4]? = some (.slice pp ps.length cp):=by rw [ecs];rfl
       have hia : ∀ W' : World,(Instr.indexAt 23 (.slice (some ⟨b,of,none⟩) g.rels.length cr) (.int .i64 (j2 : Int))).run Tryz.prog W' = .ok (.pointer (some ⟨b,of + j2 * 5,none⟩)) W':=by intro W';simp [go_sem,hlt2]
       have hf3 : ∀ W' : World,(Instr.fieldAt 72 (.pointer (some ⟨b,of + j2 * 5,none⟩)) 3).run Tryz.prog W' = .ok (.pointer (some ⟨b,of + j2 * 5 + 3,none⟩)) W':=by intro W';simp [go_sem]
       have hf4 : ∀ W' : World,(Instr.fieldAt 72 (.pointer (some ⟨b,of + j2 * 5,none⟩)) 4).run Tryz.prog W' = .ok (.pointer (some ⟨b,of + j2 * 5 + 4,none⟩)) W':=by intro W';simp [go_sem]
       have hg1 : ∀ W' : World,(Instr.fieldAt 25 (.pointer (some ⟨w.heap.size,0,none⟩)) 1).run Tryz.prog W' = .ok (.pointer (some ⟨w.heap.size,1,none⟩)) W':=by intro W';simp [go_sem]
       have hlr : ∀ W,Below w1.heap.size w1 W → (loadVar 23 ⟨w.heap.size,1,none⟩).run Tryz.prog W = .ok (.slice (some ⟨b,of,none⟩) g.rels.length cr) W:=fun W q=>Kei Tryz.underlying23 rfl q hg rfl
       have hcall15 : ∀ W,Below w1.heap.size w1 W → Calls Tryz.prog 36 #[.slice none 0 0,.slice pp ps.length cp] W fun e w'=>∃ r : Nat,e = .returned (.int .i64 (r : Int)) ∧ Szo (1 + totLs [] + totPs ps) r ∧ Below W.heap.size W w':=fun W q=>psz_any (ls:=[]) rds_nil (hps.below (fun h=>h.below q) q)
       have hS0 : (∀ (k : Nat) (u : Value),cs[k]? = some u → wr.drew.cell? ⟨b,of + j2 * 5 + k,none⟩ = some u) ∧ Below w1.heap.size w1 wr.drew:=⟨fun k u hu=>hc k u hu,HS.out.2.drew⟩
       have HX:=yh (And.intro hia (And.intro hf3 (And.intro hf4 (And.intro hg1 (And.intro hlr (And.intro hcall15 (And.intro hS0 (And.intro hc3 (And.intro hc4 (And.intro hst (And.intro htn hty)))))))))))
       clear hia hf3 hf4 hg1 hlr hcall15 hS0 hc3 hc4 hst htn hn1 hr1 hg hlt0 hc hc0 hty hps ecs hs
       go_wp2
       obtain ⟨hia,hf3,hf4,hg1,hlr,hcall15,hS0,hc3,hc4,hst,htn,hty⟩:=HX.out
       refine Kaj (fun W=>(∀ (k : Nat) (u : Value),cs[k]? = some u → W.cell? ⟨b,of + j2 * 5 + k,none⟩ = some u) ∧ Below w1.heap.size w1 W) (by kernel_rfl) hS0 (fun hS=>?_)
       refine tk 0 43 (v:=.int .i64 (nn : Int)) rfl rfl (fun W hW=>Kah rfl rfl) ?_
       simp only [Act.put,sA,sZ,sS]
       refine tk 1 44 (v:=.pointer (some ⟨w.heap.size,1,none⟩)) rfl rfl (fun W hW=>Kad rfl rfl (hg1 W)) ?_
       simp only [Act.put,sA,sZ,sS]
       refine tk 2 45 (v:=.slice (some ⟨b,of,none⟩) g.rels.length cr) rfl rfl (fun W hW=>Kaf rfl rfl (hlr W hW.2)) ?_
       simp only [Act.put,sA,sZ,sS]
       refine tk 3 46 (v:=.int .i64 (j2 : Int)) rfl rfl (fun W hW=>Kah rfl rfl) ?_
       simp only [Act.put,sA,sZ,sS]
       refine tk 4 47 (v:=.pointer (some ⟨b,of + j2 * 5,none⟩)) rfl rfl (fun W hW=>Kao rfl rfl rfl (hia W)) ?_
       simp only [Act.put,sA,sZ,sS]
       refine tk 5 48 (v:=.pointer (some ⟨b,of + j2 * 5 + 3,none⟩)) rfl rfl (fun W hW=>Kad rfl rfl (hf3 W)) ?_
       simp only [Act.put,sA,sZ,sS]
       refine tk 6 49 (v:=.string (strB ty)) rfl rfl (fun W hW=>Kaf rfl rfl (Kag (w:=W) Tryz.underlying9 rfl (hW.1 3 _ hc3))) ?_
       simp only [Act.put,sA,sZ,sS]
       refine tk 7 50 (v:=.int .i64 (ty.length : Int)) rfl rfl (fun W hW=>exec_lenQ rfl rfl) ?_
       simp only [Act.put,sA,sZ,sS]
       refine tk 8 51 (v:=.int .i64 ((nn + ty.length : Nat) : Int)) rfl rfl (fun W hW=>Kar rfl rfl rfl (Kdq (by omega) W)) ?_
       simp only [Act.put,sA,sZ,sS]
       refine tk 9 52 (v:=.pointer (some ⟨w.heap.size,1,none⟩)) rfl rfl (fun W hW=>Kad rfl rfl (hg1 W)) ?_
       simp only [Act.put,sA,sZ,sS]
       refine tk 10 53 (v:=.slice (some ⟨b,of,none⟩) g.rels.length cr) rfl rfl (fun W hW=>Kaf rfl rfl (hlr W hW.2)) ?_
       simp only [Act.put,sA,sZ,sS]
       refine tk 11 54 (v:=.int .i64 (j2 : Int)) rfl rfl (fun W hW=>Kah rfl rfl) ?_
       simp only [Act.put,sA,sZ,sS]
       refine tk 12 55 (v:=.pointer (some ⟨b,of + j2 * 5,none⟩)) rfl rfl (fun W hW=>Kao rfl rfl rfl (hia W)) ?_
       simp only [Act.put,sA,sZ,sS]
       refine tk 13 56 (v:=.pointer (some ⟨b,of + j2 * 5 + 4,none⟩)) rfl rfl (fun W hW=>Kad rfl rfl (hf4 W)) ?_
       simp only [Act.put,sA,sZ,sS]
       refine tk 14 57 (v:=.slice pp ps.length cp) rfl rfl (fun W hW=>Kaf rfl rfl (Kag (w:=W) Tryz.underlying68 rfl (hW.1 4 _ hc4))) ?_
       simp only [Act.put,sA,sZ,sS]
       refine Kau 15 58 rfl rfl (by kernel_rfl) rfl (Kaq [.slice none 0 0,.slice pp ps.length cp] rfl rfl Tryz.func36 (by kernel_rfl) (by kernel_rfl)) ?_
       refine (hcall15 _ hS.2).mono ?_
       rintro e w15 ⟨r,rfl,hr,hb15⟩
       have hS15 : (∀ (k : Nat) (u : Value),cs[k]? = some u → w15.cell? ⟨b,of + j2 * 5 + k,none⟩ = some u) ∧ Below w1.heap.size w1 w15:=⟨fun k u hu=>Kak hb15 (ltOf (hS.1 k u hu)) (hS.1 k u hu),Kaa hS.2 hb15⟩
       have hbr:=hr.2
       refine ⟨_,rfl,.inr hS15,?_⟩
       simp only [Act.put,sA,sZ,sS]
       refine tk 16 59 (v:=.int .i64 ((nn + ty.length + r : Nat) : Int)) rfl rfl (fun W hW=>Kar rfl rfl rfl (Kdq (by omega) W)) ?_
       simp only [Act.put,sA,sZ,sS]
       refine tk 17 3 (v:=.int .i64 ((nn + ty.length + r : Nat) : Int)) rfl rfl (fun W hW=>Kaz rfl rfl) ?_
       simp only [Act.put,sA,sZ,sS]
       refine done (by kernel_rfl) ?_ _
       have hnew : nn + ty.length + r ≤ 4503599627370496:=by omega
       have HN:=yh (show (nn + ty.length + r ≤ 3000 → (g.nodes.map totN).sum + ((g.rels.take (j2 + 1)).map totR).sum ≤ nn + ty.length + r) ∧ Below w1.heap.size w1 w15 from ⟨fun h=>by
        have h1:=HS.out.1 (by omega)
        have h2:=hr.1 (by omega)
        have h3 : totLs [] = 0:=rfl
        rw [hst,htn];omega,hS15.2⟩)
       clear hia hf3 hf4 hg1 hlr hcall15 hS0 hc3 hc4 hst htn hS hS15 hb15 hr hbr HX HS hty
       generalize nn + ty.length + r = nx at *
       go_wp2
       go_roundw
       case rel=>exact ⟨j2 + 1,nx,hlt3,by go_num,rfl,hnew,HN⟩
       case measure=>simp [intOf];omega
      ·have hle1 : ¬ (nn : Int) ≤ 3000:=by omega
       have hle0 : decide ((nn : Int) ≤ 3000) = false:=by simpa using hle1
       have HF2:=yh (Kaa HB0.out HS.out.2)
       clear HS
       go_wp2
       go_ret
       exact ⟨false,rfl,(fun h=>by cases h),HF2.out⟩
     ·obtain rfl : j2 = g.rels.length:=by omega
      have HF2:=yh (And.intro HS.out.1 (Kaa HB0.out HS.out.2))
      clear HS
      by_cases hle : nn ≤ 3000
      ·have hle1 : (nn : Int) ≤ 3000:=by omega
       go_wp2
       go_ret
       refine ⟨true,rfl,fun _=>?_,HF2.out.2⟩
       have:=HF2.out.1 hle
       rw [List.take_length] at this
       rw [HTG.out];omega
      ·have hle1 : ¬ (nn : Int) ≤ 3000:=by omega
       have hle0 : decide ((nn : Int) ≤ 3000) = false:=by simpa using hle1
       go_wp2
       go_ret
       exact ⟨false,rfl,(fun h=>by cases h),HF2.out.2⟩
  ·obtain rfl : j = g.nodes.length:=by omega
   have HF:=yh (show (nn ≤ 3000 → (g.nodes.map totN).sum ≤ nn) ∧ Below w1.heap.size w1 wr from ⟨fun h=>by have:=HS.out.1 h;rw [List.take_length] at this;exact this,HS.out.2⟩)
   clear HS
   go_wp2
   clear hcl0
   go_loopw [3,5] (fun m i W=>∃ j2 nn : Nat,j2 ≤ g.rels.length ∧ i = .int .i64 (j2 : Int) ∧ m = .int .i64 (nn : Int) ∧ nn ≤ 4503599627370496 ∧ Hid ((nn ≤ 3000 → (g.nodes.map totN).sum + ((g.rels.take j2).map totR).sum ≤ nn) ∧ Below w1.heap.size w1 W)) (fun _ i _=>g.rels.length - (intOf i).toNat)
   case atStart=>exact ⟨0,nn,Nat.zero_le _,rfl,rfl,by omega,yh ⟨fun h=>by have:=HF.out.1 h;simp only [List.take_zero,List.map_nil,List.sum_nil];omega,HF.out.2⟩⟩
   case round =>
    clear HF
    obtain ⟨j2,nn,hj2,rfl,rfl,hnb2,HS⟩:=hrel
    have z5 : (nn : Int) ≤ 4503599627370496:=by omega
    obtain ⟨hn1,hr1,hg,hlt0⟩:=H.out
    have hcl1:=Kab (o:=1) (Kai HS.out.2 hlt0 hg) rfl
    clear hn1 hr1 hg hlt0
    by_cases hlt2 : j2 < g.rels.length
    ·have hlt3 : j2 + 1 ≤ g.rels.length:=hlt2
     by_cases hle : nn ≤ 3000
     ·have hle1 : (nn : Int) ≤ 3000:=by omega
      obtain ⟨hn1,hr1,hg,hlt0⟩:=H.out
      obtain ⟨b,of,cs,rfl,hs,hc0,hv⟩:=hr1.get hlt2
      have hc : ∀ (k : Nat) (u : Value),cs[k]? = some u → wr.cell? ⟨b,of + j2 * 5 + k,none⟩ = some u:=fun k u hu=>Kak HS.out.2 (ltOf (hc0 k u hu)) (hc0 k u hu)
      have hst:=Ke7 totR hlt2
      have htn : totR g.rels[j2] = 1 + g.rels[j2].type.length + totPs g.rels[j2].props:=rfl
      obtain ⟨pp,cp,ecs,hty,hps⟩:=hv
      generalize totR g.rels[j2] = tn at *
      generalize g.rels[j2].type = ty at *
      generalize g.rels[j2].props = ps at *
      have hc3 : cs[3]? = some (.string (strB ty)):=by rw [ecs];rfl
      have hc4 : cs[4]? = some (.slice pp ps.length cp):=by rw [ecs];rfl
      have hia : ∀ W' : World,(Instr.indexAt 23 (.slice (some ⟨b,of,none⟩) g.rels.length cr) (.int .i64 (j2 : Int))).run Tryz.prog W' = .ok (.pointer (some ⟨b,of + j2 * 5,none⟩)) W':=by intro W';simp [go_sem,hlt2]
      have hf3 : ∀ W' : World,(Instr.fieldAt 72 (.pointer (some ⟨b,of + j2 * 5,none⟩)) 3).run Tryz.prog W' = .ok (.pointer (some ⟨b,of + j2 * 5 + 3,none⟩)) W':=by intro W';simp [go_sem]
      have hf4 : ∀ W' : World,(Instr.fieldAt 72 (.pointer (some ⟨b,of + j2 * 5,none⟩)) 4).run Tryz.prog W' = .ok (.pointer (some ⟨b,of + j2 * 5 + 4,none⟩)) W':=by intro W';simp [go_sem]
      have hg1 : ∀ W' : World,(Instr.fieldAt 25 (.pointer (some ⟨w.heap.size,0,none⟩)) 1).run Tryz.prog W' = .ok (.pointer (some ⟨w.heap.size,1,none⟩)) W':=by intro W';simp [go_sem]
      have hlr : ∀ W,Below w1.heap.size w1 W → (loadVar 23 ⟨w.heap.size,1,none⟩).run Tryz.prog W = .ok (.slice (some ⟨b,of,none⟩) g.rels.length cr) W:=fun W q=>Kei Tryz.underlying23 rfl q hg rfl
      have hcall15 : ∀ W,Below w1.heap.size w1 W → Calls Tryz.prog 36 #[.slice none 0 0,.slice pp ps.length cp] W fun e w'=>∃ r : Nat,e = .returned (.int .i64 (r : Int)) ∧ Szo (1 + totLs [] + totPs ps) r ∧ Below W.heap.size W w':=fun W q=>psz_any (ls:=[]) rds_nil (hps.below (fun h=>h.below q) q)
      have hS0 : (∀ (k : Nat) (u : Value),cs[k]? = some u → wr.drew.cell? ⟨b,of + j2 * 5 + k,none⟩ = some u) ∧ Below w1.heap.size w1 wr.drew:=⟨fun k u hu=>hc k u hu,HS.out.2.drew⟩
      have HX:=yh (And.intro hia (And.intro hf3 (And.intro hf4 (And.intro hg1 (And.intro hlr (And.intro hcall15 (And.intro hS0 (And.intro hc3 (And.intro hc4 (And.intro hst (And.intro htn hty)))))))))))
      clear hia hf3 hf4 hg1 hlr hcall15 hS0 hc3 hc4 hst htn hn1 hr1 hg hlt0 hc hc0 hty hps ecs hs
      go_wp2
      obtain ⟨hia,hf3,hf4,hg1,hlr,hcall15,hS0,hc3,hc4,hst,htn,hty⟩:=HX.out
      refine Kaj (fun W=>(∀ (k : Nat) (u : Value),cs[k]? = some u → W.cell? ⟨b,of + j2 * 5 + k,none⟩ = some u) ∧ Below w1.heap.size w1 W) (by kernel_rfl) hS0 (fun hS=>?_)
      refine tk 0 43 (v:=.int .i64 (nn : Int)) rfl rfl (fun W hW=>Kah rfl rfl) ?_
      simp only [Act.put,sA,sZ,sS]
      refine tk 1 44 (v:=.pointer (some ⟨w.heap.size,1,none⟩)) rfl rfl (fun W hW=>Kad rfl rfl (hg1 W)) ?_
      simp only [Act.put,sA,sZ,sS]
      refine tk 2 45 (v:=.slice (some ⟨b,of,none⟩) g.rels.length cr) rfl rfl (fun W hW=>Kaf rfl rfl (hlr W hW.2)) ?_
      simp only [Act.put,sA,sZ,sS]
      refine tk 3 46 (v:=.int .i64 (j2 : Int)) rfl rfl (fun W hW=>Kah rfl rfl) ?_
      simp only [Act.put,sA,sZ,sS]
      refine tk 4 47 (v:=.pointer (some ⟨b,of + j2 * 5,none⟩)) rfl rfl (fun W hW=>Kao rfl rfl rfl (hia W)) ?_
      simp only [Act.put,sA,sZ,sS]
      refine tk 5 48 (v:=.pointer (some ⟨b,of + j2 * 5 + 3,none⟩)) rfl rfl (fun W hW=>Kad rfl rfl (hf3 W)) ?_
      simp only [Act.put,sA,sZ,sS]
      refine tk 6 49 (v:=.string (strB ty)) rfl rfl (fun W hW=>Kaf rfl rfl (Kag (w:=W) Tryz.underlying9 rfl (hW.1 3 _ hc3))) ?_
      simp only [Act.put,sA,sZ,sS]
      refine tk 7 50 (v:=.int .i64 (ty.length : Int)) rfl rfl (fun W hW=>exec_lenQ rfl rfl) ?_
      simp only [Act.put,sA,sZ,sS]
      refine tk 8 51 (v:=.int .i64 ((nn + ty.length : Nat) : Int)) rfl rfl (fun W hW=>Kar rfl rfl rfl (Kdq (by omega) W)) ?_
      simp only [Act.put,sA,sZ,sS]
      refine tk 9 52 (v:=.pointer (some ⟨w.heap.size,1,none⟩)) rfl rfl (fun W hW=>Kad rfl rfl (hg1 W)) ?_
      simp only [Act.put,sA,sZ,sS]
      refine tk 10 53 (v:=.slice (some ⟨b,of,none⟩) g.rels.length cr) rfl rfl (fun W hW=>Kaf rfl rfl (hlr W hW.2)) ?_
      simp only [Act.put,sA,sZ,sS]
      refine tk 11 54 (v:=.int .i64 (j2 : Int)) rfl rfl (fun W hW=>Kah rfl rfl) ?_
      simp only [Act.put,sA,sZ,sS]
      refine tk 12 55 (v:=.pointer (some ⟨b,of + j2 * 5,none⟩)) rfl rfl (fun W hW=>Kao rfl rfl rfl (hia W)) ?_
      simp only [Act.put,sA,sZ,sS]
      refine tk 13 56 (v:=.pointer (some ⟨b,of + j2 * 5 + 4,none⟩)) rfl rfl (fun W hW=>Kad rfl rfl (hf4 W)) ?_
      simp only [Act.put,sA,sZ,sS]
      refine tk 14 57 (v:=.slice pp ps.length cp) rfl rfl (fun W hW=>Kaf rfl rfl (Kag (w:=W) Tryz.underlying68 rfl (hW.1 4 _ hc4))) ?_
      simp only [Act.put,sA,sZ,sS]
      refine Kau 15 58 rfl rfl (by kernel_rfl) rfl (Kaq [.slice none 0 0,.slice pp ps.length cp] rfl rfl Tryz.func36 (by kernel_rfl) (by kernel_rfl)) ?_
      refine (hcall15 _ hS.2).mono ?_
      rintro e w15 ⟨r,rfl,hr,hb15⟩
      have hS15 : (∀ (k : Nat) (u : Value),cs[k]? = some u → w15.cell? ⟨b,of + j2 * 5 + k,none⟩ = some u) ∧ Below w1.heap.size w1 w15:=⟨fun k u hu=>Kak hb15 (ltOf (hS.1 k u hu)) (hS.1 k u hu),Kaa hS.2 hb15⟩
      have hbr:=hr.2
      refine ⟨_,rfl,.inr hS15,?_⟩
      simp only [Act.put,sA,sZ,sS]
      refine tk 16 59 (v:=.int .i64 ((nn + ty.length + r : Nat) : Int)) rfl rfl (fun W hW=>Kar rfl rfl rfl (Kdq (by omega) W)) ?_
      simp only [Act.put,sA,sZ,sS]
      refine tk 17 3 (v:=.int .i64 ((nn + ty.length + r : Nat) : Int)) rfl rfl (fun W hW=>Kaz rfl rfl) ?_
      simp only [Act.put,sA,sZ,sS]
      refine done (by kernel_rfl) ?_ _
      have hnew : nn + ty.length + r ≤ 4503599627370496:=by omega
      have HN:=yh (show (nn + ty.length + r ≤ 3000 → (g.nodes.map totN).sum + ((g.rels.take (j2 + 1)).map totR).sum ≤ nn + ty.length + r) ∧ Below w1.heap.size w1 w15 from ⟨fun h=>by
       have h1:=HS.out.1 (by omega)
       have h2:=hr.1 (by omega)
       have h3 : totLs [] = 0:=rfl
       rw [hst,htn];omega,hS15.2⟩)
      clear hia hf3 hf4 hg1 hlr hcall15 hS0 hc3 hc4 hst htn hS hS15 hb15 hr hbr HX HS hty
      generalize nn + ty.length + r = nx at *
      go_wp2
      go_roundw
      case rel=>exact ⟨j2 + 1,nx,hlt3,by go_num,rfl,hnew,HN⟩
      case measure=>simp [intOf];omega
     ·have hle1 : ¬ (nn : Int) ≤ 3000:=by omega
      have hle0 : decide ((nn : Int) ≤ 3000) = false:=by simpa using hle1
      have HF2:=yh (Kaa HB0.out HS.out.2)
      clear HS
      go_wp2
      go_ret
      exact ⟨false,rfl,(fun h=>by cases h),HF2.out⟩
    ·obtain rfl : j2 = g.rels.length:=by omega
     have HF2:=yh (And.intro HS.out.1 (Kaa HB0.out HS.out.2))
     clear HS
     by_cases hle : nn ≤ 3000
     ·have hle1 : (nn : Int) ≤ 3000:=by omega
      go_wp2
      go_ret
      refine ⟨true,rfl,fun _=>?_,HF2.out.2⟩
      have:=HF2.out.1 hle
      rw [List.take_length] at this
      rw [HTG.out];omega
     ·have hle1 : ¬ (nn : Int) ≤ 3000:=by omega
      have hle0 : decide ((nn : Int) ≤ 3000) = false:=by simpa using hle1
      go_wp2
      go_ret
      exact ⟨false,rfl,(fun h=>by cases h),HF2.out.2⟩
theorem eql_bytesS2 (a b : List UInt8) (W : World) : (binOp .eql 9 (.string (strB a)) (.string (strB b))).run Tryz.prog W = .ok (.bool (decide (a = b))) W:=by
 have e : (strB a = strB b) ↔ a = b:=strB_inj
 by_cases h : a = b
 ·subst h;simp [go_sem]
 ·rw [decide_eq_false h]
  simp [go_sem,Kb1,h]
theorem all2_of {α β : Type} {f : α → β → Bool} : ∀ {l : List α} {m : List β},l.length = m.length → (∀ i (h1 : i < l.length) (h2 : i < m.length),f l[i] m[i] = true) → all2 f l m = true
 | [],[],_,_=>rfl
 | [],_ :: _,h,_=>by simp at h
 | _ :: _,[],h,_=>by simp at h
 | a :: x,b :: y,h,g=>by
   rw [all2,Bool.and_eq_true]
   exact ⟨g 0 (by simp) (by simp),all2_of (by simpa using h) fun i h1 h2=>g (i + 1) (by simpa using h1) (by simpa using h2)⟩
theorem all2_no {α β : Type} {f : α → β → Bool} : ∀ {l : List α} {m : List β} {j : Nat} (h1 : j < l.length) (h2 : j < m.length),f l[j] m[j] = false → all2 f l m = false
 | [],_,j,h1,_,_=>by simp at h1
 | _ :: _,[],j,_,h2,_=>by simp at h2
 | a :: x,b :: y,0,_,_,h=>by rw [all2,show f a b = false from h];rfl
 | a :: x,b :: y,j + 1,h1,h2,h=>by rw [all2,all2_no (j:=j) (by simpa using h1) (by simpa using h2) h,Bool.and_false]
theorem all2_ne {α β : Type} {f : α → β → Bool} {l : List α} {m : List β} (h : l.length ≠ m.length) : all2 f l m = false:=by
 cases e : all2 f l m with
 | false=>rfl
 | true=>exact absurd (all2_len e) h
theorem eqfP_any {w : World} {p p2 : Option Addr} {c c2 : Nat} {l m} (h : GRd PRd 7 w p c l) (h2 : GRd PRd 7 w p2 c2 m)
 (hone : ∀ j (h1 : j < l.length) (h2 : j < m.length) W x y,Below w.heap.size w W → PRd W l[j] x → PRd W m[j] y → Calls Tryz.prog 156 #[.agg x,.agg y] W fun e w'=>e = .returned (.bool (sameP l[j] m[j])) ∧ Below W.heap.size W w') :
 Calls Tryz.prog 155 #[.slice p l.length c,.slice p2 m.length c2,.func (.func 156) #[] #[]] w fun e w'=>e = .returned (.bool (all2 sameP l m)) ∧ Below w.heap.size w w':=by
 have z1 : (l.length : Int) ≤ 140737488355328:=by have:=h.1.2.1;omega
 have z2 : (m.length : Int) ≤ 140737488355328:=by have:=h2.1.2.1;omega
 have H:=yh h
 have H2:=yh h2
 have HO:=yh hone
 clear h h2 hone
 by_cases hlen : l.length = m.length
 ·rw [hlen]
  rw [hlen] at z1
  have HLEN:=yh hlen
  clear hlen
  go_enter Tryz.func155,Tryz.ntmps155
  go_wp2
  go_loopw [17] (fun i W=>∃ j : Nat,j ≤ m.length ∧ i = .int .i64 (j : Int) ∧ Hid ((∀ i (h1 : i < l.length) (h2 : i < m.length),i < j → sameP l[i] m[i] = true) ∧ Below w.heap.size w W)) (fun i _=>m.length - (intOf i).toNat)
  case atStart=>exact ⟨0,Nat.zero_le _,rfl,yh ⟨fun i _ _ h=>by omega,Below.refl _ _⟩⟩
  case round =>
   obtain ⟨j,hj,rfl,HI⟩:=hrel
   by_cases hlt : j < m.length
   ·have hlt1 : j + 1 ≤ m.length:=hlt
    have hltl : j < l.length:=by rw [HLEN.out];exact hlt
    obtain ⟨b,of,cs,rfl,hs,hc,hv⟩:=H.out.get hltl
    obtain ⟨b2,of2,ds,rfl,hs2,hc2,hv2⟩:=H2.out.get hlt
    have hb:=Kac (w:=wr) (.cells cs 136)
    have hb2:=Kac (w:=wr.alloc (.cells cs 136)) (.cells ds 136)
    have hbb : Below w.heap.size w (wr.alloc (.cells cs 136)):=Kaa HI.out.2 hb
    have hbc : Below w.heap.size w ((wr.alloc (.cells cs 136)).alloc (.cells ds 136)):=Kaa hbb hb2
    have hx8:=Kai hb2 (by simp) (heap_alloc_new wr (.cells cs 136))
    have hx9:=heap_alloc_new (wr.alloc (.cells cs 136)) (.cells ds 136)
    have HL1:=yh (StT.load Kco hs (fun i u hu=>Kak HI.out.2 (ltOf (hc i u hu)) (hc i u hu)) (W:=wr))
    have HS1:=yh (StT.fresh Kco hs (Kfa.ones hv) (W:=wr))
    have HL2:=yh (StT.load Kco hs2 (fun i u hu=>Kak hbb (ltOf (hc2 i u hu)) (hc2 i u hu)) (W:=wr.alloc (.cells cs 136)))
    have hs22:=StT.fresh Kco hs2 (Kfa.ones hv2) (W:=wr.alloc (.cells cs 136))
    have hl3:=StT.get Kco hs hx8
    have hl4:=StT.get Kco hs2 hx9
    have hcall:=HO.out j hltl hlt _ _ _ hbc (hv.below hbc) (hv2.below hbc)
    simp only [World.size_alloc] at hs22 hl3 hl4
    have hno:=all2_no (f:=sameP) hltl hlt
    have hye : sameP l[j] m[j] = true → ∀ i (h1 : i < l.length) (h2 : i < m.length),i < j + 1 → sameP l[i] m[i] = true:=fun he i h1 h2 h3=>by
     rcases Nat.lt_or_ge i j with h4 | h4
     ·exact HI.out.1 i h1 h2 h4
     ·have : i = j:=by omega
      subst this;exact he
    generalize sameP l[j] m[j] = r at *
    have HS2:=yh hs22
    have HL3:=yh hl3
    have HL4:=yh hl4
    have HC:=yh hcall
    have HX:=yh (And.intro hno (And.intro hye hbc))
    clear hb hb2 hbb hbc hx8 hx9 hs22 hl3 hl4 hcall hno hye hs hc hv hs2 hc2 hv2
    cases r
    all_goals
     go_wp2_with (first
      | ((with_reducible apply Kal);exact HL1.out;exact rfl;clear HL1)
      | ((with_reducible apply Kae);exact HS1.out _ rfl;exact rfl;exact rfl;clear HS1)
      | ((with_reducible apply Kal);exact HL2.out;exact rfl;clear HL2)
      | ((with_reducible apply Kae);exact HS2.out _ rfl;exact rfl;exact rfl;clear HS2)
      | ((with_reducible apply Kal);exact HL3.out;exact rfl;clear HL3)
      | ((with_reducible apply Kal);exact HL4.out;exact rfl;clear HL4)
      | (go_at_call 156;refine HC.out.mono ?_;rintro e W2 ⟨rfl,hbw⟩;have HF:=yh (Kaa HX.out.2.2 hbw);clear hbw HC))
    ·go_ret
     exact ⟨by rw [HX.out.1 (by simp)];rfl,HF.out⟩
    ·go_roundw
     case rel=>exact ⟨j + 1,hlt1,by go_num,yh ⟨HX.out.2.1 (by simp),HF.out⟩⟩
     case measure=>simp [intOf];omega
   ·obtain rfl : j = m.length:=by omega
    have HF:=yh (And.intro (all2_of (f:=sameP) HLEN.out fun i h1 h2=>HI.out.1 i h1 h2 h2) HI.out.2)
    clear HI
    go_wp2
    go_ret
    exact ⟨by rw [HF.out.1];rfl,HF.out.2⟩
 ·have hli : ¬ (l.length : Int) = (m.length : Int):=by omega
  have hlb : ((l.length : Int) != (m.length : Int)) = true:=by rw [bne_iff_ne];exact hli
  clear hli
  go_enter Tryz.func155,Tryz.ntmps155
  go_wp2
  go_ret
  exact ⟨by rw [all2_ne hlen];rfl,Below.refl _ _⟩
theorem sameP_any {w : World} (hE : Env w) {a b : PropD} {x y : Array Value} (ha : PRd w a x) (hb : PRd w b y) (ht : totP a ≤ 1000000) (ht2 : totP b ≤ 1000000) : Calls Tryz.prog 156 #[.agg x,.agg y] w fun e w'=>e = .returned (.bool (sameP a b)) ∧ Below w.heap.size w w':=by
 have hxs:=Kfa.size ha
 have hys:=Kfa.size hb
 have hb1:=Kac (w:=w) (.cells x 136)
 have hb2:=Kac (w:=w.alloc (.cells x 136)) (.cells y 136)
 have hbc : Below w.heap.size w ((w.alloc (.cells x 136)).alloc (.cells y 136)):=Kaa hb1 hb2
 have hx8:=Kai hb2 (by simp) (heap_alloc_new w (.cells x 136))
 have hx9:=heap_alloc_new (w.alloc (.cells x 136)) (.cells y 136)
 obtain ⟨xv,ex,hkx,hvx⟩:=ha
 obtain ⟨yv,ey,hky,hvy⟩:=hb
 have k0 : x[0]? = some (.string (strB a.key)):=by rw [ex,Array.getElem?_append_left (by simp)];rfl
 have l0 : y[0]? = some (.string (strB b.key)):=by rw [ey,Array.getElem?_append_left (by simp)];rfl
 have k1 : ∀ (i : Nat) (u : Value),xv[i]? = some u → x[1 + i]? = some u:=fun i u hu=>by rw [ex,Array.getElem?_append_right (by simp)];simpa using hu
 have l1 : ∀ (i : Nat) (u : Value),yv[i]? = some u → y[1 + i]? = some u:=fun i u hu=>by rw [ey,Array.getElem?_append_right (by simp)];simpa using hu
 have p0:=Kab (o:=0) hx8 k0
 have q0:=Kab (o:=0) hx9 l0
 have hlx:=StT.load (P:=Tryz.prog) (g:=w.heap.size) (o:=1) Kbp (Kec.size hvx) fun i u hu=>Kab (o:=1 + i) hx8 (k1 i u hu)
 have hly:=StT.load (P:=Tryz.prog) (g:=(w.alloc (.cells x 136)).heap.size) (o:=1) Kbp (Kec.size hvy) fun i u hu=>Kab (o:=1 + i) hx9 (l1 i u hu)
 unfold totP at ht ht2
 have hcall:=same_any (hE.b hbc) (hvx.below hbc) (hvy.below hbc) (by omega)
 simp only [World.size_alloc] at q0 hly
 have hes:=eql_bytesS2 a.key b.key
 have hsp : sameP a b = (decide (a.key = b.key) && (okV a.val && okV b.val && decide (cmpV a.val b.val = 0))):=rfl
 rw [hsp]
 have HLX:=yh hlx
 have HLY:=yh hly
 have HC:=yh hcall
 have HB:=yh hbc
 clear hsp ht ht2 hE hb1 hb2 hbc hx8 hx9 hlx hly hcall ex ey hvx hvy hkx hky k0 k1 l0 l1 hxs hys
 generalize strB a.key = s1 at *
 generalize strB b.key = s2 at *
 generalize (okV a.val && okV b.val && decide (cmpV a.val b.val = 0)) = r at *
 cases hk : decide (a.key = b.key)
 all_goals
  rw [hk] at hes
  go_enter Tryz.func156,Tryz.ntmps156
  go_wp2_with (first
   | (refine Kbf rfl (exec_bins rfl rfl rfl (hes _)) ?_)
   | ((with_reducible apply Kdh);exact HLX.out;exact rfl;exact rfl)
   | ((with_reducible apply Kdh);exact HLY.out;exact rfl;exact rfl)
   | (go_at_call 157;refine HC.out.mono ?_;rintro e W2 ⟨rfl,hbw⟩;have HF:=yh (Kaa HB.out hbw);clear hbw HC))
  go_ret
  first
   | exact ⟨by simp,HF.out⟩
   | exact ⟨by simp,HB.out⟩
theorem sameProps_any {w : World} (hE : Env w) {p p2 : Option Addr} {c c2 : Nat} {l m : List PropD} (h : GRd PRd 7 w p c l) (h2 : GRd PRd 7 w p2 c2 m) (ht : totPs l ≤ 1000000) (ht2 : totPs m ≤ 1000000) : Calls Tryz.prog 131 #[.slice p l.length c,.slice p2 m.length c2] w fun e w'=>e = .returned (.bool (all2 sameP l m)) ∧ Below w.heap.size w w':=by
 have HC:=yh (eqfP_any h h2 (fun j h1 h3 W x y hB hx hy=>sameP_any (hE.b hB) hx hy (Nat.le_trans (Kbb totP (List.getElem_mem h1)) ht) (Nat.le_trans (Kbb totP (List.getElem_mem h3)) ht2)))
 clear hE h h2 ht ht2
 generalize all2 sameP l m = r at *
 go_enter Tryz.func131,Tryz.ntmps131
 go_wp2_with (go_at_call 155;refine HC.out.mono ?_;rintro e W2 ⟨rfl,hbw⟩;have HF:=yh hbw;clear hbw HC)
 go_ret
 exact ⟨rfl,HF.out⟩
theorem sameN_any {w : World} (hE : Env w) {a b : NodeD} {x y : Array Value} (ha : NRd w a x) (hb : NRd w b y) (ht : totN a ≤ 1000000) (ht2 : totN b ≤ 1000000) : Calls Tryz.prog 85 #[.agg x,.agg y] w fun e w'=>e = .returned (.bool (sameN a b)) ∧ Below w.heap.size w w':=by
 obtain ⟨pl,cl,pp,cp,rfl,hl,hp⟩:=ha
 obtain ⟨ql,dl,qp,dp,rfl,hl2,hp2⟩:=hb
 have hb1:=Kac (w:=w) (.cells #[.int .i64 a.id,.slice pl a.labels.length cl,.slice pp a.props.length cp] 70)
 have hb2:=Kac (w:=w.alloc (.cells #[.int .i64 a.id,.slice pl a.labels.length cl,.slice pp a.props.length cp] 70)) (.cells #[.int .i64 b.id,.slice ql b.labels.length dl,.slice qp b.props.length dp] 70)
 have hbc : Below w.heap.size w ((w.alloc (.cells #[.int .i64 a.id,.slice pl a.labels.length cl,.slice pp a.props.length cp] 70)).alloc (.cells #[.int .i64 b.id,.slice ql b.labels.length dl,.slice qp b.props.length dp] 70)):=Kaa hb1 hb2
 have hx8:=Kai hb2 (by simp) (heap_alloc_new w (.cells #[.int .i64 a.id,.slice pl a.labels.length cl,.slice pp a.props.length cp] 70))
 have hx9:=heap_alloc_new (w.alloc (.cells #[.int .i64 a.id,.slice pl a.labels.length cl,.slice pp a.props.length cp] 70)) (.cells #[.int .i64 b.id,.slice ql b.labels.length dl,.slice qp b.props.length dp] 70)
 unfold totN at ht ht2
 have hke:=fun W (g : Below w.heap.size w W)=>eqkeys_any (hl.below g) (hl2.below g)
 have hpe:=fun W (g : Below w.heap.size w W)=>sameProps_any (hE.b g) (hp.below (fun h=>h.below g) g) (hp2.below (fun h=>h.below g) g) (by omega) (by omega)
 have hsp : sameN a b = (decide (a.id = b.id) && decide (a.labels = b.labels) && all2 sameP a.props b.props):=rfl
 rw [hsp]
 have HKE:=yh hke
 have HPE:=yh hpe
 have hxx:=fun W (g : Below ((w.alloc (.cells #[.int .i64 a.id,.slice pl a.labels.length cl,.slice pp a.props.length cp] 70)).alloc (.cells #[.int .i64 b.id,.slice ql b.labels.length dl,.slice qp b.props.length dp] 70)).heap.size ((w.alloc (.cells #[.int .i64 a.id,.slice pl a.labels.length cl,.slice pp a.props.length cp] 70)).alloc (.cells #[.int .i64 b.id,.slice ql b.labels.length dl,.slice qp b.props.length dp] 70)) W)=>And.intro (Kai g (by simp;omega) hx8) (show W.heap[w.heap.size + 1]? = some (.cells #[.int .i64 b.id,.slice ql b.labels.length dl,.slice qp b.props.length dp] 70 (0,0)) from by have h:=Kai g (by simp) hx9;simp only [World.size_alloc] at h;exact h)
 have p0:=Kab (o:=0) hx8 rfl
 have q0:=Kab (o:=0) hx9 rfl
 have p1:=Kab (o:=1) hx8 rfl
 have q1:=Kab (o:=1) hx9 rfl
 have p2:=Kab (o:=2) hx8 rfl
 have q2:=Kab (o:=2) hx9 rfl
 simp only [World.size_alloc] at q0 q1 q2
 have HX:=yh hxx
 have HB:=yh hbc
 clear hsp ht ht2 hE hb1 hb2 hbc hx8 hx9 hke hpe hxx hl hl2 hp hp2
 generalize decide (a.labels = b.labels) = r1 at *
 generalize all2 sameP a.props b.props = r2 at *
 cases hk : decide (a.id = b.id) <;> cases r1
 all_goals
  have hki : ((a.id == b.id) : Bool) = decide (a.id = b.id):=rfl
  rw [hk] at hki
  go_enter Tryz.func85,Tryz.ntmps85
  go_wp2_with (first
   | (go_at_call 130;refine (HKE.out _ HB.out).mono ?_;rintro e W2 ⟨rfl,hbw⟩;have HF1:=yh (And.intro hbw (Kaa HB.out hbw));have p21:=Kab (o:=2) (HX.out _ hbw).1 rfl;have q21:=Kab (o:=2) (HX.out _ hbw).2 rfl;clear hbw HKE)
   | (go_at_call 131;refine (HPE.out _ HF1.out.2).mono ?_;rintro e W3 ⟨rfl,hbw⟩;have HF:=yh (Kaa HF1.out.2 hbw);clear hbw HPE))
  go_ret
  first
   | exact ⟨by simp,HF.out⟩
   | exact ⟨by simp,HF1.out.2⟩
   | exact ⟨by simp,HB.out⟩
theorem sameR_any {w : World} (hE : Env w) {a b : RelD} {x y : Array Value} (ha : RRd w a x) (hb : RRd w b y) (ht : totR a ≤ 1000000) (ht2 : totR b ≤ 1000000) : Calls Tryz.prog 87 #[.agg x,.agg y] w fun e w'=>e = .returned (.bool (sameR a b)) ∧ Below w.heap.size w w':=by
 obtain ⟨pp,cp,rfl,hty,hp⟩:=ha
 obtain ⟨qp,dp,rfl,hty2,hp2⟩:=hb
 have hb1:=Kac (w:=w) (.cells #[.int .i64 a.id,.int .i64 a.src,.int .i64 a.dst,.string (strB a.type),.slice pp a.props.length cp] 72)
 have hb2:=Kac (w:=w.alloc (.cells #[.int .i64 a.id,.int .i64 a.src,.int .i64 a.dst,.string (strB a.type),.slice pp a.props.length cp] 72)) (.cells #[.int .i64 b.id,.int .i64 b.src,.int .i64 b.dst,.string (strB b.type),.slice qp b.props.length dp] 72)
 have hbc : Below w.heap.size w ((w.alloc (.cells #[.int .i64 a.id,.int .i64 a.src,.int .i64 a.dst,.string (strB a.type),.slice pp a.props.length cp] 72)).alloc (.cells #[.int .i64 b.id,.int .i64 b.src,.int .i64 b.dst,.string (strB b.type),.slice qp b.props.length dp] 72)):=Kaa hb1 hb2
 have hx8:=Kai hb2 (by simp) (heap_alloc_new w (.cells #[.int .i64 a.id,.int .i64 a.src,.int .i64 a.dst,.string (strB a.type),.slice pp a.props.length cp] 72))
 have hx9:=heap_alloc_new (w.alloc (.cells #[.int .i64 a.id,.int .i64 a.src,.int .i64 a.dst,.string (strB a.type),.slice pp a.props.length cp] 72)) (.cells #[.int .i64 b.id,.int .i64 b.src,.int .i64 b.dst,.string (strB b.type),.slice qp b.props.length dp] 72)
 unfold totR at ht ht2
 have hpe:=sameProps_any (hE.b hbc) (hp.below (fun h=>h.below hbc) hbc) (hp2.below (fun h=>h.below hbc) hbc) (by omega) (by omega)
 have hes : ((strB a.type).toList == (strB b.type).toList) = decide (a.type = b.type):=by rw [Kb1,Kb1,Bool.eq_iff_iff];simp
 have hsp : sameR a b = (decide (a.id = b.id) && decide (a.src = b.src) && decide (a.dst = b.dst) && decide (a.type = b.type) && all2 sameP a.props b.props):=rfl
 rw [hsp]
 have HPE:=yh hpe
 have p0:=Kab (o:=0) hx8 rfl
 have q0:=Kab (o:=0) hx9 rfl
 have p1:=Kab (o:=1) hx8 rfl
 have q1:=Kab (o:=1) hx9 rfl
 have p2:=Kab (o:=2) hx8 rfl
 have q2:=Kab (o:=2) hx9 rfl
 have p3:=Kab (o:=3) hx8 rfl
 have q3:=Kab (o:=3) hx9 rfl
 have p4:=Kab (o:=4) hx8 rfl
 have q4:=Kab (o:=4) hx9 rfl
 simp only [World.size_alloc] at q0 q1 q2 q3 q4
 have HB:=yh hbc
 clear hsp ht ht2 hE hb1 hb2 hbc hx8 hx9 hpe hp hp2 hty hty2
 generalize all2 sameP a.props b.props = r2 at *
 generalize strB a.type = s1 at *
 generalize strB b.type = s2 at *
 cases hk : decide (a.id = b.id) <;> cases hk1 : decide (a.src = b.src) <;> cases hk2 : decide (a.dst = b.dst) <;> cases hk3 : decide (a.type = b.type)
 all_goals
  have hki : ((a.id == b.id) : Bool) = decide (a.id = b.id):=rfl
  have hki1 : ((a.src == b.src) : Bool) = decide (a.src = b.src):=rfl
  have hki2 : ((a.dst == b.dst) : Bool) = decide (a.dst = b.dst):=rfl
  rw [hk] at hki
  rw [hk1] at hki1
  rw [hk2] at hki2
  rw [hk3] at hes
  go_enter Tryz.func87,Tryz.ntmps87
  go_wp2_with (first
   | (go_at_call 131;refine HPE.out.mono ?_;rintro e W3 ⟨rfl,hbw⟩;have HF:=yh (Kaa HB.out hbw);clear hbw HPE))
  go_ret
  first
   | exact ⟨by simp,HF.out⟩
   | exact ⟨by simp,HB.out⟩
theorem eqfN_any {w : World} {p p2 : Option Addr} {c c2 : Nat} {l m} (h : GRd NRd 3 w p c l) (h2 : GRd NRd 3 w p2 c2 m)
 (hone : ∀ j (h1 : j < l.length) (h2 : j < m.length) W x y,Below w.heap.size w W → NRd W l[j] x → NRd W m[j] y → Calls Tryz.prog 85 #[.agg x,.agg y] W fun e w'=>e = .returned (.bool (sameN l[j] m[j])) ∧ Below W.heap.size W w') :
 Calls Tryz.prog 84 #[.slice p l.length c,.slice p2 m.length c2,.func (.func 85) #[] #[]] w fun e w'=>e = .returned (.bool (all2 sameN l m)) ∧ Below w.heap.size w w':=by
 have z1 : (l.length : Int) ≤ 140737488355328:=by have:=h.1.2.1;omega
 have z2 : (m.length : Int) ≤ 140737488355328:=by have:=h2.1.2.1;omega
 have H:=yh h
 have H2:=yh h2
 have HO:=yh hone
 clear h h2 hone
 by_cases hlen : l.length = m.length
 ·rw [hlen]
  rw [hlen] at z1
  have HLEN:=yh hlen
  clear hlen
  go_enter Tryz.func84,Tryz.ntmps84
  go_wp2
  go_loopw [17] (fun i W=>∃ j : Nat,j ≤ m.length ∧ i = .int .i64 (j : Int) ∧ Hid ((∀ i (h1 : i < l.length) (h2 : i < m.length),i < j → sameN l[i] m[i] = true) ∧ Below w.heap.size w W)) (fun i _=>m.length - (intOf i).toNat)
  case atStart=>exact ⟨0,Nat.zero_le _,rfl,yh ⟨fun i _ _ h=>by omega,Below.refl _ _⟩⟩
  case round =>
   obtain ⟨j,hj,rfl,HI⟩:=hrel
   by_cases hlt : j < m.length
   ·have hlt1 : j + 1 ≤ m.length:=hlt
    have hltl : j < l.length:=by rw [HLEN.out];exact hlt
    obtain ⟨b,of,cs,rfl,hs,hc,hv⟩:=H.out.get hltl
    obtain ⟨b2,of2,ds,rfl,hs2,hc2,hv2⟩:=H2.out.get hlt
    have hb:=Kac (w:=wr) (.cells cs 70)
    have hb2:=Kac (w:=wr.alloc (.cells cs 70)) (.cells ds 70)
    have hbb : Below w.heap.size w (wr.alloc (.cells cs 70)):=Kaa HI.out.2 hb
    have hbc : Below w.heap.size w ((wr.alloc (.cells cs 70)).alloc (.cells ds 70)):=Kaa hbb hb2
    have hx8:=Kai hb2 (by simp) (heap_alloc_new wr (.cells cs 70))
    have hx9:=heap_alloc_new (wr.alloc (.cells cs 70)) (.cells ds 70)
    have HL1:=yh (StT.load Kbo hs (fun i u hu=>Kak HI.out.2 (ltOf (hc i u hu)) (hc i u hu)) (W:=wr))
    have HS1:=yh (StT.fresh Kbo hs (Kek.ones hv) (W:=wr))
    have HL2:=yh (StT.load Kbo hs2 (fun i u hu=>Kak hbb (ltOf (hc2 i u hu)) (hc2 i u hu)) (W:=wr.alloc (.cells cs 70)))
    have hs22:=StT.fresh Kbo hs2 (Kek.ones hv2) (W:=wr.alloc (.cells cs 70))
    have hl3:=StT.get Kbo hs hx8
    have hl4:=StT.get Kbo hs2 hx9
    have hcall:=HO.out j hltl hlt _ _ _ hbc (hv.below hbc) (hv2.below hbc)
    simp only [World.size_alloc] at hs22 hl3 hl4
    have hno:=all2_no (f:=sameN) hltl hlt
    have hye : sameN l[j] m[j] = true → ∀ i (h1 : i < l.length) (h2 : i < m.length),i < j + 1 → sameN l[i] m[i] = true:=fun he i h1 h2 h3=>by
     rcases Nat.lt_or_ge i j with h4 | h4
     ·exact HI.out.1 i h1 h2 h4
     ·have : i = j:=by omega
      subst this;exact he
    generalize sameN l[j] m[j] = r at *
    have HS2:=yh hs22
    have HL3:=yh hl3
    have HL4:=yh hl4
    have HC:=yh hcall
    have HX:=yh (And.intro hno (And.intro hye hbc))
    clear hb hb2 hbb hbc hx8 hx9 hs22 hl3 hl4 hcall hno hye hs hc hv hs2 hc2 hv2
    cases r
    all_goals
     go_wp2_with (first
      | ((with_reducible apply Kal);exact HL1.out;exact rfl;clear HL1)
      | ((with_reducible apply Kae);exact HS1.out _ rfl;exact rfl;exact rfl;clear HS1)
      | ((with_reducible apply Kal);exact HL2.out;exact rfl;clear HL2)
      | ((with_reducible apply Kae);exact HS2.out _ rfl;exact rfl;exact rfl;clear HS2)
      | ((with_reducible apply Kal);exact HL3.out;exact rfl;clear HL3)
      | ((with_reducible apply Kal);exact HL4.out;exact rfl;clear HL4)
      | (go_at_call 85;refine HC.out.mono ?_;rintro e W2 ⟨rfl,hbw⟩;have HF:=yh (Kaa HX.out.2.2 hbw);clear hbw HC))
    ·go_ret
     exact ⟨by rw [HX.out.1 (by simp)];rfl,HF.out⟩
    ·go_roundw
     case rel=>exact ⟨j + 1,hlt1,by go_num,yh ⟨HX.out.2.1 (by simp),HF.out⟩⟩
     case measure=>simp [intOf];omega
   ·obtain rfl : j = m.length:=by omega
    have HF:=yh (And.intro (all2_of (f:=sameN) HLEN.out fun i h1 h2=>HI.out.1 i h1 h2 h2) HI.out.2)
    clear HI
    go_wp2
    go_ret
    exact ⟨by rw [HF.out.1];rfl,HF.out.2⟩
 ·have hli : ¬ (l.length : Int) = (m.length : Int):=by omega
  have hlb : ((l.length : Int) != (m.length : Int)) = true:=by rw [bne_iff_ne];exact hli
  clear hli
  go_enter Tryz.func84,Tryz.ntmps84
  go_wp2
  go_ret
  exact ⟨by rw [all2_ne hlen];rfl,Below.refl _ _⟩
theorem eqfR_any {w : World} {p p2 : Option Addr} {c c2 : Nat} {l m} (h : GRd RRd 5 w p c l) (h2 : GRd RRd 5 w p2 c2 m)
 (hone : ∀ j (h1 : j < l.length) (h2 : j < m.length) W x y,Below w.heap.size w W → RRd W l[j] x → RRd W m[j] y → Calls Tryz.prog 87 #[.agg x,.agg y] W fun e w'=>e = .returned (.bool (sameR l[j] m[j])) ∧ Below W.heap.size W w') :
 Calls Tryz.prog 86 #[.slice p l.length c,.slice p2 m.length c2,.func (.func 87) #[] #[]] w fun e w'=>e = .returned (.bool (all2 sameR l m)) ∧ Below w.heap.size w w':=by
 have z1 : (l.length : Int) ≤ 140737488355328:=by have:=h.1.2.1;omega
 have z2 : (m.length : Int) ≤ 140737488355328:=by have:=h2.1.2.1;omega
 have H:=yh h
 have H2:=yh h2
 have HO:=yh hone
 clear h h2 hone
 by_cases hlen : l.length = m.length
 ·rw [hlen]
  rw [hlen] at z1
  have HLEN:=yh hlen
  clear hlen
  go_enter Tryz.func86,Tryz.ntmps86
  go_wp2
  go_loopw [17] (fun i W=>∃ j : Nat,j ≤ m.length ∧ i = .int .i64 (j : Int) ∧ Hid ((∀ i (h1 : i < l.length) (h2 : i < m.length),i < j → sameR l[i] m[i] = true) ∧ Below w.heap.size w W)) (fun i _=>m.length - (intOf i).toNat)
  case atStart=>exact ⟨0,Nat.zero_le _,rfl,yh ⟨fun i _ _ h=>by omega,Below.refl _ _⟩⟩
  case round =>
   obtain ⟨j,hj,rfl,HI⟩:=hrel
   by_cases hlt : j < m.length
   ·have hlt1 : j + 1 ≤ m.length:=hlt
    have hltl : j < l.length:=by rw [HLEN.out];exact hlt
    obtain ⟨b,of,cs,rfl,hs,hc,hv⟩:=H.out.get hltl
    obtain ⟨b2,of2,ds,rfl,hs2,hc2,hv2⟩:=H2.out.get hlt
    have hb:=Kac (w:=wr) (.cells cs 72)
    have hb2:=Kac (w:=wr.alloc (.cells cs 72)) (.cells ds 72)
    have hbb : Below w.heap.size w (wr.alloc (.cells cs 72)):=Kaa HI.out.2 hb
    have hbc : Below w.heap.size w ((wr.alloc (.cells cs 72)).alloc (.cells ds 72)):=Kaa hbb hb2
    have hx8:=Kai hb2 (by simp) (heap_alloc_new wr (.cells cs 72))
    have hx9:=heap_alloc_new (wr.alloc (.cells cs 72)) (.cells ds 72)
    have HL1:=yh (StT.load Kcf hs (fun i u hu=>Kak HI.out.2 (ltOf (hc i u hu)) (hc i u hu)) (W:=wr))
    have HS1:=yh (StT.fresh Kcf hs (ef_rel.ones hv) (W:=wr))
    have HL2:=yh (StT.load Kcf hs2 (fun i u hu=>Kak hbb (ltOf (hc2 i u hu)) (hc2 i u hu)) (W:=wr.alloc (.cells cs 72)))
    have hs22:=StT.fresh Kcf hs2 (ef_rel.ones hv2) (W:=wr.alloc (.cells cs 72))
    have hl3:=StT.get Kcf hs hx8
    have hl4:=StT.get Kcf hs2 hx9
    have hcall:=HO.out j hltl hlt _ _ _ hbc (hv.below hbc) (hv2.below hbc)
    simp only [World.size_alloc] at hs22 hl3 hl4
    have hno:=all2_no (f:=sameR) hltl hlt
    have hye : sameR l[j] m[j] = true → ∀ i (h1 : i < l.length) (h2 : i < m.length),i < j + 1 → sameR l[i] m[i] = true:=fun he i h1 h2 h3=>by
     rcases Nat.lt_or_ge i j with h4 | h4
     ·exact HI.out.1 i h1 h2 h4
     ·have : i = j:=by omega
      subst this;exact he
    generalize sameR l[j] m[j] = r at *
    have HS2:=yh hs22
    have HL3:=yh hl3
    have HL4:=yh hl4
    have HC:=yh hcall
    have HX:=yh (And.intro hno (And.intro hye hbc))
    clear hb hb2 hbb hbc hx8 hx9 hs22 hl3 hl4 hcall hno hye hs hc hv hs2 hc2 hv2
    cases r
    all_goals
     go_wp2_with (first
      | ((with_reducible apply Kal);exact HL1.out;exact rfl;clear HL1)
      | ((with_reducible apply Kae);exact HS1.out _ rfl;exact rfl;exact rfl;clear HS1)
      | ((with_reducible apply Kal);exact HL2.out;exact rfl;clear HL2)
      | ((with_reducible apply Kae);exact HS2.out _ rfl;exact rfl;exact rfl;clear HS2)
      | ((with_reducible apply Kal);exact HL3.out;exact rfl;clear HL3)
      | ((with_reducible apply Kal);exact HL4.out;exact rfl;clear HL4)
      | (go_at_call 87;refine HC.out.mono ?_;rintro e W2 ⟨rfl,hbw⟩;have HF:=yh (Kaa HX.out.2.2 hbw);clear hbw HC))
    ·go_ret
     exact ⟨by rw [HX.out.1 (by simp)];rfl,HF.out⟩
    ·go_roundw
     case rel=>exact ⟨j + 1,hlt1,by go_num,yh ⟨HX.out.2.1 (by simp),HF.out⟩⟩
     case measure=>simp [intOf];omega
   ·obtain rfl : j = m.length:=by omega
    have HF:=yh (And.intro (all2_of (f:=sameR) HLEN.out fun i h1 h2=>HI.out.1 i h1 h2 h2) HI.out.2)
    clear HI
    go_wp2
    go_ret
    exact ⟨by rw [HF.out.1];rfl,HF.out.2⟩
 ·have hli : ¬ (l.length : Int) = (m.length : Int):=by omega
  have hlb : ((l.length : Int) != (m.length : Int)) = true:=by rw [bne_iff_ne];exact hli
  clear hli
  go_enter Tryz.func86,Tryz.ntmps86
  go_wp2
  go_ret
  exact ⟨by rw [all2_ne hlen];rfl,Below.refl _ _⟩
theorem sameG_any {w : World} (hE : Env w) {a b : GraphD} {x y : Array Value} (ha : GrRd w a x) (hb : GrRd w b y) (ht : totG a ≤ 1000000) (ht2 : totG b ≤ 1000000) : Calls Tryz.prog 33 #[.agg x,.agg y] w fun e w'=>e = .returned (.bool (sameG a b)) ∧ Below w.heap.size w w':=by
 obtain ⟨pn,cn,pr,cr,rfl,hn,hr⟩:=ha
 obtain ⟨qn,dn,qr,dr,rfl,hn2,hr2⟩:=hb
 have hb1:=Kac (w:=w) (.cells #[.slice pn a.nodes.length cn,.slice pr a.rels.length cr,.int .i64 a.nextNode,.int .i64 a.nextRel] 25)
 have hb2:=Kac (w:=w.alloc (.cells #[.slice pn a.nodes.length cn,.slice pr a.rels.length cr,.int .i64 a.nextNode,.int .i64 a.nextRel] 25)) (.cells #[.slice qn b.nodes.length dn,.slice qr b.rels.length dr,.int .i64 b.nextNode,.int .i64 b.nextRel] 25)
 have hbc : Below w.heap.size w ((w.alloc (.cells #[.slice pn a.nodes.length cn,.slice pr a.rels.length cr,.int .i64 a.nextNode,.int .i64 a.nextRel] 25)).alloc (.cells #[.slice qn b.nodes.length dn,.slice qr b.rels.length dr,.int .i64 b.nextNode,.int .i64 b.nextRel] 25)):=Kaa hb1 hb2
 have hx8:=Kai hb2 (by simp) (heap_alloc_new w (.cells #[.slice pn a.nodes.length cn,.slice pr a.rels.length cr,.int .i64 a.nextNode,.int .i64 a.nextRel] 25))
 have hx9:=heap_alloc_new (w.alloc (.cells #[.slice pn a.nodes.length cn,.slice pr a.rels.length cr,.int .i64 a.nextNode,.int .i64 a.nextRel] 25)) (.cells #[.slice qn b.nodes.length dn,.slice qr b.rels.length dr,.int .i64 b.nextNode,.int .i64 b.nextRel] 25)
 unfold totG at ht ht2
 have hne:=fun W (g : Below w.heap.size w W)=>eqfN_any (hn.below (fun h=>h.below g) g) (hn2.below (fun h=>h.below g) g) (fun j h1 h3 W2 x y hB hx hy=>sameN_any (hE.b (Kaa g hB)) hx hy (Nat.le_trans (Kbb totN (List.getElem_mem h1)) (by omega)) (Nat.le_trans (Kbb totN (List.getElem_mem h3)) (by omega)))
 have hre:=fun W (g : Below w.heap.size w W)=>eqfR_any (hr.below (fun h=>h.below g) g) (hr2.below (fun h=>h.below g) g) (fun j h1 h3 W2 x y hB hx hy=>sameR_any (hE.b (Kaa g hB)) hx hy (Nat.le_trans (Kbb totR (List.getElem_mem h1)) (by omega)) (Nat.le_trans (Kbb totR (List.getElem_mem h3)) (by omega)))
 have hsp : sameG a b = (decide (a.nextNode = b.nextNode) && decide (a.nextRel = b.nextRel) && all2 sameN a.nodes b.nodes && all2 sameR a.rels b.rels):=rfl
 rw [hsp]
 have HNE:=yh hne
 have HRE:=yh hre
 have hxx:=fun W (g : Below ((w.alloc (.cells #[.slice pn a.nodes.length cn,.slice pr a.rels.length cr,.int .i64 a.nextNode,.int .i64 a.nextRel] 25)).alloc (.cells #[.slice qn b.nodes.length dn,.slice qr b.rels.length dr,.int .i64 b.nextNode,.int .i64 b.nextRel] 25)).heap.size ((w.alloc (.cells #[.slice pn a.nodes.length cn,.slice pr a.rels.length cr,.int .i64 a.nextNode,.int .i64 a.nextRel] 25)).alloc (.cells #[.slice qn b.nodes.length dn,.slice qr b.rels.length dr,.int .i64 b.nextNode,.int .i64 b.nextRel] 25)) W)=>And.intro (Kai g (by simp;omega) hx8) (show W.heap[w.heap.size + 1]? = some (.cells #[.slice qn b.nodes.length dn,.slice qr b.rels.length dr,.int .i64 b.nextNode,.int .i64 b.nextRel] 25 (0,0)) from by have h:=Kai g (by simp) hx9;simp only [World.size_alloc] at h;exact h)
 have p0:=Kab (o:=0) hx8 rfl
 have q0:=Kab (o:=0) hx9 rfl
 have p1:=Kab (o:=1) hx8 rfl
 have q1:=Kab (o:=1) hx9 rfl
 have p2:=Kab (o:=2) hx8 rfl
 have q2:=Kab (o:=2) hx9 rfl
 have p3:=Kab (o:=3) hx8 rfl
 have q3:=Kab (o:=3) hx9 rfl
 simp only [World.size_alloc] at q0 q1 q2 q3
 have HX:=yh hxx
 have HB:=yh hbc
 clear hsp ht ht2 hE hb1 hb2 hbc hx8 hx9 hne hre hxx hn hn2 hr hr2
 generalize all2 sameN a.nodes b.nodes = r1 at *
 generalize all2 sameR a.rels b.rels = r2 at *
 cases hk : decide (a.nextNode = b.nextNode) <;> cases hk1 : decide (a.nextRel = b.nextRel) <;> cases r1
 all_goals
  have hki : ((a.nextNode == b.nextNode) : Bool) = decide (a.nextNode = b.nextNode):=rfl
  have hki1 : ((a.nextRel == b.nextRel) : Bool) = decide (a.nextRel = b.nextRel):=rfl
  rw [hk] at hki
  rw [hk1] at hki1
  go_enter Tryz.func33,Tryz.ntmps33
  go_wp2_with (first
   | (go_at_call 84;refine (HNE.out _ HB.out).mono ?_;rintro e W2 ⟨rfl,hbw⟩;have HF1:=yh (And.intro hbw (Kaa HB.out hbw));have p11:=Kab (o:=1) (HX.out _ hbw).1 rfl;have q11:=Kab (o:=1) (HX.out _ hbw).2 rfl;clear hbw HNE)
   | (go_at_call 86;refine (HRE.out _ HF1.out.2).mono ?_;rintro e W3 ⟨rfl,hbw⟩;have HF:=yh (Kaa HF1.out.2 hbw);clear hbw HRE))
  go_ret
  first
   | exact ⟨by simp,HF.out⟩
   | exact ⟨by simp,HF1.out.2⟩
   | exact ⟨by simp,HB.out⟩
theorem Out.rd {w : World} {b : List UInt8} {err : Int} {e : Ending} {W' : World} (h : Out w b err e W') : ∃ p c,e = .returned (.tuple #[.slice p b.length c,.int .i64 err]) ∧ RdB W' (.slice p b.length c) b ∧ Below w.heap.size w W':=by
 obtain ⟨o,rfl,ho,hb⟩:=h
 obtain ⟨p,c,rfl,hr⟩:=own_rdB ho
 exact ⟨p,c,rfl,hr,hb⟩
theorem readW_dec {α : Type} {d : Dec α} {ok : α → Bool} {b : List UInt8} {x : α} (h : readW d ok b = some x) : d b = some (x,[]) ∧ ok x = true:=by
 unfold readW at h
 split at h
 ·rename_i y hd
  split at h
  ·rename_i hk
   cases h
   exact ⟨hd,hk⟩
  ·cases h
 ·cases h
def Lies (g : Nat) (T : TypeId) (x : Array Value) (W : World) : Prop:=W.heap[g]? = some (.cells x T (0,0))
theorem Lies.below {g : Nat} {T : TypeId} {x : Array Value} {W W' : World} (h : Lies g T x W) (b : Below W.heap.size W W') : Lies g T x W':=Kai b (Array.getElem?_eq_some_iff.1 h).1 h
theorem Lies.get {g : Nat} {x : Array Value} {W : World} (h : Lies g 25 x W) (hs : x.size = 4) : (loadVar 25 ⟨g,0,none⟩).run Tryz.prog W = .ok (.agg x) W:=StT.get Kay hs h
theorem he2 (W : World) : (binOp .eql 3 (.int .i64 2) (.int .i64 0)).run Tryz.prog W = .ok (.bool false) W:=by simp [go_sem]
structure PairU (w : World) (s1 s2 : V) (g1 o1 g2 o2 : Nat) (c0 c1 c2 c3 c4 c5 d0 d1 d2 d3 d4 d5 : Value) (W : World) : Prop where
 b : Below w.heap.size w W
 h0 : W.cell? ⟨g1,o1,none⟩ = some c0
 h1 : W.cell? ⟨g1,o1 + 1,none⟩ = some c1
 h2 : W.cell? ⟨g1,o1 + 2,none⟩ = some c2
 h3 : W.cell? ⟨g1,o1 + 3,none⟩ = some c3
 h4 : W.cell? ⟨g1,o1 + 4,none⟩ = some c4
 h5 : W.cell? ⟨g1,o1 + 5,none⟩ = some c5
 q0 : W.cell? ⟨g2,o2,none⟩ = some d0
 q1 : W.cell? ⟨g2,o2 + 1,none⟩ = some d1
 q2 : W.cell? ⟨g2,o2 + 2,none⟩ = some d2
 q3 : W.cell? ⟨g2,o2 + 3,none⟩ = some d3
 q4 : W.cell? ⟨g2,o2 + 4,none⟩ = some d4
 q5 : W.cell? ⟨g2,o2 + 5,none⟩ = some d5
 r1 : VRd W s1 #[c0,c1,c2,c3,c4,c5]
 r2 : VRd W s2 #[d0,d1,d2,d3,d4,d5]
theorem PairU.keep {w W W' : World} {s1 s2 : V} {g1 o1 g2 o2 : Nat} {c0 c1 c2 c3 c4 c5 d0 d1 d2 d3 d4 d5 : Value} (h : PairU w s1 s2 g1 o1 g2 o2 c0 c1 c2 c3 c4 c5 d0 d1 d2 d3 d4 d5 W) (b : Below W.heap.size W W') : PairU w s1 s2 g1 o1 g2 o2 c0 c1 c2 c3 c4 c5 d0 d1 d2 d3 d4 d5 W' :=
 ⟨Kaa h.b b,Kak b (ltOf h.h0) h.h0,Kak b (ltOf h.h1) h.h1,Kak b (ltOf h.h2) h.h2,Kak b (ltOf h.h3) h.h3,Kak b (ltOf h.h4) h.h4,Kak b (ltOf h.h5) h.h5,
  Kak b (ltOf h.q0) h.q0,Kak b (ltOf h.q1) h.q1,Kak b (ltOf h.q2) h.q2,Kak b (ltOf h.q3) h.q3,Kak b (ltOf h.q4) h.q4,Kak b (ltOf h.q5) h.q5,h.r1.below b,h.r2.below b⟩
structure KeyTwo (w : World) (X Y : Array Value) (b1 o1 b2 o2 : Nat) (s1 s2 : List UInt8) (W : World) : Prop where
 two : TwoV w W X Y
 one : W.cell? ⟨b1,o1,none⟩ = some (.string (strB s1))
 sec : W.cell? ⟨b2,o2,none⟩ = some (.string (strB s2))
theorem KeyTwo.keep {w W W' : World} {X Y : Array Value} {b1 o1 b2 o2 : Nat} {s1 s2 : List UInt8} (h : KeyTwo w X Y b1 o1 b2 o2 s1 s2 W) (b : Below W.heap.size W W') : KeyTwo w X Y b1 o1 b2 o2 s1 s2 W' :=
 ⟨h.two.below b,Kak b (ltOf h.one) h.one,Kak b (ltOf h.sec) h.sec⟩
structure AlU (w : World) (X Y : Array Value) (s1 : V) (g1 o1 g2 o2 : Nat) (c0 c1 c2 c3 c4 c5 d0 d1 d2 d3 d4 d5 : Value) (W : World) : Prop where
 two : TwoV w W X Y
 p : PairU w s1 s1 g1 o1 g2 o2 c0 c1 c2 c3 c4 c5 d0 d1 d2 d3 d4 d5 W
theorem AlU.keep {w W W' : World} {X Y : Array Value} {s1 : V} {g1 o1 g2 o2 : Nat} {c0 c1 c2 c3 c4 c5 d0 d1 d2 d3 d4 d5 : Value} (h : AlU w X Y s1 g1 o1 g2 o2 c0 c1 c2 c3 c4 c5 d0 d1 d2 d3 d4 d5 W) (b : Below W.heap.size W W') : AlU w X Y s1 g1 o1 g2 o2 c0 c1 c2 c3 c4 c5 d0 d1 d2 d3 d4 d5 W':=⟨h.two.below b,h.p.keep b⟩
def FwPost (w : World) (l : List ChangeD) (e : Ending) (w' : World) : Prop:=∃ b,e = .returned (.bool b) ∧ (b = true → (l.map totC).sum ≤ 3000) ∧ Below w.heap.size w w'
theorem few_any {w : World} {p : Option Addr} {c : Nat} {l : List ChangeD} (h : GRd CRd 11 w p c l) : Calls Tryz.prog 26 #[.slice p l.length c] w (FwPost w l):=by
 have z1 : (l.length : Int) ≤ 140737488355328:=by have:=h.1.2.1;omega
 have H:=yh h
 clear h
 go_enter Tryz.func26,Tryz.ntmps26
 go_wp2
 go_loopw [3,4] (fun m i W=>∃ j nn : Nat,j ≤ l.length ∧ i = .int .i64 (j : Int) ∧ m = .int .i64 (nn : Int) ∧ nn ≤ 4503599627370496 ∧ Hid ((nn ≤ 3000 → ((l.take j).map totC).sum ≤ nn) ∧ Below w.heap.size w W)) (fun _ i _=>l.length - (intOf i).toNat)
 case atStart=>exact ⟨0,0,Nat.zero_le _,rfl,rfl,by omega,yh ⟨fun _=>by simp,Below.refl _ _⟩⟩
 case round =>
  obtain ⟨j,nn,hj,rfl,rfl,hnb,HS⟩:=hrel
  have z5 : (nn : Int) ≤ 4503599627370496:=by omega
  by_cases hlt : j < l.length
  ·have hlt1 : j + 1 ≤ l.length:=hlt
   by_cases hle : nn ≤ 3000
   ·have hle1 : (nn : Int) ≤ 3000:=by omega
    obtain ⟨b,of,cs,rfl,hs,hc,hv⟩:=H.out.get hlt
    obtain ⟨xa,xb,hna,hrb,x0,x1,x2,xna,xrb⟩:=Ken hv
    obtain ⟨pl,cl,pp,cp,exa,hls,hps⟩:=hna
    obtain ⟨pq,cq,exb,hty,hqs⟩:=hrb
    have k3 : cs[9]? = some (.string (strB l[j].rel.type)):=xrb 3 _ (by rw [exb];rfl)
    have k4 : cs[10]? = some (.slice pq l[j].rel.props.length cq):=xrb 4 _ (by rw [exb];rfl)
    have k1 : cs[4]? = some (.slice pl l[j].node.labels.length cl):=xna 1 _ (by rw [exa];rfl)
    have k2 : cs[5]? = some (.slice pp l[j].node.props.length cp):=xna 2 _ (by rw [exa];rfl)
    have pt:=Kak HS.out.2 (ltOf (hc 9 _ k3)) (hc 9 _ k3)
    have pr1:=Kak HS.out.2 (ltOf (hc 10 _ k4)) (hc 10 _ k4)
    have pl1:=Kak HS.out.2 (ltOf (hc 4 _ k1)) (hc 4 _ k1)
    have pp1:=Kak HS.out.2 (ltOf (hc 5 _ k2)) (hc 5 _ k2)
    have hst:=Ke7 totC hlt
    have htc : totC l[j] = (1 + totLs l[j].node.labels + totPs l[j].node.props) + (1 + l[j].rel.type.length + totPs l[j].rel.props):=rfl
    have hca:=fun W (g : Below wr.heap.size wr W)=>psz_any (hls.below (Kaa HS.out.2 g)) (hps.below (fun h=>h.below (Kaa HS.out.2 g)) (Kaa HS.out.2 g))
    have hcb:=fun W (g : Below wr.heap.size wr W)=>psz_any (w:=W) (ls:=[]) rds_nil (hqs.below (fun h=>h.below (Kaa HS.out.2 g)) (Kaa HS.out.2 g))
    generalize totC l[j] = tc at *
    generalize l[j].rel.type = ty at *
    generalize l[j].rel.props = qs at *
    generalize l[j].node.labels = ls at *
    generalize l[j].node.props = ps at *
    have hS0 : Below wr.heap.size wr wr.drew:=(Below.refl _ _).drew
    have hia : ∀ W' : World,(Instr.indexAt 58 (.slice (some ⟨b,of,none⟩) l.length c) (.int .i64 (j : Int))).run Tryz.prog W' = .ok (.pointer (some ⟨b,of + j * 11,none⟩)) W':=by intro W';simp [go_sem,hlt]
    have hf3 : ∀ (b o : Nat) (W' : World),(Instr.fieldAt 74 (.pointer (some ⟨b,o,none⟩)) 3).run Tryz.prog W' = .ok (.pointer (some ⟨b,o + 3,none⟩)) W':=by intro b o W';simp [go_sem]
    have hf4 : ∀ (b o : Nat) (W' : World),(Instr.fieldAt 74 (.pointer (some ⟨b,o,none⟩)) 4).run Tryz.prog W' = .ok (.pointer (some ⟨b,o + 6,none⟩)) W':=by intro b o W';simp [go_sem]
    have hg1 : ∀ (b o : Nat) (W' : World),(Instr.fieldAt 70 (.pointer (some ⟨b,o,none⟩)) 1).run Tryz.prog W' = .ok (.pointer (some ⟨b,o + 1,none⟩)) W':=by intro b o W';simp [go_sem]
    have hg2 : ∀ (b o : Nat) (W' : World),(Instr.fieldAt 70 (.pointer (some ⟨b,o,none⟩)) 2).run Tryz.prog W' = .ok (.pointer (some ⟨b,o + 2,none⟩)) W':=by intro b o W';simp [go_sem]
    have hg3 : ∀ (b o : Nat) (W' : World),(Instr.fieldAt 72 (.pointer (some ⟨b,o,none⟩)) 3).run Tryz.prog W' = .ok (.pointer (some ⟨b,o + 3,none⟩)) W':=by intro b o W';simp [go_sem]
    have hg4 : ∀ (b o : Nat) (W' : World),(Instr.fieldAt 72 (.pointer (some ⟨b,o,none⟩)) 4).run Tryz.prog W' = .ok (.pointer (some ⟨b,o + 4,none⟩)) W':=by intro b o W';simp [go_sem]
    have HX:=yh (And.intro hS0 (And.intro hia (And.intro hf3 (And.intro hf4 (And.intro hg1 (And.intro hg2 (And.intro hg3 (And.intro hg4 (And.intro pt (And.intro pl1 (And.intro pp1 (And.intro pr1 (And.intro hca (And.intro hcb (And.intro hst htc)))))))))))))))
    clear hS0 hia hf3 hf4 hg1 hg2 hg3 hg4 pt pl1 pp1 pr1 hca hcb hst htc hs hc hv hls hps hqs exa exb x0 x1 x2 xna xrb k1 k2 k3 k4
    go_wp2
    obtain ⟨hS0,hia,hf3,hf4,hg1,hg2,hg3,hg4,pt,pl1,pp1,pr1,hca,hcb,hst,htc⟩:=HX.out
    refine Kaj (fun W=>Below wr.heap.size wr W) (by kernel_rfl) hS0 (fun hS=>?_)
    refine tk 0 15 (v:=.int .i64 (nn : Int)) rfl rfl (fun W hW=>Kah rfl rfl) ?_
    simp only [Act.put,sA,sZ,sS]
    refine tk 1 16 (v:=.int .i64 ((nn + 1 : Nat) : Int)) rfl rfl (fun W hW=>Kar rfl rfl rfl (add_one' (by omega) W)) ?_
    simp only [Act.put,sA,sZ,sS]
    refine tk 2 17 (v:=.slice (some ⟨b,of,none⟩) l.length c) rfl rfl (fun W hW=>Kah rfl rfl) ?_
    simp only [Act.put,sA,sZ,sS]
    refine tk 3 18 (v:=.int .i64 (j : Int)) rfl rfl (fun W hW=>Kah rfl rfl) ?_
    simp only [Act.put,sA,sZ,sS]
    refine tk 4 19 (v:=.pointer (some ⟨b,of + j * 11,none⟩)) rfl rfl (fun W hW=>Kao rfl rfl rfl (hia W)) ?_
    simp only [Act.put,sA,sZ,sS]
    refine tk 5 20 (v:=.pointer (some ⟨b,of + j * 11 + 6,none⟩)) rfl rfl (fun W hW=>Kad rfl rfl (hf4 _ _ W)) ?_
    simp only [Act.put,sA,sZ,sS]
    refine tk 6 21 (v:=.pointer (some ⟨b,of + j * 11 + 6 + 3,none⟩)) rfl rfl (fun W hW=>Kad rfl rfl (hg3 _ _ W)) ?_
    simp only [Act.put,sA,sZ,sS]
    refine tk 7 22 (v:=.string (strB ty)) rfl rfl (fun W hW=>Kaf rfl rfl (Kag (w:=W) Tryz.underlying9 rfl (Kak hW (ltOf pt) pt))) ?_
    simp only [Act.put,sA,sZ,sS]
    refine tk 8 23 (v:=.int .i64 (ty.length : Int)) rfl rfl (fun W hW=>exec_lenQ rfl rfl) ?_
    simp only [Act.put,sA,sZ,sS]
    refine tk 9 24 (v:=.int .i64 ((nn + 1 + ty.length : Nat) : Int)) rfl rfl (fun W hW=>Kar rfl rfl rfl (Kdq (by omega) W)) ?_
    simp only [Act.put,sA,sZ,sS]
    refine tk 10 25 (v:=.slice (some ⟨b,of,none⟩) l.length c) rfl rfl (fun W hW=>Kah rfl rfl) ?_
    simp only [Act.put,sA,sZ,sS]
    refine tk 11 26 (v:=.int .i64 (j : Int)) rfl rfl (fun W hW=>Kah rfl rfl) ?_
    simp only [Act.put,sA,sZ,sS]
    refine tk 12 27 (v:=.pointer (some ⟨b,of + j * 11,none⟩)) rfl rfl (fun W hW=>Kao rfl rfl rfl (hia W)) ?_
    simp only [Act.put,sA,sZ,sS]
    refine tk 13 28 (v:=.pointer (some ⟨b,of + j * 11 + 3,none⟩)) rfl rfl (fun W hW=>Kad rfl rfl (hf3 _ _ W)) ?_
    simp only [Act.put,sA,sZ,sS]
    refine tk 14 29 (v:=.pointer (some ⟨b,of + j * 11 + 3 + 1,none⟩)) rfl rfl (fun W hW=>Kad rfl rfl (hg1 _ _ W)) ?_
    simp only [Act.put,sA,sZ,sS]
    refine tk 15 30 (v:=.slice pl ls.length cl) rfl rfl (fun W hW=>Kaf rfl rfl (Kag (w:=W) Tryz.underlying45 rfl (Kak hW (ltOf pl1) pl1))) ?_
    simp only [Act.put,sA,sZ,sS]
    refine tk 16 31 (v:=.slice (some ⟨b,of,none⟩) l.length c) rfl rfl (fun W hW=>Kah rfl rfl) ?_
    simp only [Act.put,sA,sZ,sS]
    refine tk 17 32 (v:=.int .i64 (j : Int)) rfl rfl (fun W hW=>Kah rfl rfl) ?_
    simp only [Act.put,sA,sZ,sS]
    refine tk 18 33 (v:=.pointer (some ⟨b,of + j * 11,none⟩)) rfl rfl (fun W hW=>Kao rfl rfl rfl (hia W)) ?_
    simp only [Act.put,sA,sZ,sS]
    refine tk 19 34 (v:=.pointer (some ⟨b,of + j * 11 + 3,none⟩)) rfl rfl (fun W hW=>Kad rfl rfl (hf3 _ _ W)) ?_
    simp only [Act.put,sA,sZ,sS]
    refine tk 20 35 (v:=.pointer (some ⟨b,of + j * 11 + 3 + 2,none⟩)) rfl rfl (fun W hW=>Kad rfl rfl (hg2 _ _ W)) ?_
    simp only [Act.put,sA,sZ,sS]
    refine tk 21 36 (v:=.slice pp ps.length cp) rfl rfl (fun W hW=>Kaf rfl rfl (Kag (w:=W) Tryz.underlying68 rfl (Kak hW (ltOf pp1) pp1))) ?_
    simp only [Act.put,sA,sZ,sS]
    refine tk 24 39 (v:=.slice (some ⟨b,of,none⟩) l.length c) rfl rfl (fun W hW=>Kah rfl rfl) ?_
    simp only [Act.put,sA,sZ,sS]
    refine tk 25 40 (v:=.int .i64 (j : Int)) rfl rfl (fun W hW=>Kah rfl rfl) ?_
    simp only [Act.put,sA,sZ,sS]
    refine tk 26 41 (v:=.pointer (some ⟨b,of + j * 11,none⟩)) rfl rfl (fun W hW=>Kao rfl rfl rfl (hia W)) ?_
    simp only [Act.put,sA,sZ,sS]
    refine tk 27 42 (v:=.pointer (some ⟨b,of + j * 11 + 6,none⟩)) rfl rfl (fun W hW=>Kad rfl rfl (hf4 _ _ W)) ?_
    simp only [Act.put,sA,sZ,sS]
    refine tk 28 43 (v:=.pointer (some ⟨b,of + j * 11 + 6 + 4,none⟩)) rfl rfl (fun W hW=>Kad rfl rfl (hg4 _ _ W)) ?_
    simp only [Act.put,sA,sZ,sS]
    refine tk 29 44 (v:=.slice pq qs.length cq) rfl rfl (fun W hW=>Kaf rfl rfl (Kag (w:=W) Tryz.underlying68 rfl (Kak hW (ltOf pr1) pr1))) ?_
    simp only [Act.put,sA,sZ,sS]
    refine Kau 22 37 rfl rfl (by kernel_rfl) rfl (Kaq [.slice pl ls.length cl,.slice pp ps.length cp] rfl rfl Tryz.func36 (by kernel_rfl) (by kernel_rfl)) ?_
    refine (hca _ hS).mono ?_
    rintro e w22 ⟨ra,rfl,hra,hb22⟩
    have hS22:=Kaa hS hb22
    have hbra:=hra.2
    refine ⟨_,rfl,.inr hS22,?_⟩
    simp only [Act.put,sA,sZ,sS]
    refine tk 23 38 (v:=.int .i64 ((nn + 1 + ty.length + ra : Nat) : Int)) rfl rfl (fun W hW=>Kar rfl rfl rfl (Kdq (by omega) W)) ?_
    simp only [Act.put,sA,sZ,sS]
    refine Kau 30 45 rfl rfl (by kernel_rfl) rfl (Kaq [.slice none 0 0,.slice pq qs.length cq] rfl rfl Tryz.func36 (by kernel_rfl) (by kernel_rfl)) ?_
    refine (hcb _ hS22).mono ?_
    rintro e w30 ⟨rb,rfl,hrb,hb30⟩
    have hS30:=Kaa hS22 hb30
    have hbrb:=hrb.2
    refine ⟨_,rfl,.inr hS30,?_⟩
    simp only [Act.put,sA,sZ,sS]
    refine tk 31 46 (v:=.int .i64 ((nn + 1 + ty.length + ra + rb : Nat) : Int)) rfl rfl (fun W hW=>Kar rfl rfl rfl (Kdq (by omega) W)) ?_
    simp only [Act.put,sA,sZ,sS]
    refine tk 32 3 (v:=.int .i64 ((nn + 1 + ty.length + ra + rb : Nat) : Int)) rfl rfl (fun W hW=>Kaz rfl rfl) ?_
    simp only [Act.put,sA,sZ,sS]
    refine done (by kernel_rfl) ?_ _
    have hnew : nn + 1 + ty.length + ra + rb ≤ 4503599627370496:=by omega
    have HN:=yh (show (nn + 1 + ty.length + ra + rb ≤ 3000 → ((l.take (j + 1)).map totC).sum ≤ nn + 1 + ty.length + ra + rb) ∧ Below w.heap.size w w30 from ⟨fun h=>by
     have h1:=HS.out.1 (by omega)
     have h2:=hra.1 (by omega)
     have h4:=hrb.1 (by omega)
     have h3 : totLs [] = 0:=rfl
     rw [hst,htc];omega,Kaa HS.out.2 hS30⟩)
    clear hS0 hia hf3 hf4 hg1 hg2 hg3 hg4 pt pl1 pp1 pr1 hca hcb hst htc hS hS22 hS30 hb22 hb30 hra hrb HX HS hbra hbrb
    generalize nn + 1 + ty.length + ra + rb = nx at *
    go_wp2
    go_roundw
    case rel=>exact ⟨j + 1,nx,hlt1,by go_num,rfl,hnew,HN⟩
    case measure=>simp [intOf];omega
   ·have hle1 : ¬ (nn : Int) ≤ 3000:=by omega
    have hle0 : decide ((nn : Int) ≤ 3000) = false:=by simpa using hle1
    have HF2:=yh HS.out.2
    clear HS
    go_wp2
    go_ret
    exact ⟨false,rfl,(fun h=>by cases h),HF2.out⟩
  ·obtain rfl : j = l.length:=by omega
   have HF2:=yh HS.out
   clear HS
   by_cases hle : nn ≤ 3000
   ·have hle1 : (nn : Int) ≤ 3000:=by omega
    go_wp2
    go_ret
    refine ⟨true,rfl,fun _=>?_,HF2.out.2⟩
    have:=HF2.out.1 hle
    rw [List.take_length] at this
    omega
   ·have hle1 : ¬ (nn : Int) ≤ 3000:=by omega
    have hle0 : decide ((nn : Int) ≤ 3000) = false:=by simpa using hle1
    go_wp2
    go_ret
    exact ⟨false,rfl,(fun h=>by cases h),HF2.out.2⟩
theorem DSt.other {T : TypeId} {w W W' : World} {q : Nat} {l : List UInt8} {bad : Bool} (h : DSt T w W q l bad) (hb : Below w.heap.size w W') (hx : W'.heap[q]? = W.heap[q]?) : DSt T w W' q l bad:=by
 obtain ⟨p,c,h1,h2⟩:=h.box
 exact ⟨hb,h.base,p,c,hx.trans h1,h2⟩
section
variable {T : TypeId} {K : Nat} {z cs : Array Value} {w W W' W'' : World} {q B : Nat} {l : List UInt8} {bad : Bool}
end
section
variable {α : Type} {E : World → (Nat → Prop) → α → Array Value → Prop} {K : Nat} {Pg : Program} {t T : TypeId} {w w' W W1 : World} {P P' : Nat → Prop} {l m : List α}
theorem GIn.stepo (hE : EL E K) (hG : GT Pg t T K) {P P' : Nat → Prop} {ov : Value} {v : α} {x : Array Value} (h : GIn E t K P W ov m) (hb : ∀ b,P b → b < W.heap.size → W1.heap[b]? = W.heap[b]?) (hsz : W.heap.size ≤ W1.heap.size) (hP : ∀ b,b < W.heap.size → P b → P' b) (hnew : ∀ b,W1.heap.size ≤ b → P' b)
 (hx : E W1 (fun b=>W.heap.size ≤ b ∧ P' b) v x) (hm : m.length ≤ 1000000) (ty : TypeId) :
 ∃ v' W2,(Builtin.append_ #[T,T] ty #[ov,.slice (some ⟨W1.heap.size,0,none⟩) 1 1]).run Pg (W1.alloc (.cells x t)) = .ok v' W2 ∧ GIn E t K P' W2 v' (m ++ [v]) ∧ Touch (fun b=>ov.ownBlock = some b) (W1.alloc (.cells x t)) W2 ∧ (v'.ownBlock = ov.ownBlock ∨ v'.ownBlock = some (W1.heap.size + 1)):=by
 have ha : Below W1.heap.size W1 (W1.alloc (.cells x t)):=Kac _
 have hlt : ∀ g,ov.ownBlock = some g → g < W.heap.size:=fun g hg=>(h.lt g hg).1
 obtain ⟨xs,h1,h2⟩:=h.kept (P':=P') hE (W':=W1.alloc (.cells x t)) (fun b hp hlt=>(ha.block b (by omega)).trans (hb b hp hlt)) hP
 have hx' : E (W1.alloc (.cells x t)) (fun b=>W.heap.size ≤ b ∧ P' b) v x:=hE.keep (fun b _ hb=>ha.block b hb) hx
 have hs1 : (W1.alloc (.cells x t)).heap.size = W1.heap.size + 1:=by simp
 obtain ⟨v',W2,a1,a2,a3,a4,a5⟩:=hG.app h1.1 (hE.size hx) (hE.ones hx) (heap_alloc_new W1 _) hm ty
 refine ⟨v',W2,a1,⟨xs ++ [x],⟨?_,fun g hg=>?_⟩,?_⟩,a3,by rw [hs1] at a4;exact a4⟩
 ·rw [List.flatMap_append,List.length_append]
  simpa using a2
 ·rcases a4 with e | e
  ·exact h1.2 g (e.symm.trans hg)
  ·rw [e] at hg
   cases hg
   exact hnew _ (by omega)
 ·have hs : GOwns E (W1.alloc (.cells x t)) (fun b=>P' b ∧ ov.ownBlock ≠ some b ∧ b < (W1.alloc (.cells x t)).heap.size) (m ++ [v]) (xs ++ [x]) :=
   (h2.imp hE fun b hb hp=>⟨hp.1,hp.2,hb⟩).snoc (hE.imp (fun b hb hp=>⟨hp.2,fun e=>by have:=hlt b e;omega,hb⟩) hx')
  refine (hs.keep hE (w':=W2) fun b hp hb=>a3.block b hb hp.2.1).imp hE fun b _ hp=>⟨hp.1,?_⟩
  rcases a4 with e | e
  ·rw [e];exact hp.2.1
  ·rw [e];intro e2;cases e2;have:=hp.2.2;omega
end
structure DX (T : TypeId) (w W : World) (q : Nat) (z : Array Value) (B : Nat) (cs : Array Value) (Wb : World) (l : List UInt8) (bad : Bool) (W' : World) : Prop where
 bx : BX T W q z B cs W'
 ds : DSt 40 w W' q l bad
 keep : ∀ b,b < Wb.heap.size → b ≠ q → b ≠ B → W'.heap[b]? = Wb.heap[b]?
 sz : Wb.heap.size ≤ W'.heap.size
 lo : B < Wb.heap.size
section
variable {T : TypeId} {z cs : Array Value} {w W W' W1 W2 Wb : World} {q B i : Nat} {l l' : List UInt8} {bad bad' : Bool} {α : Type} {E : World → (Nat → Prop) → α → Array Value → Prop} {t Tr : TypeId} {K : Nat} {m : List α} {v : α} {x : Array Value} {ov : Value} {P : Nat → Prop}
theorem DX.start (h : BX T W q z B cs Wb) (g : DSt 40 w Wb q l bad) : DX T w W q z B cs Wb l bad Wb:=⟨h,g,fun _ _ _ _=>rfl,Nat.le_refl _,h.lt⟩
theorem DX.step (h : DX T w W q z B cs Wb l bad W') (t1 : RTo q W' W1) (d1 : DSt 40 w W1 q l' bad') : DX T w W q z B cs Wb l' bad' W1 :=
 ⟨h.bx.step t1,d1,fun b hb hq hB=>(t1.keep b (Nat.lt_of_lt_of_le hb h.sz) hq).trans (h.keep b hb hq hB),Nat.le_trans h.sz t1.size,h.lo⟩
theorem DX.below (h : DX T w W q z B cs Wb l bad W') (g : Below W'.heap.size W' W1) : DX T w W q z B cs Wb l bad W1:=h.step (RTo.of_below g) (h.ds.below g)
theorem DX.push (h : DX T w W q z B cs Wb l bad W2) (hE : EL E K) (hG : GT Tryz.prog t Tr K) (hPw : ∀ b,P b → Wb.heap.size ≤ b) (hPn : ∀ b,W2.heap.size ≤ b → P b) (row : GIn E t K P W' ov m) (hsz : W'.heap.size ≤ W2.heap.size) (hkeep : ∀ b,P b → b < W'.heap.size → W2.heap[b]? = W'.heap[b]?) (hov : cs[i]? = some ov)
 (hx : E W2 (fun b=>W'.heap.size ≤ b ∧ P b) v x) (hm : m.length ≤ 1000000) (ty : TypeId) :
 ∃ p c W3,(Builtin.append_ #[Tr,Tr] ty #[ov,.slice (some ⟨W2.heap.size,0,none⟩) 1 1]).run Tryz.prog (W2.alloc (.cells x t)) = .ok (.slice p (m.length + 1) c) W3 ∧ W3.cell? ⟨B,i,none⟩ = some ov ∧ W3.frozen? ⟨B,i,none⟩ = false ∧
  DX T w W q z B (cs.setIfInBounds i (.slice p (m.length + 1) c)) Wb l bad (W3.setCell ⟨B,i,none⟩ (.slice p (m.length + 1) c)) ∧ GIn E t K P (W3.setCell ⟨B,i,none⟩ (.slice p (m.length + 1) c)) (.slice p (m.length + 1) c) (m ++ [v]) ∧
  (∀ b,b < W2.heap.size → b ≠ B → ov.ownBlock ≠ some b → (W3.setCell ⟨B,i,none⟩ (.slice p (m.length + 1) c)).heap[b]? = W2.heap[b]?) ∧ (∀ g,(Value.slice p (m.length + 1) c).ownBlock = some g → ov.ownBlock = some g ∨ W2.heap.size ≤ g):=by
 obtain ⟨v',W3,a1,a2,a3,a4⟩:=row.stepo hE hG (P':=P) (W1:=W2) hkeep hsz (fun b _ h=>h) hPn hx hm ty
 obtain ⟨p,c,rfl⟩:=a2.slice
 have el : (m ++ [v]).length = m.length + 1:=by simp
 rw [el] at a1 a2 a4
 have hlow : ∀ b,ov.ownBlock = some b → Wb.heap.size ≤ b:=fun b e=>hPw b (row.lt b e).2
 have hbn:=Kac (w:=W2) (.cells x t)
 have hB2 : B < W2.heap.size:=Nat.lt_of_lt_of_le h.lo h.sz
 have hq:=h.bx.ql
 have hlo:=h.bx.lo
 have hloB:=h.lo
 have hW3 : ∀ b,b < W2.heap.size → ov.ownBlock ≠ some b → W3.heap[b]? = W2.heap[b]?:=fun b hb ho=>(a3.block b (Nat.lt_of_lt_of_le hb hbn.size) ho).trans (hbn.block b hb)
 have hBx : W3.heap[B]? = some (.cells cs T (0,0)):=(hW3 B hB2 fun e=>by have:=hlow B e;omega).trans h.bx.p3
 have hcell : W3.cell? ⟨B,i,none⟩ = some ov:=Kab (o:=i) hBx hov
 have hs3 : W2.heap.size ≤ W3.heap.size:=by have:=a3.size;simp only [World.size_alloc] at this;omega
 have hset : ∀ b,b ≠ B → (W3.setCell ⟨B,i,none⟩ (.slice p (m.length + 1) c)).heap[b]? = W3.heap[b]?:=fun b hb=>Below.heap_setCell W3 ⟨B,i,none⟩ _ b hb
 have hss : (W3.setCell ⟨B,i,none⟩ (.slice p (m.length + 1) c)).heap.size = W3.heap.size:=by simp [World.setCell]
 have hB3 : Below w.heap.size w W3:=a3.below (Kaa h.ds.b hbn) (fun b hb e=>by have:=hlow b e;have:=h.ds.base;omega) (by have:=h.ds.b.size;have:=hbn.size;omega)
 refine ⟨p,c,W3,a1,hcell,Kav (o:=i) hBx,⟨?_,?_,fun b hb hbq hbB=>?_,by rw [hss];have:=h.sz;omega,h.lo⟩,?_,fun b hb hbB ho=>(hset b hbB).trans (hW3 b hb ho),fun g hg=>?_⟩
 ·have h2 : BX T W q z B cs W3:=⟨(hW3 _ (by omega) fun e=>by have:=hlow _ e;omega).trans h.bx.p2,hBx,h.bx.lo,h.bx.ql,⟨by have:=h.bx.tr.size;omega,fun b hb hbq=>(hW3 b (by have:=h.bx.tr.size;omega) fun e=>by have:=hlow _ e;omega).trans (h.bx.tr.keep b hb hbq)⟩⟩
  exact h2.set i _
 ·exact h.ds.other (Kbh hB3 (by have:=h.ds.base;omega) _) ((hset q (by omega)).trans (hW3 q (by omega) fun e=>by have:=hlow _ e;omega))
 ·exact (hset b hbB).trans ((hW3 b (by have:=h.sz;omega) fun e=>by have:=hlow _ e;omega).trans (h.keep b hb hbq hbB))
 ·exact a2.kept hE (fun b hp _=>hset b (by have:=hPw b hp;omega)) (fun b _ h=>h)
 ·rcases a4 with e | e
  ·exact .inl (e.symm.trans hg)
  ·rw [e] at hg;cases hg;exact .inr (by omega)
end
theorem six {cs : Array Value} (h : cs.size = 6) : ∃ a b c d e f,cs = #[a,b,c,d,e,f]:=by
 obtain ⟨l⟩:=cs
 match l,h with
 | [a,b,c,d,e,f],_=>exact ⟨a,b,c,d,e,f,rfl⟩
def CLoopAt (n : Nat) (s0 : Rs) (l : List ChangeD) (s : Rs) : Prop:=l.length ≤ n ∧ Kbd n s0 = (l ++ (Kbd (n - l.length) s).1,(Kbd (n - l.length) s).2)
theorem CLoopAt.start (n : Nat) (s : Rs) : CLoopAt n s [] s:=⟨by simp,by simp⟩
theorem CLoopAt.step {n : Nat} {s0 s : Rs} {l : List ChangeD} (h : CLoopAt n s0 l s) (hl : l.length < n) (hb : s.2 = false) (hp : s.1 ≠ []) : CLoopAt n s0 (l ++ [(Ka3 s).1]) (Ka3 s).2:=by
 refine ⟨by rw [List.length_append];simp;omega,?_⟩
 rw [h.2]
 have e1 : n - l.length = (n - (l ++ [(Ka3 s).1]).length) + 1:=by rw [List.length_append];simp;omega
 rw [e1,Kbd,if_neg (by rw [hb];simp [hp])]
 simp
structure CX (w wr : World) (q B : Nat) (cs : Array Value) (l : List UInt8) (bad : Bool) (W' : World) : Prop where
 box : W'.heap[B]? = some (.cells cs 74 (0,0))
 ds : DSt 40 w W' q l bad
 tr : RTo q wr W'
 lo : wr.heap.size ≤ B
 ql : q < wr.heap.size
section
variable {w wr W' W'' W3 W7 : World} {q B : Nat} {cs : Array Value} {l l2 : List UInt8} {bad bad2 : Bool} {cl : List ChangeD} {ov : Value} {v : ChangeD}
theorem CX.lt (h : CX w wr q B cs l bad W') : B < W'.heap.size:=(Array.getElem?_eq_some_iff.1 h.box).1
theorem CX.step (h : CX w wr q B cs l bad W') (t : RTo q W' W'') (d : DSt 40 w W'' q l2 bad2) : CX w wr q B cs l2 bad2 W'' :=
 ⟨(t.keep _ h.lt (by have:=h.lo;have:=h.ql;omega)).trans h.box,d,h.tr.trans t,h.lo,h.ql⟩
theorem CX.turn (h : CX w wr q B cs l bad W') {cs' : Array Value} (hB : W''.heap[B]? = some (.cells cs' 74 (0,0))) (ho : ∀ b,b ≠ B → W''.heap[b]? = W'.heap[b]?) (hs : W''.heap.size = W'.heap.size) (hb : Below w.heap.size w W'') : CX w wr q B cs' l bad W'' :=
 ⟨hB,h.ds.other hb (ho q (by have:=h.lo;have:=h.ql;omega)),⟨by rw [hs];exact h.tr.size,fun b hb1 hq=>(ho b (by have:=h.lo;omega)).trans (h.tr.keep b hb1 hq)⟩,h.lo,h.ql⟩
theorem CX.base (h : CX w wr q B cs l bad W') : w.heap.size ≤ B:=by have:=h.ds.base;have:=h.lo;have:=h.ql;omega
theorem CX.set (h : CX w wr q B cs l bad W') (i : Nat) (u : Value) : CX w wr q B (cs.setIfInBounds i u) l bad (W'.setCell ⟨B,i,none⟩ u) :=
 h.turn (Kcd u h.box) (fun b hb=>Below.heap_setCell _ _ _ _ hb) (by simp [World.setCell]) (Kbh h.ds.b h.base u)
theorem CX.row (h : CX w wr q B cs l bad W') (cs' : Array Value) : CX w wr q B cs' l bad (W'.setRow B cs') :=
 h.turn (setRow_heap W' B cs cs' _ _ h.box) (fun b hb=>setRow_other W' B b cs' hb) (by simp) (Kbz h.ds.b h.base cs')
end
section
variable {w W W1 : World} {o : Value} {l m : List UInt8}
theorem Buf.rd (h : Buf w W o l) : RdB W o l:=by
 have hcells:=fun (g : Nat) (e : o.ownBlock = some g)=>h.own.1.cells (g:=g) e
 rcases h.own.1.2 with ⟨rfl,h0⟩ | ⟨g,cap,cur,rfl,_,hg,hnc,hcm,hcs,htake⟩
 ·have : l = []:=List.eq_nil_of_length_eq_zero h0
  subst this
  exact ⟨none,0,rfl,⟨Nat.le_refl _,by simp [maxLen],fun _=>rfl⟩,fun ad h=>by cases h⟩
 ·refine ⟨some ⟨g,0,none⟩,cap,rfl,⟨hnc,hcm,fun h=>by cases h⟩,fun ad had=>?_⟩
  cases had
  refine ⟨fun _=>rfl,fun i b hi=>?_⟩
  have:=hcells g rfl i (.int .u8 (b.toNat : Int)) (by rw [List.getElem?_map,hi];rfl)
  rw [Ka4] at this;exact this
end
section
variable {w W W1 : World} {o o2 : Value} {l m : List UInt8} {B : Nat}
end
theorem Buf.own_lt {w W : World} {o : Value} {l : List UInt8} (h : Buf w W o l) : o.ownBlock ≠ some W.heap.size:=fun e=>by
 have:=h.own.1.lt _ e;omega
structure LM (w W : World) (x cn cg : Array Value) : Prop where
 c : W.heap[w.heap.size]? = some (.cells x 74 (0,0))
 n : W.heap[w.heap.size + 1]? = some (.cells cn 70 (0,0))
 g : W.heap[w.heap.size + 2]? = some (.cells cg 25 (0,0))
 b : Below w.heap.size w W
 sz : w.heap.size + 3 ≤ W.heap.size
section
variable {w W W' : World} {x cn cg xa xb : Array Value} {m M : Int} {p : Option Addr} {c : Nat}
theorem LM.keep (h : LM w W x cn cg) (hk : ∀ b,b < w.heap.size + 3 → W'.heap[b]? = W.heap[b]?) (hb : Below w.heap.size w W') (hs : W.heap.size ≤ W'.heap.size) : LM w W' x cn cg :=
 ⟨(hk _ (by omega)).trans h.c,(hk _ (by omega)).trans h.n,(hk _ (by omega)).trans h.g,hb,Nat.le_trans h.sz hs⟩
theorem LM.alloc (h : LM w W x cn cg) (o : Obj) : LM w (W.alloc o) x cn cg :=
 h.keep (fun b hb=>(Kac o).block b (by have:=h.sz;omega)) (Kaa h.b (Kac o)) (by simp)
theorem LM.start : LM w (((w.alloc (.cells x 74)).alloc (.cells cn 70)).alloc (.cells cg 25)) x cn cg:=by
 have b1:=Kac (w:=w) (.cells x 74)
 have b2:=Kac (w:=w.alloc (.cells x 74)) (.cells cn 70)
 have b3:=Kac (w:=(w.alloc (.cells x 74)).alloc (.cells cn 70)) (.cells cg 25)
 have h2:=heap_alloc_new (w.alloc (.cells x 74)) (.cells cn 70)
 have h3:=heap_alloc_new ((w.alloc (.cells x 74)).alloc (.cells cn 70)) (.cells cg 25)
 simp only [World.size_alloc] at h2 h3
 exact ⟨Kai b3 (by simp;omega) (Kai b2 (by simp) (heap_alloc_new w _)),Kai b3 (by simp) h2,h3,Kaa b1 (Kaa b2 b3),by simp⟩
end
theorem changes_rd {w : World} {P : Nat → Prop} {p : Option Addr} {c n : Nat} {l : List ChangeD} (h : GOwn COwn 74 11 w P (.slice p n c) l) (ht : (l.map totC).sum ≤ 900000) : GRd CRd 11 w p c l:=by
 have hl : l.length ≤ (l.map totC).sum:=Kcb totC fun c _=>by have:=totN_pos c.node;unfold totC;omega
 obtain ⟨p',c',e,h2⟩:=h.rd Ke0 (F:=CRd) (by omega) fun v hv x hx=>hx.rd (Nat.le_trans (Kbb totC hv) ht)
 cases e
 exact h2
theorem GotC.rd {w W' : World} {o : Option (List ChangeD)} {e : Ending} (h : GotC w o e W') (ht : ((o.getD []).map totC).sum ≤ 900000) : ∃ p c,e = .returned (.tuple #[.slice p (o.getD []).length c,.int .i64 (errR o)]) ∧ GRd CRd 11 W' p c (o.getD []) ∧ Below w.heap.size w W':=by
 obtain ⟨v,rfl,ho,hb⟩:=h
 obtain ⟨p,c,rfl⟩:=ho.slice
 exact ⟨p,c,rfl,changes_rd ho ht,hb⟩
theorem len_changes (l : List ChangeD) : l.length ≤ (l.map totC).sum:=Kcb totC fun c _=>by have:=totN_pos c.node;unfold totC;omega
theorem readC_tot {b : List UInt8} {x : List ChangeD} (h : readW Kee okCs b = some x) : 1 + (x.map totC).sum ≤ b.length ∧ ∀ c ∈ x,rngC c:=by
 obtain ⟨h1,h2⟩:=readW_dec h
 obtain ⟨h3,h4⟩:=tot_of rt_changes df_changes ds_changes h1
 exact ⟨by simpa using h3,h4⟩
theorem changesC_small {l : List ChangeD} (hr : ∀ c ∈ l,rngC c) (ht : (l.map totC).sum ≤ 3000) : (Kbk l).length ≤ 800000:=by
 have:=changesC_len hr (by omega);omega
def keyI (e : MapEntry) : Option Int:=match e.key with | .int .i64 j=>some j | _=>none
theorem keyI_of {e : MapEntry} {k : Int} (h : e.key = .int .i64 k) : keyI e = some k:=by simp [keyI,h]
def getE (es : List MapEntry) (k : Int) : Option Value :=
 match es with
 | []=>none
 | e :: r=>if keyI e = some k then some e.val else getE r k
def Kbm (es : List MapEntry) : List Int:=es.filterMap keyI
structure GoodE (es : List MapEntry) (clk : Nat) : Prop where
 int : ∀ e ∈ es,∃ k,e.key = .int .i64 k
 keys : (Kbm es).Nodup
 born : (es.map (·.born)).Nodup
 clock : ∀ e ∈ es,e.born < clk
def IntMap (w : World) (b : Nat) (m : Int → Option Value) : Prop :=
 ∃ es clk,w.heap[b]? = some (.map es clk) ∧ GoodE es.toList clk ∧ ∀ k,getE es.toList k = m k
theorem IntMap.lt {w : World} {b : Nat} {m : Int → Option Value} (h : IntMap w b m) : b < w.heap.size:=by
 obtain ⟨es,clk,h1,_⟩:=h;exact (Array.getElem?_eq_some_iff.1 h1).1
theorem IntMap.of_heap {w w' : World} {b : Nat} {m : Int → Option Value} (h : IntMap w b m) (hb : w'.heap[b]? = w.heap[b]?) : IntMap w' b m:=by
 obtain ⟨es,clk,h1,h2⟩:=h;exact ⟨es,clk,hb.trans h1,h2⟩
theorem IntMap.touch {S : Nat → Prop} {w w' : World} {b : Nat} {m : Int → Option Value} (h : IntMap w b m) (g : Touch S w w') (hs : ¬ S b) : IntMap w' b m :=
 h.of_heap (g.block b h.lt hs)
theorem IntMap.grow {w w' : World} {b : Nat} {m : Int → Option Value} (h : IntMap w b m) (g : Below w.heap.size w w') : IntMap w' b m:=h.of_heap (g.block b h.lt)
theorem IntMap.fresh {w : World} {b : Nat} (h : w.heap[b]? = some (.map #[] 0)) : IntMap w b (fun _=>none) :=
 ⟨#[],0,h,⟨by simp,by simp [Kbm],by simp,by simp⟩,fun _=>rfl⟩
theorem IntMap.made (w : World) : IntMap (w.alloc (.map #[] 0)) w.heap.size (fun _=>none) :=
 ⟨#[],0,heap_alloc_new w _,⟨by simp,by simp [Kbm],by simp,by simp⟩,fun _=>rfl⟩
theorem findNow_int {es : List MapEntry} (hi : ∀ e ∈ es,∃ k,e.key = .int .i64 k) (k : Int) (i : Nat) :
 ∃ r,Instr.findNow (.int .i64) (.int .i64 k) es i = some r ∧ r.map (·.2) = getE es k ∧ ∀ p,r = some p → i ≤ p.1 ∧ p.1 - i < es.length ∧ ∃ e,es[p.1 - i]? = some e ∧ e.key = .int .i64 k:=by
 induction es generalizing i with
 | nil=>exact ⟨none,rfl,rfl,fun p h=>by cases h⟩
 | cons e r ih =>
   obtain ⟨j,hj⟩:=hi e (by simp)
   by_cases hjk : k = j
   ·subst hjk
    refine ⟨some (i,e.val),by simp [Instr.findNow,hj,Instr.sameNow],by simp [getE,keyI_of hj],fun p h=>?_⟩
    cases h
    exact ⟨Nat.le_refl _,by simp,e,by simp,hj⟩
   ·obtain ⟨q,h1,h2,h3⟩:=ih (fun e he=>hi e (by simp [he])) (i + 1)
    refine ⟨q,?_,?_,fun p h=>?_⟩
    ·have : (k == j) = false:=by simpa using hjk
     simp only [Instr.findNow,hj,Instr.sameNow,if_true,this];exact h1
    ·rw [h2];simp [getE,keyI_of hj,Ne.symm hjk]
    ·obtain ⟨a,b,e',c,d⟩:=h3 p h
     refine ⟨by omega,by simp;omega,e',?_,d⟩
     have : p.1 - i = (p.1 - (i + 1)) + 1:=by omega
     rw [this];simpa using c
section
variable {P : Program} {T K E : TypeId} {w : World} {b : Nat} {m : Int → Option Value}
theorem Kd1 (hK : P.underlying K = some (.int .i64)) (empty : Bool) (k : Int) (w : World) : (Instr.checkKey empty 10000 K (.int .i64 k)).run P w = .ok () w:=by
 have : (10000 : Nat) = 9999 + 1:=rfl
 rw [this,Instr.checkKey]
 simp [Sem.run_bind,run_underlying hK,Result.andThen]
theorem Keb (hK : P.underlying K = some (.int .i64)) {es : List MapEntry} (hi : ∀ e ∈ es,∃ k,e.key = .int .i64 k) (k : Int) (w : World) :
 ∃ r,(Instr.findKey K (.int .i64 k) es).run P w = .ok r w ∧ r.map (·.2) = getE es k ∧ ∀ p,r = some p → p.1 < es.length ∧ ∃ e,es[p.1]? = some e ∧ e.key = .int .i64 k:=by
 obtain ⟨r,h1,h2,h3⟩:=findNow_int hi k 0
 refine ⟨r,?_,h2,fun p h=>?_⟩
 ·simp [Instr.findKey,Sem.run_bind,run_underlying hK,Result.andThen,h1]
 ·have:=h3 p h;simpa using this
theorem Kdr (h : IntMap w b m) (hT : P.underlying T = some (.map K E)) (hK : P.underlying K = some (.int .i64)) {z : Value} (hz : ∀ w,(zeroValue E).run P w = .ok z w) (k : Int) :
 (Instr.lookup T (.map (some b)) (.int .i64 k) false).run P w = .ok ((m k).getD z) w:=by
 obtain ⟨es,clk,hb,hg,hm⟩:=h
 obtain ⟨r,h1,h2,_⟩:=Keb (P:=P) hK hg.int k w
 rw [hm] at h2
 unfold Instr.lookup
 simp only [Sem.run_bind,run_underlying hT,Result.andThen_ok,getObj,Sem.run,hb,Sem.run_pure,Kd1 hK,h1]
 cases r with
 | none=>simp [← h2,hz]
 | some p=>simp [← h2]
def updI (m : Int → Option Value) (k : Int) (v : Value) : Int → Option Value:=fun j=>if j = k then some v else m j
theorem getE_none {es : List MapEntry} {k : Int} (h : getE es k = none) : k ∉ Kbm es:=by
 induction es with
 | nil=>simp [Kbm]
 | cons e r ih =>
   unfold getE at h
   split at h
   ·cases h
   ·rename_i hne
    unfold Kbm
    rw [List.filterMap_cons]
    cases hk : keyI e with
    | none=>exact ih h
    | some j =>
      simp only [List.mem_cons,not_or]
      exact ⟨fun e'=>hne (by rw [hk,e']),ih h⟩
theorem getE_append (es : List MapEntry) (k j : Int) (v : Value) (c : Nat) : getE (es ++ [{ key:=.int .i64 k,val:=v,born:=c }]) j = match getE es j with | some u=>some u | none=>if k = j then some v else none:=by
 induction es with
 | nil=>simp [getE,keyI]
 | cons e r ih =>
   simp only [List.cons_append,getE]
   split
   ·rfl
   ·exact ih
theorem keysOf_set {es : List MapEntry} {i : Nat} {e e' : MapEntry} (h : es[i]? = some e) (hk : keyI e' = keyI e) : Kbm (es.set i e') = Kbm es:=by
 induction es generalizing i with
 | nil=>simp at h
 | cons x r ih =>
   cases i with
   | zero=>simp at h;subst h;simp [Kbm,List.filterMap_cons,hk]
   | succ i=>simp at h;simp only [List.set_cons_succ,Kbm,List.filterMap_cons];have:=ih h;unfold Kbm at this;rw [this]
theorem getE_set {es : List MapEntry} (hn : (Kbm es).Nodup) {i : Nat} {e e' : MapEntry} {k : Int} {v : Value} (h : es[i]? = some e) (hk : keyI e = some k) (hk' : keyI e' = some k) (hv : e'.val = v) (j : Int) :
 getE (es.set i e') j = if j = k then some v else getE es j:=by
 induction es generalizing i with
 | nil=>simp at h
 | cons x r ih =>
   have hn' : (Kbm r).Nodup:=by
    simp only [Kbm,List.filterMap_cons] at hn
    split at hn
    ·exact hn
    ·exact (List.nodup_cons.1 hn).2
   cases i with
   | zero =>
     simp at h;subst h
     simp only [List.set_cons_zero,getE,hk',hk,hv]
     by_cases hjk : j = k
     ·simp [hjk]
     ·simp [hjk,Ne.symm hjk]
   | succ i =>
     simp at h
     have hmem : k ∈ Kbm r:=by
      simp only [Kbm,List.mem_filterMap];exact ⟨e,List.mem_of_getElem? h,hk⟩
     simp only [List.set_cons_succ,getE,ih hn' h]
     split
     ·rename_i hq
      have : j ≠ k:=fun ejk=>by
       simp only [Kbm,List.filterMap_cons,hq] at hn
       exact (List.nodup_cons.1 hn).1 (by rw [ejk];exact hmem)
      simp [this]
     ·rfl
theorem modify_toList (es : Array MapEntry) (i : Nat) (e : MapEntry) (f : MapEntry → MapEntry) (h : es[i]? = some e) : (es.modify i f).toList = es.toList.set i (f e):=by
 apply List.ext_getElem?
 intro n
 rw [List.getElem?_set,Array.getElem?_toList,Array.getElem?_modify]
 split
 ·rename_i hn;subst hn;obtain ⟨hlt,he⟩:=Array.getElem?_eq_some_iff.1 h;simp [hlt,he]
 ·simp
theorem Kew (h : IntMap w b m) (hT : P.underlying T = some (.map K E)) (hK : P.underlying K = some (.int .i64)) (k : Int) (v : Value) :
 ∃ w',(Instr.mapUpdate T (.map (some b)) (.int .i64 k) v).run P w = .ok () w' ∧ Touch (fun x=>x = b) w w' ∧ IntMap w' b (updI m k v) ∧ w'.heap.size = w.heap.size:=by
 obtain ⟨es,clk,hb,hg,hm⟩:=h
 obtain ⟨r,h1,h2,h3⟩:=Keb (P:=P) hK hg.int k w
 rw [hm] at h2
 unfold Instr.mapUpdate
 simp only [Sem.run_bind,run_underlying hT,Result.andThen_ok,getObj,Sem.run,hb,Sem.run_pure,Kd1 hK,h1]
 cases r with
 | none =>
   have hmk : m k = none:=by simpa using h2.symm
   refine ⟨w.putObj b (.map (es.push { key:=.int .i64 k,val:=v,born:=clk }) (clk + 1)),?_,(Touch.refl _ _).putObj (.inl (by exact rfl)) _,⟨_,_,Kcn hb,?_,?_⟩,by simp⟩
   ·simp [setObj,Sem.run,hb,World.putObj]
   ·refine ⟨?_,?_,?_,?_⟩
    ·intro e he
     rw [Array.toList_push] at he
     rcases List.mem_append.1 he with he | he
     ·exact hg.int e he
     ·cases List.mem_singleton.1 he;exact ⟨k,rfl⟩
    ·have:=getE_none ((hm k).trans hmk)
     simp only [Array.toList_push,Kbm,List.filterMap_append,List.filterMap_cons,List.filterMap_nil,keyI]
     rw [List.nodup_append]
     refine ⟨hg.keys,by simp,fun a ha c hc=>?_⟩
     simp only [List.mem_singleton] at hc
     subst hc;exact fun e=>this (by rw [← e];exact ha)
    ·simp only [Array.toList_push,List.map_append,List.map_cons,List.map_nil]
     rw [List.nodup_append]
     refine ⟨hg.born,by simp,fun a ha c hc=>?_⟩
     simp only [List.mem_singleton] at hc
     obtain ⟨e,he,rfl⟩:=List.mem_map.1 ha
     have:=hg.clock e he
     omega
    ·intro e he
     simp only [Array.toList_push,List.mem_append,List.mem_singleton] at he
     rcases he with he | rfl
     ·have:=hg.clock e he;omega
     ·simp
   ·intro j
    rw [Array.toList_push,getE_append,hm]
    unfold updI
    by_cases hjk : j = k
    ·subst hjk;simp [hmk]
    ·simp only [hjk,Ne.symm hjk,if_false]
     cases m j <;> rfl
 | some p =>
   obtain ⟨i,u⟩:=p
   obtain ⟨hlt,e,he,hke⟩:=h3 _ rfl
   have hlt' : i < es.size:=by simpa using hlt
   have he' : es[i]? = some e:=by simpa using he
   have hkt : (Instr.keyThatStays (((es[i]?).map (·.key)).getD (.int .i64 k)) (.int .i64 k)).run P w = .ok (.int .i64 k) w:=by
    simp only [he',Option.map_some,Option.getD_some,hke,Instr.keyThatStays]
    simp [Instr.sameBits]
   refine ⟨w.putObj b (.map (es.modify i fun e=>{ e with key:=.int .i64 k,val:=v }) clk),?_,(Touch.refl _ _).putObj (.inl (by exact rfl)) _,⟨_,_,Kcn hb,?_,?_⟩,by simp⟩
   ·simp only [Sem.run_bind,hkt,Result.andThen_ok]
    simp [setObj,Sem.run,hb,World.putObj]
   ·rw [modify_toList es i e _ he']
    refine ⟨?_,?_,?_,?_⟩
    ·intro e' h'
     rcases List.mem_or_eq_of_mem_set h' with h' | rfl
     ·exact hg.int e' h'
     ·exact ⟨k,rfl⟩
    ·rw [keysOf_set he (by simp [keyI,hke])];exact hg.keys
    ·rw [List.map_set]
     have : (es.toList.map (·.born)).set i e.born = es.toList.map (·.born):=by
      apply List.ext_getElem?
      intro n
      rw [List.getElem?_set]
      split
      ·rename_i h;subst h;simp [he'];omega
      ·rfl
     simp only [this];exact hg.born
    ·intro e' h'
     rcases List.mem_or_eq_of_mem_set h' with h' | rfl
     ·exact hg.clock e' h'
     ·exact hg.clock e (List.mem_of_getElem? he)
   ·intro j
    rw [modify_toList es i e _ he',getE_set hg.keys he (keyI_of hke) rfl rfl,hm]
    rfl
end
def delI (m : Int → Option Value) (k : Int) : Int → Option Value:=fun j=>if j = k then none else m j
theorem getE_mem {es : List MapEntry} {k : Int} : getE es k ≠ none ↔ k ∈ Kbm es:=by
 induction es with
 | nil=>simp [getE,Kbm]
 | cons e r ih =>
   unfold getE
   by_cases h : keyI e = some k
   ·rw [if_pos h]
    unfold Kbm
    rw [List.filterMap_cons,h]
    simp
   ·rw [if_neg h,ih]
    unfold Kbm
    rw [List.filterMap_cons]
    cases hk : keyI e with
    | none=>simp
    | some j =>
      have : k ≠ j:=fun e2=>h (by rw [hk,e2])
      simp [this]
theorem getE_erase {es : List MapEntry} (hn : (Kbm es).Nodup) {i : Nat} {e : MapEntry} {k : Int} (h : es[i]? = some e) (hk : keyI e = some k) (j : Int) : getE (es.eraseIdx i) j = if j = k then none else getE es j:=by
 induction es generalizing i with
 | nil=>simp at h
 | cons x r ih =>
   have hn' : (Kbm r).Nodup:=by
    simp only [Kbm,List.filterMap_cons] at hn
    split at hn
    ·exact hn
    ·exact (List.nodup_cons.1 hn).2
   cases i with
   | zero =>
     simp at h;subst h
     simp only [List.eraseIdx_cons_zero,getE,hk]
     by_cases hjk : j = k
     ·subst hjk
      rw [if_pos rfl]
      have : j ∉ Kbm r:=by
       simp only [Kbm,List.filterMap_cons,hk] at hn
       exact (List.nodup_cons.1 hn).1
      by_cases hg : getE r j = none
      ·exact hg
      ·exact absurd (getE_mem.1 hg) this
     ·simp [hjk,Ne.symm hjk]
   | succ i =>
     simp at h
     have hmem : k ∈ Kbm r:=by
      simp only [Kbm,List.mem_filterMap];exact ⟨e,List.mem_of_getElem? h,hk⟩
     simp only [List.eraseIdx_cons_succ,getE,ih hn' h]
     split
     ·rename_i hq
      have : j ≠ k:=fun ejk=>by
       simp only [Kbm,List.filterMap_cons,hq] at hn
       exact (List.nodup_cons.1 hn).1 (by rw [ejk];exact hmem)
      simp [this]
     ·rfl
section
variable {P : Program} {T K E : TypeId} {w : World} {b : Nat} {m : Int → Option Value}
theorem run_delete_int (h : IntMap w b m) (hT : P.underlying T = some (.map K E)) (hK : P.underlying K = some (.int .i64)) (k : Int) (T2 ty : TypeId) :
 ∃ w',(Builtin.delete_ #[T,T2] ty #[.map (some b),.int .i64 k]).run P w = .ok (.tuple #[]) w' ∧ Touch (fun x=>x = b) w w' ∧ IntMap w' b (delI m k) ∧ w'.heap.size = w.heap.size:=by
 obtain ⟨es,clk,hb,hg,hm⟩:=h
 obtain ⟨r,h1,h2,h3⟩:=Keb (P:=P) hK hg.int k w
 rw [hm] at h2
 unfold Builtin.delete_
 simp only [List.getElem?_toArray,List.getElem?_cons_zero,List.getElem?_cons_succ,Sem.run_bind,run_underlying hT,Result.andThen_ok,getObj,Sem.run,hb,Sem.run_pure,Kd1 hK,h1]
 cases r with
 | none =>
   have hmk : m k = none:=by simpa using h2.symm
   refine ⟨w.putObj b (.map es clk),?_,(Touch.refl _ _).putObj (.inl (by exact rfl)) _,⟨_,_,Kcn hb,hg,fun j=>?_⟩,by simp⟩
   ·simp [setObj,Sem.run,hb,World.putObj]
   ·rw [hm]
    unfold delI
    by_cases hjk : j = k
    ·subst hjk;simp [hmk]
    ·simp [hjk]
 | some p =>
   obtain ⟨i,u⟩:=p
   obtain ⟨hlt,e,he,hke⟩:=h3 _ rfl
   have hlt' : i < es.size:=by simpa using hlt
   have hsub : (es.eraseIdxIfInBounds i).toList = es.toList.eraseIdx i:=by
    unfold Array.eraseIdxIfInBounds
    rw [dif_pos hlt']
    simp
   have hss:=List.eraseIdx_sublist es.toList i
   refine ⟨w.putObj b (.map (es.eraseIdxIfInBounds i) clk),?_,(Touch.refl _ _).putObj (.inl (by exact rfl)) _,⟨_,_,Kcn hb,⟨?_,?_,?_,?_⟩,fun j=>?_⟩,by simp⟩
   ·simp [setObj,Sem.run,hb,World.putObj]
   ·intro x hx;rw [hsub] at hx;exact hg.int x (hss.subset hx)
   ·rw [hsub];exact List.Nodup.sublist (hss.filterMap keyI) hg.keys
   ·rw [hsub];exact List.Nodup.sublist (hss.map _) hg.born
   ·intro x hx;rw [hsub] at hx;exact hg.clock x (hss.subset hx)
   ·rw [hsub,getE_erase hg.keys he (keyI_of hke),hm];rfl
theorem keys_map {es : List MapEntry} (hi : ∀ e ∈ es,∃ k,e.key = .int .i64 k) : (Kbm es).length = es.length ∧ (Kbm es).map (Value.int .i64) = es.map (·.key):=by
 induction es with
 | nil=>exact ⟨rfl,rfl⟩
 | cons e r ih =>
   obtain ⟨k,hk⟩:=hi e (by simp)
   obtain ⟨h1,h2⟩:=ih fun e he=>hi e (by simp [he])
   unfold Kbm at h1 h2 ⊢
   rw [List.filterMap_cons,keyI_of hk]
   exact ⟨by simp [h1],by simp [h2,hk]⟩
theorem insert_perm {H : Type} (x : Lit × DataW H) : ∀ l : List (Lit × DataW H),(DataW.insert x l).Perm (x :: l)
 | []=>by unfold DataW.insert;exact List.Perm.refl _
 | y :: r=>by
   unfold DataW.insert
   split
   ·exact List.Perm.refl _
   ·exact ((insert_perm x r).cons y).trans (List.Perm.swap x y r)
theorem inserts_perm {H : Type} : ∀ l : List (Lit × DataW H),(l.foldr DataW.insert []).Perm l
 | []=>List.Perm.refl _
 | x :: l=>(insert_perm x _).trans ((inserts_perm l).cons x)
theorem map_owns {H : Type} (hK : P.underlying K = some (.int .i64)) (h : IntMap w b m) {ids : List Int} (hn : ids.Nodup) (hm : ∀ k,m k ≠ none ↔ k ∈ ids) (hr : ∀ k ∈ ids,-9223372036854775808 ≤ k ∧ k ≤ 9223372036854775807) (hs : ids.length ≤ maxLen) :
 ∃ D : DataW H,w.ownsMap P K (fun _=>some (.nil,[])) b ids.length D ∧ (intKeys D).Perm ids ∧ Go.Maps.size D = ids.length:=by
 obtain ⟨es,clk,hb,hg,hgm⟩:=h
 obtain ⟨k1,k2⟩:=keys_map hg.int
 have hp : (Kbm es.toList).Perm ids:=(List.perm_ext_iff_of_nodup hg.keys hn).2 fun k=>by rw [← getE_mem,hgm,hm]
 have hl : es.size = ids.length:=by rw [← hp.length_eq,k1];simp
 have hrd : ∀ x ∈ es.toList,∃ k,x.key = .int .i64 k ∧ WideElems.rd (H:=H) P K (fun _=>some (.nil,[])) x = some (.int .i64 k,.nil):=fun x hx=>by
  obtain ⟨k,hk⟩:=hg.int x hx
  have hk2 : k ∈ ids:=hp.subset (by unfold Kbm;exact List.mem_filterMap.2 ⟨x,hx,keyI_of hk⟩)
  obtain ⟨r1,r2⟩:=hr k hk2
  refine ⟨k,hk,?_⟩
  unfold WideElems.rd
  rw [hk]
  have hw : (Lit.int .i64 k).wf = true:=by simp [Lit.wf,IntKind.min,IntKind.max,IntKind.signed,IntKind.bits];omega
  have : keyOf P K (.int .i64 k) = some (.int .i64 k):=by simp [keyOf,hK,mapKey,hw]
  rw [this]
  rfl
 refine ⟨_,⟨es,clk,hb,⟨by rw [hl];exact hs,⟨hg.clock,hg.born,?_⟩,fun x hx=>?_⟩,by omega,rfl⟩,?_,?_⟩
 ·rw [← k2]
  exact List.pairwise_map.2 (hg.keys.imp fun hne e=>hne (by cases e;rfl))
 ·obtain ⟨k,_,e⟩:=hrd x hx
  exact ⟨_,e⟩
 ·refine List.Perm.trans ?_ hp
  refine ((inserts_perm _).map _).trans ?_
  rw [List.map_map]
  have : es.toList.map ((fun p : Lit × DataW H=>Go.intOf p.1) ∘ WideElems.rg P K fun _=>some (.nil,[])) = Kbm es.toList:=by
   have hrd':=hrd
   clear hrd hp k1 k2 hl hb hgm hm hg
   generalize es.toList = l at hrd' ⊢
   induction l with
   | nil=>rfl
   | cons e r ih =>
     obtain ⟨k,hk,e2⟩:=hrd' e (by simp)
     have:=ih fun x hx=>hrd' x (by simp [hx])
     unfold Kbm at this ⊢
     rw [List.map_cons,List.filterMap_cons,keyI_of hk,this]
     simp [WideElems.rg,e2,Go.intOf]
  rw [this]
 ·show (List.foldr DataW.insert [] _).length = _
  rw [(inserts_perm _).length_eq,List.length_map]
  simpa using hl
end
section
variable {α : Type} (id : α → Int)
def Rise (l : List α) : Prop:=l.Pairwise fun a b=>id a < id b
def putBy (n : α) : List α → List α
 | []=>[n]
 | a :: l=>if id a < id n then a :: putBy n l else if id a = id n then n :: l else n :: a :: l
theorem mem_putBy {n : α} : ∀ {l : List α},Rise id l → ∀ x,x ∈ putBy id n l ↔ x = n ∨ (x ∈ l ∧ id x ≠ id n)
 | [],_,x=>by simp [putBy]
 | a :: l,h,x=>by
   have h2:=List.pairwise_cons.1 h
   unfold putBy
   split
   ·rename_i hlt
    rw [List.mem_cons,mem_putBy h2.2 x,List.mem_cons]
    constructor
    ·rintro (rfl | rfl | ⟨h3,h4⟩)
     ·exact .inr ⟨.inl rfl,by omega⟩
     ·exact .inl rfl
     ·exact .inr ⟨.inr h3,h4⟩
    ·rintro (rfl | ⟨rfl | h3,h4⟩)
     ·exact .inr (.inl rfl)
     ·exact .inl rfl
     ·exact .inr (.inr ⟨h3,h4⟩)
   ·split
    ·rename_i hlt he
     rw [List.mem_cons,List.mem_cons]
     constructor
     ·rintro (rfl | h3)
      ·exact .inl rfl
      ·have:=h2.1 x h3;exact .inr ⟨.inr h3,by omega⟩
     ·rintro (rfl | ⟨rfl | h3,h4⟩)
      ·exact .inl rfl
      ·exact absurd he h4
      ·exact .inr h3
    ·rename_i hlt he
     rw [List.mem_cons,List.mem_cons]
     constructor
     ·rintro (rfl | rfl | h3)
      ·exact .inl rfl
      ·exact .inr ⟨.inl rfl,he⟩
      ·have:=h2.1 x h3;exact .inr ⟨.inr h3,by omega⟩
     ·rintro (rfl | ⟨h3,h4⟩)
      ·exact .inl rfl
      ·exact .inr h3
theorem rise_putBy {n : α} : ∀ {l : List α},Rise id l → Rise id (putBy id n l)
 | [],_=>by simp [putBy,Rise]
 | a :: l,h=>by
   have h2:=List.pairwise_cons.1 h
   unfold putBy
   split
   ·rename_i hlt
    refine List.pairwise_cons.2 ⟨fun x hx=>?_,rise_putBy h2.2⟩
    rcases (mem_putBy id h2.2 x).1 hx with rfl | ⟨h3,_⟩
    ·exact hlt
    ·exact h2.1 x h3
   ·split
    ·rename_i hlt he
     exact List.pairwise_cons.2 ⟨fun x hx=>by have:=h2.1 x hx;omega,h2.2⟩
    ·rename_i hlt he
     refine List.pairwise_cons.2 ⟨fun x hx=>?_,h⟩
     rcases List.mem_cons.1 hx with rfl | h3
     ·omega
     ·have:=h2.1 x h3;omega
theorem putBy_end {n : α} : ∀ {l : List α},(∀ a ∈ l,id a < id n) → putBy id n l = l ++ [n]
 | [],_=>rfl
 | a :: l,h=>by
   unfold putBy
   rw [if_pos (h a (by simp)),putBy_end fun x hx=>h x (by simp [hx])]
   rfl
theorem rise_eq {l m : List Int} (hl : l.Pairwise (· < ·)) (hm : m.Pairwise (· ≤ ·)) (hp : m.Perm l) : m = l :=
 List.Perm.eq_of_pairwise (le:=(· ≤ ·)) (fun a b _ _ h1 h2=>Int.le_antisymm h1 h2) hm (hl.imp fun h=>Int.le_of_lt h) hp
end
theorem putN_eq (n : NodeD) : ∀ l,putN n l = putBy NodeD.id n l
 | []=>rfl
 | a :: l=>by unfold putN putBy;rw [putN_eq n l]
theorem putR_eq (n : RelD) : ∀ l,putR n l = putBy RelD.id n l
 | []=>rfl
 | a :: l=>by unfold putR putBy;rw [putR_eq n l]
section
variable {α : Type} {Ek : World → (Nat → Prop) → α → Array Value → Prop} {n : Nat} {id : α → Int} {w W W' : World} {Q Q' : Nat → Prop} {b : Nat} {l : List α} {P : Program} {T K E : TypeId}
def i64R (k : Int) : Prop:=-9223372036854775808 ≤ k ∧ k ≤ 9223372036854775807
def MapOf (Ek : World → (Nat → Prop) → α → Array Value → Prop) (id : α → Int) (W : World) (Q : Nat → Prop) (b : Nat) (l : List α) : Prop :=
 ∃ m,IntMap W b m ∧ Rise id l ∧ (∀ a ∈ l,i64R (id a)) ∧ (∀ k,m k ≠ none ↔ ∃ a ∈ l,id a = k) ∧ ∀ a ∈ l,∃ x,m (id a) = some (.agg x) ∧ Ek W Q a x
theorem MapOf.lt (h : MapOf Ek id W Q b l) : b < W.heap.size:=by obtain ⟨m,h1,_⟩:=h;exact h1.lt
theorem MapOf.rise (h : MapOf Ek id W Q b l) : Rise id l:=by obtain ⟨m,_,h1,_⟩:=h;exact h1
theorem MapOf.range (h : MapOf Ek id W Q b l) : ∀ a ∈ l,i64R (id a):=by obtain ⟨m,_,_,h1,_⟩:=h;exact h1
theorem MapOf.fresh (h : W.heap[b]? = some (.map #[] 0)) : MapOf Ek id W Q b ([] : List α) :=
 ⟨_,IntMap.fresh h,List.Pairwise.nil,fun a h=>by simp at h,fun k=>by simp,fun a h=>by simp at h⟩
theorem MapOf.keep (hE : EL Ek n) (h : MapOf Ek id W Q b l) (hb : W'.heap[b]? = W.heap[b]?) (hk : ∀ c,Q c → c < W.heap.size → W'.heap[c]? = W.heap[c]?) : MapOf Ek id W' Q b l:=by
 obtain ⟨m,h1,h2,h3,h4,h5⟩:=h
 refine ⟨m,h1.of_heap hb,h2,h3,h4,fun a ha=>?_⟩
 obtain ⟨x,e,hx⟩:=h5 a ha
 exact ⟨x,e,hE.keep hk hx⟩
theorem MapOf.imp (hE : EL Ek n) (h : MapOf Ek id W Q b l) (hp : ∀ c,c < W.heap.size → Q c → Q' c) : MapOf Ek id W Q' b l:=by
 obtain ⟨m,h1,h2,h3,h4,h5⟩:=h
 refine ⟨m,h1,h2,h3,h4,fun a ha=>?_⟩
 obtain ⟨x,e,hx⟩:=h5 a ha
 exact ⟨x,e,hE.imp hp hx⟩
theorem MapOf.put (hE : EL Ek n) (h : MapOf Ek id W Q b l) (hT : P.underlying T = some (.map K E)) (hK : P.underlying K = some (.int .i64)) {a : α} {x : Array Value} (hx : Ek W Q a x) (hr : i64R (id a)) (hq : ¬ Q b) :
 ∃ W',(Instr.mapUpdate T (.map (some b)) (.int .i64 (id a)) (.agg x)).run P W = .ok () W' ∧ MapOf Ek id W' Q b (putBy id a l) ∧ Touch (fun c=>c = b) W W' ∧ W'.heap.size = W.heap.size:=by
 obtain ⟨m,h1,h2,h3,h4,h5⟩:=h
 obtain ⟨W',r1,r2,r3,r4⟩:=Kew h1 hT hK (id a) (.agg x)
 have hk : ∀ c,Q c → c < W.heap.size → W'.heap[c]? = W.heap[c]?:=fun c hc hl=>r2.block c hl fun e=>hq (by rw [← e];exact hc)
 have hmem:=mem_putBy id (n:=a) h2
 refine ⟨W',r1,⟨_,r3,rise_putBy id h2,fun y hy=>?_,fun k=>?_,fun y hy=>?_⟩,r2,r4⟩
 ·rcases (hmem y).1 hy with rfl | ⟨h6,_⟩
  ·exact hr
  ·exact h3 y h6
 ·unfold updI
  by_cases e : k = id a
  ·rw [if_pos e]
   exact ⟨fun _=>⟨a,(hmem a).2 (.inl rfl),e.symm⟩,fun _=>by simp⟩
  ·rw [if_neg e,h4]
   constructor
   ·rintro ⟨y,hy,rfl⟩;exact ⟨y,(hmem y).2 (.inr ⟨hy,e⟩),rfl⟩
   ·rintro ⟨y,hy,rfl⟩
    rcases (hmem y).1 hy with rfl | ⟨h6,_⟩
    ·exact absurd rfl e
    ·exact ⟨y,h6,rfl⟩
 ·unfold updI
  rcases (hmem y).1 hy with rfl | ⟨h6,h7⟩
  ·exact ⟨x,by rw [if_pos rfl],hE.keep hk hx⟩
  ·obtain ⟨z,e,hz⟩:=h5 y h6
   exact ⟨z,by rw [if_neg h7,e],hE.keep hk hz⟩
theorem MapOf.del (hE : EL Ek n) (h : MapOf Ek id W Q b l) (hT : P.underlying T = some (.map K E)) (hK : P.underlying K = some (.int .i64)) (k : Int) (hq : ¬ Q b) (T2 ty : TypeId) :
 ∃ W',(Builtin.delete_ #[T,T2] ty #[.map (some b),.int .i64 k]).run P W = .ok (.tuple #[]) W' ∧ MapOf Ek id W' Q b (l.filter fun y=>!(id y == k)) ∧ Touch (fun c=>c = b) W W' ∧ W'.heap.size = W.heap.size:=by
 obtain ⟨m,h1,h2,h3,h4,h5⟩:=h
 obtain ⟨W',r1,r2,r3,r4⟩:=run_delete_int h1 hT hK k T2 ty
 have hk : ∀ c,Q c → c < W.heap.size → W'.heap[c]? = W.heap[c]?:=fun c hc hl=>r2.block c hl fun e=>hq (by rw [← e];exact hc)
 have hmem : ∀ y,y ∈ (l.filter fun y=>!(id y == k)) ↔ y ∈ l ∧ id y ≠ k:=fun y=>by simp [List.mem_filter]
 refine ⟨W',r1,⟨_,r3,List.Pairwise.sublist List.filter_sublist h2,fun y hy=>h3 y ((hmem y).1 hy).1,fun j=>?_,fun y hy=>?_⟩,r2,r4⟩
 ·unfold delI
  by_cases e : j = k
  ·rw [if_pos e]
   refine ⟨fun h=>absurd rfl h,?_⟩
   rintro ⟨y,hy,rfl⟩
   exact absurd e ((hmem y).1 hy).2
  ·rw [if_neg e,h4]
   constructor
   ·rintro ⟨y,hy,rfl⟩;exact ⟨y,(hmem y).2 ⟨hy,e⟩,rfl⟩
   ·rintro ⟨y,hy,rfl⟩;exact ⟨y,((hmem y).1 hy).1,rfl⟩
 ·obtain ⟨h6,h7⟩:=(hmem y).1 hy
  obtain ⟨z,e,hz⟩:=h5 y h6
  exact ⟨z,by unfold delI;rw [if_neg h7,e],hE.keep hk hz⟩
theorem MapOf.get (h : MapOf Ek id W Q b l) (hT : P.underlying T = some (.map K E)) (hK : P.underlying K = some (.int .i64)) {z : Value} (hz : ∀ w,(zeroValue E).run P w = .ok z w) {a : α} (ha : a ∈ l) :
 ∃ x,(Instr.lookup T (.map (some b)) (.int .i64 (id a)) false).run P W = .ok (.agg x) W ∧ Ek W Q a x:=by
 obtain ⟨m,h1,h2,h3,h4,h5⟩:=h
 obtain ⟨x,e,hx⟩:=h5 a ha
 refine ⟨x,?_,hx⟩
 rw [Kdr h1 hT hK hz,e]
 rfl
theorem MapOf.nums (h : MapOf Ek id W Q b l) : (l.map id).Nodup ∧ (l.map id).Pairwise (· < ·) ∧ (∀ k ∈ l.map id,i64R k):=by
 have h2 : (l.map id).Pairwise (· < ·):=List.pairwise_map.2 h.rise
 refine ⟨h2.imp fun h e=>by omega,h2,fun k hk=>?_⟩
 obtain ⟨a,ha,rfl⟩:=List.mem_map.1 hk
 exact h.range a ha
theorem MapOf.owns {H : Type} (h : MapOf Ek id W Q b l) (hK : P.underlying K = some (.int .i64)) (hs : l.length ≤ maxLen) :
 ∃ D : DataW H,W.ownsMap P K (fun _=>some (.nil,[])) b l.length D ∧ (intKeys D).Perm (l.map id) ∧ Go.Maps.size D = l.length:=by
 obtain ⟨n1,n2,n3⟩:=h.nums
 obtain ⟨m,h1,h2,h3,h4,h5⟩:=h
 have:=map_owns (H:=H) hK h1 n1 (fun k=>by rw [h4,List.mem_map]) n3 (by simpa using hs)
 simpa using this
end
def PsOk (l : List PropD) : Prop:=l.length ≤ 1000000 ∧ ∀ p ∈ l,totV p.val ≤ 1000000
theorem PsOk.of {l : List PropD} (h : totPs l ≤ 1000000) : PsOk l:=by
 refine ⟨Nat.le_trans (Kcb totP fun p _=>by unfold totP;omega) h,fun p hp=>?_⟩
 have:=Kbb totP hp
 unfold totPs at h
 unfold totP at this h
 omega
theorem fa_prop0 (b : Nat) (W : World) : (Instr.fieldAt 136 (.pointer (some ⟨b,0,none⟩)) 0).run Tryz.prog W = .ok (.pointer (some ⟨b,0,none⟩)) W:=by simp [go_sem]
theorem fa_prop1 (b : Nat) (W : World) : (Instr.fieldAt 136 (.pointer (some ⟨b,0,none⟩)) 1).run Tryz.prog W = .ok (.pointer (some ⟨b,1,none⟩)) W:=by simp [go_sem]
theorem exec_buildProp {a : Act} {w : World} {o : Oper} {x0 x1 : Operand} {s : ByteArray} {k0 k1 k2 k3 k4 k5 : Value} (ho : o.op = .build 136 #[(0,x0),(1,x1)]) (h0 : a.eval x0 = .string s) (h1 : a.eval x1 = .agg #[k0,k1,k2,k3,k4,k5]) : (execOp a.eval o).run Tryz.prog w = .ok (.value (.agg #[.string s,k0,k1,k2,k3,k4,k5])) w:=by
 unfold execOp;simp [ho,go_sem,h0,h1,Act.eval] at h0 h1 ⊢;simp [h0,h1]
theorem copyProps_any {w : World} {p : Option Addr} {c : Nat} {l : List PropD} (h : GRd PRd 7 w p c l) (ho : PsOk l) : Calls Tryz.prog 134 #[.slice p l.length c] w fun e w'=>∃ v,e = .returned v ∧ GOwn POwn 136 7 w' (fun b=>w.heap.size ≤ b) v l ∧ Below w.heap.size w w':=by
 have z1 : (l.length : Int) ≤ 140737488355328:=by have:=h.1.2.1;omega
 have H:=yh h
 have HO:=yh ho
 clear h ho
 go_enter Tryz.func134,Tryz.ntmps134
 go_wp2
 go_loopw [3,8] (fun o i wr=>∃ (j n : Nat) (p : Option Addr) (c : Nat),j ≤ l.length ∧ i = .int .i64 (j : Int) ∧ o = .slice p n c ∧ Hid (GInv POwn 136 7 w wr (.slice p n c) (l.take j))) (fun _ i _=>l.length - (intOf i).toNat)
 case atStart=>exact ⟨0,0,none,0,Nat.zero_le _,rfl,rfl,yh (GInv.start (Below.refl _ _))⟩
 case round =>
  obtain ⟨j,no,po,co,hj,rfl,rfl,HJ⟩:=hrel
  by_cases hlt : j < l.length
  ·have hlt1 : j + 1 ≤ l.length:=hlt
   have htk : l.take (j + 1) = l.take j ++ [l[j]]:=List.take_succ_eq_append_getElem hlt
   have hbw:=HJ.out.b
   obtain ⟨b,of,cs,rfl,hs,hc,hv⟩:=H.out.get hlt
   have htv:=HO.out.2 l[j] (List.getElem_mem hlt)
   have hl1 : (l.take j).length ≤ 1000000:=by rw [List.length_take];have:=HO.out.1;omega
   have hv2:=hv
   obtain ⟨xv,ex,hkx,hvx⟩:=hv
   have hbn:=Kac (w:=wr) (.cells cs 136)
   have hbx:=heap_alloc_new wr (.cells cs 136)
   have k0 : cs[0]? = some (.string (strB l[j].key)):=by rw [ex,Array.getElem?_append_left (by simp)];rfl
   have k1 : ∀ (i : Nat) (u : Value),xv[i]? = some u → cs[1 + i]? = some u:=fun i u hu=>by rw [ex,Array.getElem?_append_right (by simp)];simpa using hu
   have HL1:=yh (StT.load (P:=Tryz.prog) (g:=b) (o:=of + j * 7) (W:=wr) Kco hs fun i u hu=>Kak hbw (ltOf (hc i u hu)) (hc i u hu))
   have HS1:=yh (StT.fresh Kco hs (Kfa.ones hv2) (W:=wr))
   have p0:=Kab (o:=0) hbx k0
   have hS0 : (wr.alloc (.cells cs 136)).drew.heap[wr.heap.size]? = some (.cells cs 136 (0,0)):=hbx
   have hlv : ∀ W : World,W.heap[wr.heap.size]? = some (.cells cs 136 (0,0)) → (loadVar 48 ⟨wr.heap.size,1,none⟩).run Tryz.prog W = .ok (.agg xv) W:=fun W hW=>StT.load (P:=Tryz.prog) (g:=wr.heap.size) (o:=1) (W:=W) Kbp (Kec.size hvx) fun i u hu=>Kab (o:=1 + i) hW (k1 i u hu)
   have hbd:=hbn.drew
   have hcall:=copy_any l[j].val htv (wr.alloc (.cells cs 136)).drew xv ((hvx.below hbw).below hbd)
   have hsz1 : (wr.alloc (.cells cs 136)).heap.size = wr.heap.size + 1:=by simp
   have HX:=yh (And.intro htk (And.intro hbd (And.intro hl1 (And.intro hS0 (And.intro hlv (And.intro hcall (And.intro k0 hsz1)))))))
   generalize l[j] = lj at *
   clear htk hbw hbn hbd hbx k0 k1 hl1 htv hv2 ex hkx hvx hs hc hS0 hlv hcall hsz1 p0
   go_wp2_with (first
    | ((with_reducible apply Kal);exact HL1.out;exact rfl;clear HL1)
    | ((with_reducible apply Kae);exact HS1.out _ rfl;exact rfl;exact rfl;clear HS1))
   obtain ⟨htk,hbd,hl1,hS0,hlv,hcall,k0,hsz1⟩:=HX.out
   refine Kaj (fun W=>W.heap[wr.heap.size]? = some (.cells cs 136 (0,0))) (by kernel_rfl) hS0 (fun hS=>?_)
   refine tk 0 12 (v:=.slice po no co) rfl rfl (fun W hW=>Kah rfl rfl) ?_
   simp only [Act.put,sA,sZ,sS]
   refine tk 1 13 (v:=.pointer (some ⟨wr.heap.size,0,none⟩)) rfl rfl (fun W hW=>Kad rfl rfl (fa_prop0 _ W)) ?_
   simp only [Act.put,sA,sZ,sS]
   refine tk 2 14 (v:=.string (strB lj.key)) rfl rfl (fun W hW=>Kaf rfl rfl (Kag (w:=W) Tryz.underlying9 rfl (Kab (o:=0) hW k0))) ?_
   simp only [Act.put,sA,sZ,sS]
   refine tk 3 15 (v:=.pointer (some ⟨wr.heap.size,1,none⟩)) rfl rfl (fun W hW=>Kad rfl rfl (fa_prop1 _ W)) ?_
   simp only [Act.put,sA,sZ,sS]
   refine tk 4 16 (v:=.agg xv) rfl rfl (fun W hW=>Kaf rfl rfl (hlv W hW)) ?_
   simp only [Act.put,sA,sZ,sS]
   refine Kau 5 17 rfl rfl (by kernel_rfl) rfl (Kaq [.agg xv] rfl rfl Tryz.func160 (by kernel_rfl) (by kernel_rfl)) ?_
   refine hcall.mono ?_
   rintro e W5 ⟨x,rfl,hx,hb⟩
   have hs:=hx.size6
   obtain ⟨u0,u1,u2,u3,u4,u5,rfl⟩:=six hs
   clear hs
   have hb1:=Kaa hbd hb
   have hsz : wr.heap.size ≤ W5.heap.size:=hb1.size
   have hS5 : W5.heap[wr.heap.size]? = some (.cells cs 136 (0,0)):=(hb.block _ (by show wr.heap.size < (wr.alloc (.cells cs 136)).heap.size;omega)).trans hS
   have hp : POwn W5 (fun b=>wr.heap.size + 1 ≤ b) lj (#[.string (strB lj.key)] ++ #[u0,u1,u2,u3,u4,u5]):=⟨_,rfl,hx.imp fun b _ hb=>by have hb' : (wr.alloc (.cells cs 136)).heap.size ≤ b:=hb;omega⟩
   obtain ⟨v',W6,a1,a2,a3⟩:=HJ.out.step Kb2 gt_prop (W1:=W5) (Nat.le_succ _) (fun b _ hb=>hb1.block b hb) (Kaa HJ.out.b hb1) hsz hp hl1 68
   rw [← htk] at a2
   obtain ⟨p6,c6,rfl⟩:=a2.slice
   generalize (l.take (j + 1)).length = n6 at *
   have e7 : #[Value.string (strB lj.key)] ++ #[u0,u1,u2,u3,u4,u5] = #[Value.string (strB lj.key),u0,u1,u2,u3,u4,u5]:=rfl
   rw [e7] at a1 a3
   have hbs:=Kap (P:=Tryz.prog) (w:=W5) (v:=.agg #[.string (strB lj.key),u0,u1,u2,u3,u4,u5]) Tryz.underlying68 Tryz.sizeOf136 Tryz.zeroValue136 rfl (by omega) (by omega)
   have hS7 : (W5.alloc (.cells #[.string (strB lj.key),u0,u1,u2,u3,u4,u5] 136)).heap[wr.heap.size]? = some (.cells cs 136 (0,0)):=Kai (Kac _) (Array.getElem?_eq_some_iff.1 hS5).1 hS5
   have hS8 : W6.heap[wr.heap.size]? = some (.cells cs 136 (0,0)):=(a3.block _ (Array.getElem?_eq_some_iff.1 hS7).1 (fun e=>by obtain ⟨xs,h1,_⟩:=HJ.out;have:=(h1.1.lt _ e).2;omega)).trans hS7
   refine ⟨_,rfl,.inr hS5,?_⟩
   simp only [Act.put,sA,sZ,sS]
   refine tk 6 18 (v:=.agg #[.string (strB lj.key),u0,u1,u2,u3,u4,u5]) rfl rfl (fun W hW=>exec_buildProp rfl rfl rfl) ?_
   simp only [Act.put,sA,sZ,sS]
   refine Kc7 7 19 (v:=.slice (some ⟨W5.heap.size,0,none⟩) 1 1) rfl rfl (by kernel_rfl) rfl (Kbq rfl rfl hbs) (.inr (by assumption)) ?_
   simp only [Act.put,sA,sZ,sS]
   refine Kc7 8 20 (v:=.slice p6 n6 c6) rfl rfl (by kernel_rfl) rfl (Kc8 rfl rfl rfl a1) (.inr (by assumption)) ?_
   simp only [Act.put,sA,sZ,sS]
   refine tk 9 3 (v:=.slice p6 n6 c6) rfl rfl (fun W hW=>Kaz rfl rfl) ?_
   simp only [Act.put,sA,sZ,sS]
   refine done (by kernel_rfl) ?_ _
   have HN:=yh a2
   clear htk hbd hl1 hS0 hlv hcall k0 hsz1 hS hS5 hS7 hS8 hb hb1 hsz hp a1 a2 a3 e7 hbs hx HX HJ
   go_wp2
   go_roundw
   case rel=>exact ⟨j + 1,_,_,_,hlt1,by go_num,rfl,HN⟩
   case measure=>simp [intOf];omega
  ·obtain rfl : j = l.length:=by omega
   go_wp2
   go_ret
   have h:=HJ.out
   rw [List.take_length] at h
   exact ⟨_,rfl,h.own Kb2,h.b⟩
theorem fa_node (i : Nat) (h : i < 3) (b : Nat) (W : World) : (Instr.fieldAt 70 (.pointer (some ⟨b,0,none⟩)) i).run Tryz.prog W = .ok (.pointer (some ⟨b,i,none⟩)) W:=by
 match i,h with
 | 0,_=>simp [go_sem]
 | 1,_=>simp [go_sem]
 | 2,_=>simp [go_sem]
theorem exec_buildNode {a : Act} {w : World} {o : Oper} {x0 x1 x2 : Operand} {n : Int} {p q : Option Addr} {m c k d : Nat} (ho : o.op = .build 70 #[(0,x0),(1,x1),(2,x2)]) (h0 : a.eval x0 = .int .i64 n) (h1 : a.eval x1 = .slice p m c) (h2 : a.eval x2 = .slice q k d) : (execOp a.eval o).run Tryz.prog w = .ok (.value (.agg #[.int .i64 n,.slice p m c,.slice q k d])) w:=by
 unfold execOp;simp [ho,go_sem,h0,h1,h2,Act.eval] at h0 h1 h2 ⊢;simp [h0,h1,h2]
theorem copyNode_end {w W6 : World} {a : NodeD} {pv pw : Option Addr} {cv cw : Nat} {cur : Array Value} (h9 : W6.heap[w.heap.size + 1]? = some (.cells cur 70 (0,0))) (hc : cur.size = 3) (h1 : OwnsP W6 (fun b=>w.heap.size + 2 ≤ b) 9 1 (.slice pv a.labels.length cv) a.labels.length (a.labels.map strV)) (h2 : GOwn POwn 136 7 W6 (fun b=>w.heap.size + 2 ≤ b) (.slice pw a.props.length cw) a.props) (hb : Below w.heap.size w W6) :
 ∃ W7,(storeVar 70 ⟨w.heap.size + 1,0,none⟩ (.agg #[.int .i64 a.id,.slice pv a.labels.length cv,.slice pw a.props.length cw])).run Tryz.prog W6 = .ok () W7 ∧ (loadVar 70 ⟨w.heap.size + 1,0,none⟩).run Tryz.prog W7 = .ok (.agg #[.int .i64 a.id,.slice pv a.labels.length cv,.slice pw a.props.length cw]) W7 ∧ NOwn W7 (fun b=>w.heap.size ≤ b) a #[.int .i64 a.id,.slice pv a.labels.length cv,.slice pw a.props.length cw] ∧ Below w.heap.size w W7:=by
 have hk : ∀ b,b ≠ w.heap.size + 1 → (W6.setRow (w.heap.size + 1) #[.int .i64 a.id,.slice pv a.labels.length cv,.slice pw a.props.length cw]).heap[b]? = W6.heap[b]?:=fun b hb=>setRow_other W6 _ b _ hb
 exact ⟨_,StT.put (P:=Tryz.prog) Kbo rfl (by simp [Value.oneCell']) h9 hc,StT.get (P:=Tryz.prog) Kbo rfl (setRow_heap W6 _ _ _ _ _ h9),
  ⟨_,_,rfl,(h1.keep fun b hb _=>hk b (by omega)).imp fun b _ hb=>by omega,(h2.keep Kb2 fun b hb _=>hk b (by omega)).imp Kb2 fun b _ hb=>by omega⟩,Kbz hb (by omega) _⟩
theorem copyNode_any {w : World} {a : NodeD} {x : Array Value} (ha : NRd w a x) (hl : a.labels.length ≤ 1000000) (ho : PsOk a.props) : Calls Tryz.prog 89 #[.agg x] w fun e w'=>∃ cs,e = .returned (.agg cs) ∧ NOwn w' (fun b=>w.heap.size ≤ b) a cs ∧ Below w.heap.size w w':=by
 obtain ⟨pl,cl,pp,cp,rfl,hls,hps⟩:=ha
 have hb1:=Kac (w:=w) (.cells #[.int .i64 a.id,.slice pl a.labels.length cl,.slice pp a.props.length cp] 70)
 have hb2:=Kac (w:=w.alloc (.cells #[.int .i64 a.id,.slice pl a.labels.length cl,.slice pp a.props.length cp] 70)) (.cells #[.int .i64 0,.slice none 0 0,.slice none 0 0] 70)
 have hbc : Below w.heap.size w ((w.alloc (.cells #[.int .i64 a.id,.slice pl a.labels.length cl,.slice pp a.props.length cp] 70)).alloc (.cells #[.int .i64 0,.slice none 0 0,.slice none 0 0] 70)):=Kaa hb1 hb2
 have hx8:=Kai hb2 (by simp) (heap_alloc_new w (.cells #[.int .i64 a.id,.slice pl a.labels.length cl,.slice pp a.props.length cp] 70))
 have hx9:=heap_alloc_new (w.alloc (.cells #[.int .i64 a.id,.slice pl a.labels.length cl,.slice pp a.props.length cp] 70)) (.cells #[.int .i64 0,.slice none 0 0,.slice none 0 0] 70)
 simp only [World.size_alloc] at hx9
 have hsz : ((w.alloc (.cells #[.int .i64 a.id,.slice pl a.labels.length cl,.slice pp a.props.length cp] 70)).alloc (.cells #[.int .i64 0,.slice none 0 0,.slice none 0 0] 70)).heap.size = w.heap.size + 2:=by simp
 have hS0 : ((w.alloc (.cells #[.int .i64 a.id,.slice pl a.labels.length cl,.slice pp a.props.length cp] 70)).alloc (.cells #[.int .i64 0,.slice none 0 0,.slice none 0 0] 70)).drew.heap[w.heap.size]? = some (.cells #[.int .i64 a.id,.slice pl a.labels.length cl,.slice pp a.props.length cp] 70 (0,0)):=hx8
 have hc1:=clone_any (hls.below hbc.drew) hl
 have hc2:=fun W (g : Below w.heap.size w W)=>copyProps_any (hps.below (fun h=>h.below g) g) ho
 have HX:=yh (And.intro hx9 (And.intro hbc.drew (And.intro hsz (And.intro hS0 (And.intro hc1 hc2)))))
 clear hb1 hb2 hbc hx8 hx9 hsz hls hps hl ho hS0 hc1 hc2
 go_enter Tryz.func89,Tryz.ntmps89
 go_wp2
 obtain ⟨hx9,hbd,hsz,hS0,hc1,hc2⟩:=HX.out
 refine Kaj (fun W=>W.heap[w.heap.size]? = some (.cells #[.int .i64 a.id,.slice pl a.labels.length cl,.slice pp a.props.length cp] 70 (0,0))) (by kernel_rfl) hS0 (fun hS=>?_)
 refine tk 0 3 (v:=.pointer (some ⟨w.heap.size,0,none⟩)) rfl rfl (fun W hW=>Kad rfl rfl (fa_node 0 (by omega) _ W)) ?_
 simp only [Act.put,sA,sZ,sS]
 refine tk 1 4 (v:=.int .i64 a.id) rfl rfl (fun W hW=>Kaf rfl rfl (Kag (w:=W) Tryz.underlying2 rfl (Kab (o:=0) hW rfl))) ?_
 simp only [Act.put,sA,sZ,sS]
 refine tk 2 5 (v:=.pointer (some ⟨w.heap.size,1,none⟩)) rfl rfl (fun W hW=>Kad rfl rfl (fa_node 1 (by omega) _ W)) ?_
 simp only [Act.put,sA,sZ,sS]
 refine tk 3 6 (v:=.slice pl a.labels.length cl) rfl rfl (fun W hW=>Kaf rfl rfl (Kag (w:=W) Tryz.underlying45 rfl (Kab (o:=1) hW rfl))) ?_
 simp only [Act.put,sA,sZ,sS]
 refine tk 5 8 (v:=.pointer (some ⟨w.heap.size,2,none⟩)) rfl rfl (fun W hW=>Kad rfl rfl (fa_node 2 (by omega) _ W)) ?_
 simp only [Act.put,sA,sZ,sS]
 refine tk 6 9 (v:=.slice pp a.props.length cp) rfl rfl (fun W hW=>Kaf rfl rfl (Kag (w:=W) Tryz.underlying68 rfl (Kab (o:=2) hW rfl))) ?_
 simp only [Act.put,sA,sZ,sS]
 refine Kau 4 7 rfl rfl (by kernel_rfl) rfl (Kaq [.slice pl a.labels.length cl] rfl rfl Tryz.func133 (by kernel_rfl) (by kernel_rfl)) ?_
 refine hc1.mono ?_
 rintro e W4 ⟨v,rfl,ho1,hb4⟩
 obtain ⟨pv,cv,rfl⟩:=Kbx ho1
 have hS4 : W4.heap[w.heap.size]? = some (.cells #[.int .i64 a.id,.slice pl a.labels.length cl,.slice pp a.props.length cp] 70 (0,0)):=(hb4.block _ (by show w.heap.size < ((w.alloc (.cells #[.int .i64 a.id,.slice pl a.labels.length cl,.slice pp a.props.length cp] 70)).alloc (.cells #[.int .i64 0,.slice none 0 0,.slice none 0 0] 70)).heap.size;omega)).trans hS
 refine ⟨_,rfl,.inr hS4,?_⟩
 simp only [Act.put,sA,sZ,sS]
 refine Kau 7 10 rfl rfl (by kernel_rfl) rfl (Kaq [.slice pp a.props.length cp] rfl rfl Tryz.func134 (by kernel_rfl) (by kernel_rfl)) ?_
 refine (hc2 _ (Kaa hbd hb4)).mono ?_
 rintro e W7 ⟨v,rfl,ho2,hb7⟩
 obtain ⟨pw,cw,rfl⟩:=ho2.slice
 have hS7 : W7.heap[w.heap.size]? = some (.cells #[.int .i64 a.id,.slice pl a.labels.length cl,.slice pp a.props.length cp] 70 (0,0)):=(hb7.block _ (Array.getElem?_eq_some_iff.1 hS4).1).trans hS4
 have h4 : ((w.alloc (.cells #[.int .i64 a.id,.slice pl a.labels.length cl,.slice pp a.props.length cp] 70)).alloc (.cells #[.int .i64 0,.slice none 0 0,.slice none 0 0] 70)).heap.size ≤ W4.heap.size:=hb4.size
 have h9:=Kai (Kaa hb4 hb7) (show w.heap.size + 1 < ((w.alloc (.cells #[.int .i64 a.id,.slice pl a.labels.length cl,.slice pp a.props.length cp] 70)).alloc (.cells #[.int .i64 0,.slice none 0 0,.slice none 0 0] 70)).heap.size by omega) hx9
 obtain ⟨W8,q1,q2,q3,q4⟩:=copyNode_end h9 rfl ((ho1.keep fun b _ hb=>hb7.block b hb).imp fun b _ hb=>by have hb' : ((w.alloc (.cells #[.int .i64 a.id,.slice pl a.labels.length cl,.slice pp a.props.length cp] 70)).alloc (.cells #[.int .i64 0,.slice none 0 0,.slice none 0 0] 70)).heap.size ≤ b:=hb;omega) (ho2.imp Kb2 fun b _ hb=>by omega) (Kaa (Kaa hbd hb4) hb7)
 refine ⟨_,rfl,.inr hS7,?_⟩
 simp only [Act.put,sA,sZ,sS]
 refine tk 8 11 (v:=.agg #[.int .i64 a.id,.slice pv a.labels.length cv,.slice pw a.props.length cw]) rfl rfl (fun W hW=>exec_buildNode rfl rfl rfl rfl) ?_
 simp only [Act.put,sA,sZ,sS]
 refine Kca 9 rfl rfl (by kernel_rfl) rfl (Kb4 rfl rfl rfl q1) (.inl (by kernel_rfl)) ?_
 refine done (by kernel_rfl) ?_ _
 have HF:=yh (And.intro q3 q4)
 have HLD:=yh q2
 clear hx9 hbd hsz hS0 hc1 hc2 hS hS4 hS7 hb4 hb7 h4 q1 q2 q3 q4 HX h9 ho1 ho2
 go_wp2
 refine bodyPost_ret (Kan rfl _ _ ⟨w.heap.size + 1,0,none⟩ _ rfl HLD.out) rfl ?_
 exact ⟨_,rfl,HF.out⟩
theorem copyRel_end {w W6 : World} {a : RelD} {pp pw : Option Addr} {cp cw : Nat} {cur : Array Value} (h8 : W6.heap[w.heap.size]? = some (.cells #[.int .i64 a.id,.int .i64 a.src,.int .i64 a.dst,.string (strB a.type),.slice pp a.props.length cp] 72 (0,0))) (h9 : W6.heap[w.heap.size + 1]? = some (.cells cur 72 (0,0))) (hc : cur.size = 5) (h2 : GOwn POwn 136 7 W6 (fun b=>w.heap.size + 2 ≤ b) (.slice pw a.props.length cw) a.props) (hb : Below w.heap.size w W6) :
 ∃ W7 W8,(storeVar 68 ⟨w.heap.size,4,none⟩ (.slice pw a.props.length cw)).run Tryz.prog W6 = .ok () W7 ∧ (loadVar 72 ⟨w.heap.size,0,none⟩).run Tryz.prog W7 = .ok (.agg #[.int .i64 a.id,.int .i64 a.src,.int .i64 a.dst,.string (strB a.type),.slice pw a.props.length cw]) W7 ∧ (storeVar 72 ⟨w.heap.size + 1,0,none⟩ (.agg #[.int .i64 a.id,.int .i64 a.src,.int .i64 a.dst,.string (strB a.type),.slice pw a.props.length cw])).run Tryz.prog W7 = .ok () W8 ∧ (loadVar 72 ⟨w.heap.size + 1,0,none⟩).run Tryz.prog W8 = .ok (.agg #[.int .i64 a.id,.int .i64 a.src,.int .i64 a.dst,.string (strB a.type),.slice pw a.props.length cw]) W8 ∧ ROwn W8 (fun b=>w.heap.size ≤ b) a #[.int .i64 a.id,.int .i64 a.src,.int .i64 a.dst,.string (strB a.type),.slice pw a.props.length cw] ∧ Below w.heap.size w W8:=by
 have h8':=Kcd (k:=4) (.slice pw a.props.length cw) h8
 simp only [List.setIfInBounds_toArray,List.set_cons_zero,List.set_cons_succ] at h8'
 have ho : ∀ b,b ≠ w.heap.size → (W6.setCell ⟨w.heap.size,4,none⟩ (.slice pw a.props.length cw)).heap[b]? = W6.heap[b]?:=fun b hb=>Below.heap_setCell _ ⟨w.heap.size,4,none⟩ _ b hb
 have h9':=(ho (w.heap.size + 1) (by omega)).trans h9
 have hk : ∀ b,b ≠ w.heap.size → b ≠ w.heap.size + 1 → ((W6.setCell ⟨w.heap.size,4,none⟩ (.slice pw a.props.length cw)).setRow (w.heap.size + 1) #[.int .i64 a.id,.int .i64 a.src,.int .i64 a.dst,.string (strB a.type),.slice pw a.props.length cw]).heap[b]? = W6.heap[b]?:=fun b h1 h2=>(setRow_other _ _ b _ h2).trans (ho b h1)
 exact ⟨_,_,put_props (Kab (o:=4) h8 rfl) (Kav (o:=4) h8),StT.get (P:=Tryz.prog) Kcf rfl h8',StT.put (P:=Tryz.prog) Kcf rfl (by simp [Value.oneCell']) h9' hc,StT.get (P:=Tryz.prog) Kcf rfl (setRow_heap _ _ _ _ _ _ h9'),
  ⟨_,rfl,(h2.keep Kb2 fun b hb _=>hk b (by omega) (by omega)).imp Kb2 fun b _ hb=>by omega⟩,Kbz (Kbh hb (Nat.le_refl _) _) (by omega) _⟩
theorem copyRel_any {w : World} {a : RelD} {x : Array Value} (ha : RRd w a x) (ho : PsOk a.props) : Calls Tryz.prog 90 #[.agg x] w fun e w'=>∃ cs,e = .returned (.agg cs) ∧ ROwn w' (fun b=>w.heap.size ≤ b) a cs ∧ Below w.heap.size w w':=by
 obtain ⟨pp,cp,rfl,hty,hps⟩:=ha
 have hb1:=Kac (w:=w) (.cells #[.int .i64 a.id,.int .i64 a.src,.int .i64 a.dst,.string (strB a.type),.slice pp a.props.length cp] 72)
 have hb2:=Kac (w:=w.alloc (.cells #[.int .i64 a.id,.int .i64 a.src,.int .i64 a.dst,.string (strB a.type),.slice pp a.props.length cp] 72)) (.cells #[.int .i64 0,.int .i64 0,.int .i64 0,.string ⟨#[]⟩,.slice none 0 0] 72)
 have hbc : Below w.heap.size w ((w.alloc (.cells #[.int .i64 a.id,.int .i64 a.src,.int .i64 a.dst,.string (strB a.type),.slice pp a.props.length cp] 72)).alloc (.cells #[.int .i64 0,.int .i64 0,.int .i64 0,.string ⟨#[]⟩,.slice none 0 0] 72)):=Kaa hb1 hb2
 have hx8:=Kai hb2 (by simp) (heap_alloc_new w (.cells #[.int .i64 a.id,.int .i64 a.src,.int .i64 a.dst,.string (strB a.type),.slice pp a.props.length cp] 72))
 have hx9:=heap_alloc_new (w.alloc (.cells #[.int .i64 a.id,.int .i64 a.src,.int .i64 a.dst,.string (strB a.type),.slice pp a.props.length cp] 72)) (.cells #[.int .i64 0,.int .i64 0,.int .i64 0,.string ⟨#[]⟩,.slice none 0 0] 72)
 simp only [World.size_alloc] at hx9
 have hsz : ((w.alloc (.cells #[.int .i64 a.id,.int .i64 a.src,.int .i64 a.dst,.string (strB a.type),.slice pp a.props.length cp] 72)).alloc (.cells #[.int .i64 0,.int .i64 0,.int .i64 0,.string ⟨#[]⟩,.slice none 0 0] 72)).heap.size = w.heap.size + 2:=by simp
 have p4:=Kab (o:=4) hx8 rfl
 have HX8:=yh hx8
 have HX9:=yh hx9
 have HB:=yh hbc
 have HSZ:=yh hsz
 have HC2:=yh (copyProps_any (hps.below (fun h=>h.below hbc) hbc) ho)
 clear hb1 hb2 hbc hx8 hx9 hsz hps ho hty
 go_enter Tryz.func90,Tryz.ntmps90
 go_wp2_with (first
  | (go_at_call 134
     (
      refine HC2.out.mono ?_
      rintro e W6 ⟨v,rfl,ho2,hb⟩
      obtain ⟨pw,cw,rfl⟩:=ho2.slice
      have hz:=HSZ.out
      have hs6:=hb.size
      have h8:=Kai hb (by omega) HX8.out
      have h9:=Kai hb (by omega) HX9.out
      obtain ⟨W7,W8,q1,q2,q3,q4,q5,q6⟩:=copyRel_end h8 h9 rfl (ho2.imp Kb2 fun b _ hb=>by omega) (Kaa HB.out hb)
      have HP:=yh q1
      have HL:=yh q2
      have HST:=yh q3
      have HLD:=yh q4
      have HF:=yh (And.intro q5 q6)
      clear q1 q2 q3 q4 q5 q6 ho2 hz hs6 h8 h9 hb HC2))
  | ((with_reducible apply Kae);exact HP.out;exact rfl;exact rfl;clear HP)
  | ((with_reducible apply Kal);exact HL.out;exact rfl;clear HL)
  | ((with_reducible apply Kae);exact HST.out;exact rfl;exact rfl;clear HST))
 refine bodyPost_ret (Kan rfl _ _ ⟨w.heap.size + 1,0,none⟩ _ rfl HLD.out) rfl ?_
 exact ⟨_,rfl,HF.out⟩
end Go.Proofs.YthdfedfholmbmaaGreatDoor
namespace Go.Proofs
open Go.Shelf
def Tryz.keysN_ren : Go.Shelf.Ren:=⟨fun | 7=>137 | 10=>163 | n=>n,fun | 23=>129 | 26=>2 | 3=>70 | 28=>179 | 0=>0 | 27=>178 | 33=>202 | 4=>4 | n=>n,fun | n=>n⟩
theorem Tryz.keysN : Go.Proofs.SlLaysZI.n7 Tryz.prog Tryz.keysN_ren:={
 mixed:=by kernel_rfl
 f7:=⟨Tryz.f137.name,by decide,Tryz.func137.trans (congrArg some (by kernel_rfl))⟩
 f10:=⟨Tryz.f163.name,by decide,Tryz.func163.trans (congrArg some (by kernel_rfl))⟩
 t0:=Tryz.underlying0
 a0:=Tryz.isAgg0
 z0:=Tryz.sizeOf0
 v0:=Tryz.zeroValue0
 t4:=Tryz.underlying4
 a4:=Tryz.isAgg4
 z4:=Tryz.sizeOf4
 v4:=Tryz.zeroValue4
 t23:=Tryz.underlying129
 a23:=Tryz.isAgg129
 z23:=Tryz.sizeOf129
 v23:=Tryz.zeroValue129
 t26:=Tryz.underlying2
 a26:=Tryz.isAgg2
 z26:=Tryz.sizeOf2
 v26:=Tryz.zeroValue2
 t27:=Tryz.underlying178
 a27:=Tryz.isAgg178
 z27:=Tryz.sizeOf178
 v27:=Tryz.zeroValue178
 t28:=Tryz.underlying179
 a28:=Tryz.isAgg179
 z28:=Tryz.sizeOf179
 v28:=Tryz.zeroValue179
 t33:=Tryz.underlying202
 a33:=Tryz.isAgg202
 z33:=Tryz.sizeOf202
 v33:=Tryz.zeroValue202 }
def Tryz.keysR_ren : Go.Shelf.Ren:=⟨fun | 7=>138 | 10=>164 | n=>n,fun | 23=>130 | 26=>2 | 3=>72 | 28=>179 | 0=>0 | 27=>178 | 33=>202 | 4=>4 | n=>n,fun | n=>n⟩
theorem Tryz.keysR : Go.Proofs.SlLaysZI.n7 Tryz.prog Tryz.keysR_ren:={
 mixed:=by kernel_rfl
 f7:=⟨Tryz.f138.name,by decide,Tryz.func138.trans (congrArg some (by kernel_rfl))⟩
 f10:=⟨Tryz.f164.name,by decide,Tryz.func164.trans (congrArg some (by kernel_rfl))⟩
 t0:=Tryz.underlying0
 a0:=Tryz.isAgg0
 z0:=Tryz.sizeOf0
 v0:=Tryz.zeroValue0
 t4:=Tryz.underlying4
 a4:=Tryz.isAgg4
 z4:=Tryz.sizeOf4
 v4:=Tryz.zeroValue4
 t23:=Tryz.underlying130
 a23:=Tryz.isAgg130
 z23:=Tryz.sizeOf130
 v23:=Tryz.zeroValue130
 t26:=Tryz.underlying2
 a26:=Tryz.isAgg2
 z26:=Tryz.sizeOf2
 v26:=Tryz.zeroValue2
 t27:=Tryz.underlying178
 a27:=Tryz.isAgg178
 z27:=Tryz.sizeOf178
 v27:=Tryz.zeroValue178
 t28:=Tryz.underlying179
 a28:=Tryz.isAgg179
 z28:=Tryz.sizeOf179
 v28:=Tryz.zeroValue179
 t33:=Tryz.underlying202
 a33:=Tryz.isAgg202
 z33:=Tryz.sizeOf202
 v33:=Tryz.zeroValue202 }
def Tryz.sortedI_ren : Go.Shelf.Ren:=⟨fun | 6=>136 | 8=>161 | 9=>162 | 11=>179 | 13=>181 | 12=>180 | 23=>202 | 24=>203 | 14=>194 | 15=>195 | 16=>196 | 17=>197 | 18=>198 | 19=>199 | 20=>174 | 21=>200 | 22=>201 | 25=>211 | 26=>212 | 27=>213 | 28=>214 | 29=>215 | 30=>169 | 31=>217 | n=>n,fun | 26=>2 | 28=>179 | 24=>176 | 0=>0 | 3=>3 | 37=>182 | 48=>237 | 50=>79 | 4=>4 | 40=>231 | 39=>230 | 45=>186 | 5=>5 | 9=>9 | 51=>243 | 55=>246 | 57=>248 | 58=>249 | 33=>202 | n=>n,fun | n=>n⟩
theorem Tryz.sortedI : Go.Proofs.SlLaysZI.n6 Tryz.prog Tryz.sortedI_ren:={
 mixed:=by kernel_rfl
 f6:=⟨Tryz.f136.name,by decide,Tryz.func136.trans (congrArg some (by kernel_rfl))⟩
 f8:=⟨Tryz.f161.name,by decide,Tryz.func161.trans (congrArg some (by kernel_rfl))⟩
 f11:=⟨Tryz.f179.name,by decide,Tryz.func179.trans (congrArg some (by kernel_rfl))⟩
 t0:=Tryz.underlying0
 a0:=Tryz.isAgg0
 z0:=Tryz.sizeOf0
 v0:=Tryz.zeroValue0
 t24:=Tryz.underlying176
 a24:=Tryz.isAgg176
 z24:=Tryz.sizeOf176
 v24:=Tryz.zeroValue176
 t26:=Tryz.underlying2
 a26:=Tryz.isAgg2
 z26:=Tryz.sizeOf2
 v26:=Tryz.zeroValue2
 t28:=Tryz.underlying179
 a28:=Tryz.isAgg179
 z28:=Tryz.sizeOf179
 v28:=Tryz.zeroValue179
 i26:=by kernel_rfl }
def Tryz.sortI_ren : Go.Shelf.Ren:=⟨fun | 5=>162 | 8=>181 | 7=>180 | 19=>202 | 20=>203 | 10=>194 | 11=>195 | 12=>196 | 13=>197 | 14=>198 | 15=>199 | 16=>174 | 17=>200 | 18=>201 | 30=>211 | 31=>212 | 32=>213 | 33=>214 | 34=>215 | 35=>169 | 40=>217 | n=>n,fun | 23=>176 | 25=>2 | 3=>3 | 32=>182 | 22=>176 | 0=>0 | 44=>237 | 46=>79 | 4=>4 | 36=>231 | 35=>230 | 41=>186 | 5=>5 | 9=>9 | 53=>243 | 57=>246 | 63=>248 | 64=>249 | n=>n,fun | n=>n⟩
theorem Tryz.sortI : Go.Proofs.SlLaysM.n5 Tryz.prog Tryz.sortI_ren:={
 mixed:=by kernel_rfl
 f5:=⟨Tryz.f162.name,by decide,Tryz.func162.trans (congrArg some (by kernel_rfl))⟩
 f7:=⟨Tryz.f180.name,by decide,Tryz.func180.trans (congrArg some (by kernel_rfl))⟩
 f8:=Tryz.func181.trans (congrArg some (by kernel_rfl))
 f10:=⟨Tryz.f194.name,by decide,Tryz.func194.trans (congrArg some (by kernel_rfl))⟩
 f11:=⟨Tryz.f195.name,by decide,Tryz.func195.trans (congrArg some (by kernel_rfl))⟩
 f12:=⟨Tryz.f196.name,by decide,Tryz.func196.trans (congrArg some (by kernel_rfl))⟩
 f13:=⟨Tryz.f197.name,by decide,Tryz.func197.trans (congrArg some (by kernel_rfl))⟩
 f14:=⟨Tryz.f198.name,by decide,Tryz.func198.trans (congrArg some (by kernel_rfl))⟩
 f15:=⟨Tryz.f199.name,by decide,Tryz.func199.trans (congrArg some (by kernel_rfl))⟩
 f16:=⟨Tryz.f174.name,by decide,Tryz.func174.trans (congrArg some (by kernel_rfl))⟩
 f17:=⟨Tryz.f200.name,by decide,Tryz.func200.trans (congrArg some (by kernel_rfl))⟩
 f18:=⟨Tryz.f201.name,by decide,Tryz.func201.trans (congrArg some (by kernel_rfl))⟩
 f19:=Tryz.func202.trans (congrArg some (by kernel_rfl))
 f20:=Tryz.func203.trans (congrArg some (by kernel_rfl))
 f30:=⟨Tryz.f211.name,by decide,Tryz.func211.trans (congrArg some (by kernel_rfl))⟩
 f31:=Tryz.func212.trans (congrArg some (by kernel_rfl))
 f32:=Tryz.func213.trans (congrArg some (by kernel_rfl))
 f33:=⟨Tryz.f214.name,by decide,Tryz.func214.trans (congrArg some (by kernel_rfl))⟩
 f34:=⟨Tryz.f215.name,by decide,Tryz.func215.trans (congrArg some (by kernel_rfl))⟩
 f35:=⟨Tryz.f169.name,by decide,Tryz.func169.trans (congrArg some (by kernel_rfl))⟩
 f40:=⟨Tryz.f217.name,by decide,Tryz.func217.trans (congrArg some (by kernel_rfl))⟩
 t0:=Tryz.underlying0
 a0:=Tryz.isAgg0
 z0:=Tryz.sizeOf0
 v0:=Tryz.zeroValue0
 t3:=Tryz.underlying3
 a3:=Tryz.isAgg3
 z3:=Tryz.sizeOf3
 v3:=Tryz.zeroValue3
 t4:=Tryz.underlying4
 a4:=Tryz.isAgg4
 z4:=Tryz.sizeOf4
 v4:=Tryz.zeroValue4
 t5:=Tryz.underlying5
 a5:=Tryz.isAgg5
 z5:=Tryz.sizeOf5
 v5:=Tryz.zeroValue5
 t9:=Tryz.underlying9
 a9:=Tryz.isAgg9
 z9:=Tryz.sizeOf9
 v9:=Tryz.zeroValue9
 t22:=Tryz.underlying176
 a22:=Tryz.isAgg176
 z22:=Tryz.sizeOf176
 v22:=Tryz.zeroValue176
 t23:=Tryz.underlying176
 a23:=Tryz.isAgg176
 z23:=Tryz.sizeOf176
 v23:=Tryz.zeroValue176
 t25:=Tryz.underlying2
 a25:=Tryz.isAgg2
 z25:=Tryz.sizeOf2
 v25:=Tryz.zeroValue2
 t32:=Tryz.underlying182
 a32:=Tryz.isAgg182
 z32:=Tryz.sizeOf182
 v32:=Tryz.zeroValue182
 t35:=Tryz.underlying230
 a35:=Tryz.isAgg230
 z35:=Tryz.sizeOf230
 v35:=Tryz.zeroValue230
 t36:=Tryz.underlying231
 a36:=Tryz.isAgg231
 z36:=Tryz.sizeOf231
 v36:=Tryz.zeroValue231
 t41:=Tryz.underlying186
 a41:=Tryz.isAgg186
 z41:=Tryz.sizeOf186
 v41:=Tryz.zeroValue186
 t44:=Tryz.underlying237
 a44:=Tryz.isAgg237
 z44:=Tryz.sizeOf237
 v44:=Tryz.zeroValue237
 t46:=Tryz.underlying79
 a46:=Tryz.isAgg79
 z46:=Tryz.sizeOf79
 v46:=Tryz.zeroValue79
 t53:=Tryz.underlying243
 a53:=Tryz.isAgg243
 z53:=Tryz.sizeOf243
 v53:=Tryz.zeroValue243
 t57:=Tryz.underlying246
 a57:=Tryz.isAgg246
 z57:=Tryz.sizeOf246
 v57:=Tryz.zeroValue246
 t63:=Tryz.underlying248
 a63:=Tryz.isAgg248
 z63:=Tryz.sizeOf248
 v63:=Tryz.zeroValue248
 t64:=Tryz.underlying249
 a64:=Tryz.isAgg249
 z64:=Tryz.sizeOf249
 v64:=Tryz.zeroValue249 }
def Tryz.searchI_ren : Go.Shelf.Ren:=⟨fun | 49=>158 | 59=>174 | 60=>175 | 68=>169 | n=>n,fun | 22=>176 | 23=>2 | 3=>3 | 4=>4 | 51=>182 | 0=>0 | n=>n,fun | n=>n⟩
theorem Tryz.searchI : Go.Proofs.SlLaysN.n49 Tryz.prog Tryz.searchI_ren:={
 mixed:=by kernel_rfl
 f49:=⟨Tryz.f158.name,by decide,Tryz.func158.trans (congrArg some (by kernel_rfl))⟩
 f59:=⟨Tryz.f174.name,by decide,Tryz.func174.trans (congrArg some (by kernel_rfl))⟩
 f60:=⟨Tryz.f175.name,by decide,Tryz.func175.trans (congrArg some (by kernel_rfl))⟩
 f68:=⟨Tryz.f169.name,by decide,Tryz.func169.trans (congrArg some (by kernel_rfl))⟩
 t0:=Tryz.underlying0
 a0:=Tryz.isAgg0
 z0:=Tryz.sizeOf0
 v0:=Tryz.zeroValue0
 t3:=Tryz.underlying3
 a3:=Tryz.isAgg3
 z3:=Tryz.sizeOf3
 v3:=Tryz.zeroValue3
 t4:=Tryz.underlying4
 a4:=Tryz.isAgg4
 z4:=Tryz.sizeOf4
 v4:=Tryz.zeroValue4
 t22:=Tryz.underlying176
 a22:=Tryz.isAgg176
 z22:=Tryz.sizeOf176
 v22:=Tryz.zeroValue176
 t23:=Tryz.underlying2
 a23:=Tryz.isAgg2
 z23:=Tryz.sizeOf2
 v23:=Tryz.zeroValue2
 t51:=Tryz.underlying182
 a51:=Tryz.isAgg182
 z51:=Tryz.sizeOf182
 v51:=Tryz.zeroValue182 }
end Go.Proofs
namespace Go.Proofs.YthdfedfholmbmaaGreatDoor
open Go.RowKit
theorem sorts9 (m : Nat) : AnyZI.SortsIn Tryz.prog Tryz.sortedI_ren Fence.wide m :=
 ⟨fun blk off cap ss W hH hblk hsz=>callsIn_wide.2 (AnyM.slices_Sort_int Tryz.sortI blk off cap ss W hH hblk hsz),
  fun p cap W=>callsIn_wide.2 (AnyM.slices_Sort_int_none Tryz.sortI p cap W)⟩
theorem keysN_any (mb : Option Nat) (W : World) : Calls Tryz.prog 137 #[.map mb] W fun e w'=>e = .returned (.func (.func 163) #[] #[.pointer (some ⟨W.heap.size,0,none⟩)]) ∧ w' = W.alloc (.cells #[.map mb] 129) :=
 (callsIn_wide (n:=5)).1 (AnyZI.keys_in Tryz.keysN Fence.wide 5 trivial rfl mb W)
theorem sortedN_any {α : Type} {Ek : World → (Nat → Prop) → α → Array Value → Prop} {id : α → Int} {W : World} {Q : Nat → Prop} {b g : Nat} {l : List α} (h : MapOf Ek id W Q b l) (hs : l.length ≤ 1000000) (hg : W.heap[g]? = some (.cells #[.map (some b)] 129 (0,0))) :
 Calls Tryz.prog 136 #[.func (.func 163) #[] #[.pointer (some ⟨g,0,none⟩)]] W fun e w'=>∃ v,e = .returned v ∧ w'.ownsRow W.heap.size 2 1 v l.length ((l.map id).map (Value.int .i64)) ∧ Below W.heap.size W w':=by
 obtain ⟨D,hown,hp,hz⟩:=h.owns (H:=Unit) (P:=Tryz.prog) Tryz.underlying2 (by unfold maxLen;omega)
 have hmax : Go.Maps.size D ≤ maxLen:=by unfold maxLen;omega
 have hbytes : Go.Maps.size D * 8 ≤ 140737488355328:=by omega
 obtain ⟨n1,n2,n3⟩:=h.nums
 have hseq : SeqGives Fence.wide 2 Tryz.prog 163 #[.pointer (some ⟨g,0,none⟩)] encZ (fun ss=>ss.Perm (intKeys D)) (Go.Maps.size D) W :=
  AnyZI.keys_gives (ρ:=Tryz.keysN_ren) { Tryz.keysN with } Fence.wide _ trivial rfl (by omega) g b l.length D _ (Array.getElem?_eq_some_iff.1 hg).1 (Kab (o:=0) hg rfl) hown
 have cS:=AnyZI.sorted_in Tryz.sortedI Fence.wide 5 trivial trivial trivial trivial rfl (by omega) (sorts9 _) (enters_of Tryz.func162 (by kernel_rfl) rfl) 163 #[.pointer (some ⟨g,0,none⟩)] trivial (enters_of Tryz.func163 (by kernel_rfl) rfl) _ _ hmax hbytes _ hseq
 change CallsIn _ _ Tryz.prog 136 _ _ _ at cS
 refine ((callsIn_wide (n:=5)).1 cS).mono ?_
 rintro e w' ⟨v,ss,rfl,hS,hrow,hnil,hb⟩
 have hss : ss.mergeSort (fun x y=>decide (x ≤ y)) = l.map id:=by
  refine rise_eq n2 ?_ ((List.mergeSort_perm _ _).trans (hS.trans hp))
  have:=List.pairwise_mergeSort (le:=fun x y : Int=>decide (x ≤ y)) (fun a b c h1 h2=>by simp only [decide_eq_true_eq] at *;omega) (fun a b=>by simp only [Bool.or_eq_true,decide_eq_true_eq];omega) ss
  exact this.imp fun h=>by simpa using h
 have hlen : ss.length = l.length:=by rw [(hS.trans hp).length_eq,List.length_map]
 rw [hss,hlen] at hrow
 exact ⟨v,rfl,hrow,hb⟩
theorem keysR_any (mb : Option Nat) (W : World) : Calls Tryz.prog 138 #[.map mb] W fun e w'=>e = .returned (.func (.func 164) #[] #[.pointer (some ⟨W.heap.size,0,none⟩)]) ∧ w' = W.alloc (.cells #[.map mb] 130) :=
 (callsIn_wide (n:=5)).1 (AnyZI.keys_in Tryz.keysR Fence.wide 5 trivial rfl mb W)
theorem sortedR_any {α : Type} {Ek : World → (Nat → Prop) → α → Array Value → Prop} {id : α → Int} {W : World} {Q : Nat → Prop} {b g : Nat} {l : List α} (h : MapOf Ek id W Q b l) (hs : l.length ≤ 1000000) (hg : W.heap[g]? = some (.cells #[.map (some b)] 130 (0,0))) :
 Calls Tryz.prog 136 #[.func (.func 164) #[] #[.pointer (some ⟨g,0,none⟩)]] W fun e w'=>∃ v,e = .returned v ∧ w'.ownsRow W.heap.size 2 1 v l.length ((l.map id).map (Value.int .i64)) ∧ Below W.heap.size W w':=by
 obtain ⟨D,hown,hp,hz⟩:=h.owns (H:=Unit) (P:=Tryz.prog) Tryz.underlying2 (by unfold maxLen;omega)
 have hmax : Go.Maps.size D ≤ maxLen:=by unfold maxLen;omega
 have hbytes : Go.Maps.size D * 8 ≤ 140737488355328:=by omega
 obtain ⟨n1,n2,n3⟩:=h.nums
 have hseq : SeqGives Fence.wide 2 Tryz.prog 164 #[.pointer (some ⟨g,0,none⟩)] encZ (fun ss=>ss.Perm (intKeys D)) (Go.Maps.size D) W :=
  AnyZI.keys_gives (ρ:=Tryz.keysR_ren) { Tryz.keysR with } Fence.wide _ trivial rfl (by omega) g b l.length D _ (Array.getElem?_eq_some_iff.1 hg).1 (Kab (o:=0) hg rfl) hown
 have cS:=AnyZI.sorted_in Tryz.sortedI Fence.wide 5 trivial trivial trivial trivial rfl (by omega) (sorts9 _) (enters_of Tryz.func162 (by kernel_rfl) rfl) 164 #[.pointer (some ⟨g,0,none⟩)] trivial (enters_of Tryz.func164 (by kernel_rfl) rfl) _ _ hmax hbytes _ hseq
 change CallsIn _ _ Tryz.prog 136 _ _ _ at cS
 refine ((callsIn_wide (n:=5)).1 cS).mono ?_
 rintro e w' ⟨v,ss,rfl,hS,hrow,hnil,hb⟩
 have hss : ss.mergeSort (fun x y=>decide (x ≤ y)) = l.map id:=by
  refine rise_eq n2 ?_ ((List.mergeSort_perm _ _).trans (hS.trans hp))
  have:=List.pairwise_mergeSort (le:=fun x y : Int=>decide (x ≤ y)) (fun a b c h1 h2=>by simp only [decide_eq_true_eq] at *;omega) (fun a b=>by simp only [Bool.or_eq_true,decide_eq_true_eq];omega) ss
  exact this.imp fun h=>by simpa using h
 have hlen : ss.length = l.length:=by rw [(hS.trans hp).length_eq,List.length_map]
 rw [hss,hlen] at hrow
 exact ⟨v,rfl,hrow,hb⟩
def layAt (l : List Value) (o : Nat) : List Value → List Value
 | []=>l
 | v :: r=>layAt (l.set o v) (o + 1) r
theorem Kd8 (o : Nat) (l : List Value) (vs : List Value) : (layAt l o vs).length = l.length:=by
 induction vs generalizing l o with
 | nil=>rfl
 | cons v r ih=>rw [layAt,ih,List.length_set]
theorem layAt_get (vs : List Value) : ∀ (o : Nat) (l : List Value),o + vs.length ≤ l.length → ∀ k,(layAt l o vs)[k]? = if o ≤ k ∧ k < o + vs.length then vs[k - o]? else l[k]?:=by
 induction vs with
 | nil=>intro o l h k;rw [if_neg (by simp)];rfl
 | cons v r ih =>
   intro o l h k
   simp only [List.length_cons] at h ⊢
   rw [layAt,ih (o + 1) (l.set o v) (by rw [List.length_set];omega)]
   by_cases hk : o = k
   ·subst hk
    rw [if_neg (by omega),if_pos (by omega),Nat.sub_self,List.getElem?_set_self (by omega)]
    rfl
   ·by_cases h2 : o + 1 ≤ k ∧ k < o + 1 + r.length
    ·rw [if_pos h2,if_pos (by omega)]
     have : k - o = (k - (o + 1)) + 1:=by omega
     rw [this,List.getElem?_cons_succ]
    ·rw [if_neg h2,if_neg (by omega),List.getElem?_set_ne hk]
theorem Kd5 {b : Nat} {t : TypeId} (vs : List Value) : ∀ (o : Nat) (w : World) (cs : Array Value),w.heap[b]? = some (.cells cs t (0,0)) → (w.setCells b o vs).heap[b]? = some (.cells (layAt cs.toList o vs).toArray t (0,0)):=by
 induction vs with
 | nil=>intro o w cs h;simpa [World.setCells,layAt] using h
 | cons v r ih =>
   intro o w cs h
   rw [World.setCells,layAt]
   have:=ih (o + 1) _ _ (Kcd (k:=o) v h)
   simpa using this
theorem Kds {b : Nat} (vs : List Value) : ∀ (o : Nat) {w W : World},Touch (fun c=>c = b) w W → Touch (fun c=>c = b) w (W.setCells b o vs):=by
 induction vs with
 | nil=>intro o w W h;exact h
 | cons v r ih=>intro o w W h;rw [World.setCells];exact ih (o + 1) (h.setCell (.inl (by exact rfl)) v)
def insAt (i : Nat) (x : Int) (l : List Int) : List Int:=l.take i ++ x :: l.drop i
theorem lay_shift {cur xs : List Value} {n i : Nat} {v : Value} (hc : n + 1 ≤ cur.length) (hx : cur.take n = xs) (hi : i ≤ n) : (layAt (layAt cur (i + 1) (xs.drop i)) i [v]).take (n + 1) = xs.take i ++ v :: xs.drop i:=by
 have hl : xs.length = n:=by rw [← hx,List.length_take];omega
 have hg : ∀ k,k < n → xs[k]? = cur[k]?:=fun k hk=>by rw [← hx,List.getElem?_take,if_pos hk]
 apply List.ext_getElem?
 intro k
 rw [List.getElem?_take,layAt_get [v] i _ (by rw [Kd8];simp;omega),layAt_get _ (i + 1) cur (by rw [List.length_drop];omega),List.length_drop,hl]
 simp only [List.length_cons,List.length_nil]
 by_cases h1 : k < i
 ·rw [if_pos (by omega),if_neg (by omega),if_neg (by omega),List.getElem?_append_left (by rw [List.length_take];omega),List.getElem?_take,if_pos h1,hg k (by omega)]
 ·rw [List.getElem?_append_right (by rw [List.length_take];omega),List.length_take,hl]
  have e1 : min i n = i:=by omega
  rw [e1]
  by_cases h2 : k = i
  ·subst h2
   rw [if_pos (by omega),if_pos (by omega),Nat.sub_self]
   rfl
  ·have e2 : k - i = (k - (i + 1)) + 1:=by omega
   by_cases h3 : k < n + 1
   ·rw [if_pos h3,if_neg (by omega),if_pos (by omega),e2,List.getElem?_cons_succ]
   ·rw [if_neg h3,List.getElem?_eq_none (by simp [hl];omega)]
theorem lay_grow {cur xs : List Value} {n i : Nat} {v : Value} (hc : n + 1 ≤ cur.length) (hx : cur.take i = xs.take i) (hl : xs.length = n) (hi : i ≤ n) : (layAt (layAt cur i [v]) (i + 1) (xs.drop i)).take (n + 1) = xs.take i ++ v :: xs.drop i:=by
 have hg : ∀ k,k < i → xs[k]? = cur[k]?:=fun k hk=>by
  have:=congrArg (fun l=>l[k]?) hx
  simp only [List.getElem?_take,if_pos hk] at this
  exact this.symm
 apply List.ext_getElem?
 intro k
 rw [List.getElem?_take,layAt_get _ (i + 1) _ (by rw [Kd8,List.length_drop];omega),layAt_get [v] i cur (by simp;omega),List.length_drop,hl]
 simp only [List.length_cons,List.length_nil]
 by_cases h1 : k < i
 ·rw [if_pos (by omega),if_neg (by omega),if_neg (by omega),List.getElem?_append_left (by rw [List.length_take];omega),List.getElem?_take,if_pos h1,hg k h1]
 ·rw [List.getElem?_append_right (by rw [List.length_take];omega),List.length_take,hl]
  have e1 : min i n = i:=by omega
  rw [e1]
  by_cases h2 : k = i
  ·subst h2
   rw [if_pos (by omega),if_neg (by omega),if_pos (by omega),Nat.sub_self]
   rfl
  ·have e2 : k - i = (k - (i + 1)) + 1:=by omega
   by_cases h3 : k < n + 1
   ·rw [if_pos h3,if_pos (by omega),e2,List.getElem?_cons_succ]
   ·rw [if_neg h3,List.getElem?_eq_none (by simp [hl];omega)]
theorem info_i64 : ∃ i,Tryz.prog.info? 2 = some i ∧ i.zero = some (.int .i64 0) ∧ i.size = 1 ∧ i.bytes = 8:=info_parts (by kernel_rfl)
theorem size_i64 : (Tryz.prog.info? 2).map (·.size) = some 1:=by obtain ⟨i,h1,h2,h3,h4⟩:=info_i64;rw [h1];simp [h3]
theorem run_size_i64 (w : World) : (Go.sizeOf 2).run Tryz.prog w = .ok 1 w:=by obtain ⟨i,h1,h2,h3,h4⟩:=info_i64;simp [Go.sizeOf,typeInfo,h1,h3]
theorem ones_i64 {l : List Int} : ∀ v ∈ l.map (Value.int .i64),v.oneCell' = true:=fun v hv=>by obtain ⟨k,_,rfl⟩:=List.mem_map.1 hv;rfl
def InsPost (w : World) (v : Value) (n : Nat) (l : List Int) (e : Ending) (w' : World) : Prop:=∃ v',e = .returned v' ∧ w'.ownsRow 0 2 1 v' (n + 1) (l.map (Value.int .i64)) ∧ Touch (fun b=>v.ownBlock = some b) w w' ∧ (v'.ownBlock = v.ownBlock ∨ v'.ownBlock = some w.heap.size) ∧ w.heap.size ≤ w'.heap.size
theorem ins_end {w : World} {v : Value} {n g : Nat} {l : List Int} {x : Int} (hown : w.ownsRow 0 2 1 v n (l.map (Value.int .i64))) (hg : w.heap[g]? = some (.cells #[.int .i64 x] 2 (0,0))) (hn : n ≤ 1000000) :
 Calls Tryz.prog 159 #[v,.int .i64 (n : Int),.slice (some ⟨g,0,none⟩) 1 1] w (InsPost w v n (insAt n x l)):=by
 obtain ⟨i,i1,i2,i3,i4⟩:=info_i64
 have hap : ∀ ty,∃ v' w',(Builtin.append_ #[176,176] ty #[v,.slice (some ⟨g,0,none⟩) 1 1]).run Tryz.prog w = .ok v' w' ∧ w'.ownsRow 0 2 1 v' (n + 1) (l.map (Value.int .i64) ++ [.int .i64 x]) ∧ Touch (fun b=>v.ownBlock = some b) w w' ∧ (v'.ownBlock = v.ownBlock ∨ v'.ownBlock = some w.heap.size) ∧ w.heap.size ≤ w'.heap.size:=fun ty =>
  Kdp (P:=Tryz.prog) (w:=w) 176 ty 2 i _ 1 8 Tryz.underlying176 i1 i2 i3 i4 rfl v n _ hown ⟨g,0,none⟩ 1 1 [.int .i64 x] (by simp) (fun j u hu=>by
   rw [Ka4,Nat.zero_add];exact Kab hg (by simpa using hu)) (by simp [Value.oneCell']) (by unfold maxLen;omega) (by omega)
 have hlen : l.length = n:=by have:=hown.1;simpa using this
 have e1 : (insAt n x l).map (Value.int .i64) = l.map (Value.int .i64) ++ [.int .i64 x]:=by unfold insAt;simp [List.take_of_length_le (Nat.le_of_eq hlen),List.drop_of_length_le (Nat.le_of_eq hlen)]
 have hsh : (v = .slice none 0 0 ∧ n = 0) ∨ ∃ b cap,v = .slice (some ⟨b,0,none⟩) n cap ∧ n ≤ cap ∧ cap ≤ maxLen:=by
  rcases hown.2 with h | ⟨b,cap,cur,h1,_,_,h2,h3,_⟩
  ·exact .inl h
  ·exact .inr ⟨b,cap,h1,h2,h3⟩
 obtain ⟨v',w',h1,h2,h3,h4,h5⟩:=hap 176
 have HP:=yh (show InsPost w v n (insAt n x l) (.returned v') w' from ⟨v',rfl,by rw [e1];exact h2,h3,h4,h5⟩)
 clear h2 h3 h4 h5 hap hown hg e1 hlen i1 i2 i3 i4
 rcases hsh with ⟨rfl,rfl⟩ | ⟨b,cap,rfl,hc,hm⟩
 ·go_enter Tryz.func159,Tryz.ntmps159
  go_wp2_with (at_builtin;refine Lib.wpList_append_run _ rfl _ _ _ _ rfl _ _ rfl rfl _ _ h1 ?_)
  all_goals (go_ret;exact HP.out)
 ·unfold maxLen at hm
  go_enter Tryz.func159,Tryz.ntmps159
  go_wp2_with (at_builtin;refine Lib.wpList_append_run _ rfl _ _ _ _ rfl _ _ rfl rfl _ _ h1 ?_)
  all_goals (go_ret;exact HP.out)
theorem overlaps_no {w : World} {b g i : Nat} {cur : Array Value} {x : Int} (hb : w.heap[b]? = some (.cells cur 2 (0,0))) (hg : w.heap[g]? = some (.cells #[.int .i64 x] 2 (0,0))) (hne : g ≠ b) (hc : cur.size ≠ 0) (lb cb : Nat) :
 (callFunc 176 #[.slice (some ⟨g,0,none⟩) 1 1,.slice (some ⟨b,i,none⟩) lb cb]).run Tryz.prog w = .ok (.value (.bool false)) w:=by
 have s1 : w.shape? g = some (2,1):=by unfold World.shape?;rw [hg];rfl
 have s2 : w.shape? b = some (2,cur.size):=by unfold World.shape?;rw [hb]
 have f : ∀ o,w.frozen? ⟨g,o,none⟩ = false:=fun o=>Kav (o:=o) hg
 rw [run_callFunc_extern Tryz.func176 (by kernel_rfl) (by kernel_rfl) (by kernel_rfl) (e:=Extern.SlicesOverlaps.overlaps #[176,176] #[4]) (by kernel_rfl),
  Lib.run_overlaps_apart w 176 4 2 Tryz.underlying176 1 run_size_i64 ⟨g,0,none⟩ ⟨b,i,none⟩ 1 1 lb cb hne _ _ 1 cur.size s1 s2 hc (f 0) (f 1)]
 rfl
theorem ins_shift {w : World} {b n c i g : Nat} {cur : Array Value} {l : List Int} {x : Int} (hb : w.heap[b]? = some (.cells cur 2 (0,0))) (hc : n + 1 ≤ c) (hcm : c ≤ maxLen) (hs : cur.size = c) (ht : cur.toList.take n = l.map (Value.int .i64)) (hl : l.length = n) (hi : i < n) (hg : w.heap[g]? = some (.cells #[.int .i64 x] 2 (0,0))) (hne : g ≠ b) (hn : n ≤ 1000000) :
 Calls Tryz.prog 159 #[.slice (some ⟨b,0,none⟩) n c,.int .i64 (i : Int),.slice (some ⟨g,0,none⟩) 1 1] w (InsPost w (.slice (some ⟨b,0,none⟩) n c) n (insAt i x l)):=by
 unfold maxLen at hcm
 have hz2 : ¬ ((i : Int) = (n : Int)):=by omega
 have hov : ∀ lb cb,(callFunc 176 #[.slice (some ⟨g,0,none⟩) 1 1,.slice (some ⟨b,i + 1,none⟩) lb cb]).run Tryz.prog w = .ok (.value (.bool false)) w:=overlaps_no hb hg hne (by omega)
 have hlen : (l.map (Value.int .i64)).length = n:=by simpa using hl
 have hgs : ∀ k,k < n → (l.map (Value.int .i64))[k]? = cur[k]?:=fun k hk=>by rw [← ht,List.getElem?_take,if_pos hk];simp
 have hdl : ((l.map (Value.int .i64)).drop i).length = n - i:=by rw [List.length_drop,hlen]
 have hw1 : IntKind.i64.wrap ((i : Int) + 1) = (i : Int) + 1:=by rw [IntKind.wrap_i64];omega
 have hw2 : IntKind.i64.wrap ((n : Int) + 1) = (n : Int) + 1:=by rw [IntKind.wrap_i64];omega
 have hin : i ≤ n:=by omega
 have hb2 : ¬ (c = i + 1):=by omega
 have hb1z : (0 : Int) ≤ (i : Int) + 1:=by omega
 have htn : ((i : Int) + 1).toNat = i + 1:=by omega
 have hb3 : (i : Int) ≤ (n : Int) + 1:=by omega
 have mixed : Tryz.prog.follows Departure.mixedOrders = true:=by kernel_rfl
 have hb4 : ¬ (c = i):=by omega
 have hcp1 : ∀ ty dc sc,(Builtin.copy_ #[176,176] ty #[.slice (some ⟨b,i + 1,none⟩) (n - i) dc,.slice (some ⟨b,i,none⟩) (n + 1 - i) sc]).run Tryz.prog w.drew = .ok (goInt ((l.map (Value.int .i64)).drop i).length) (w.drew.setCells b (i + 1) ((l.map (Value.int .i64)).drop i)):=fun ty dc sc =>
  run_copy_cells w.drew _ _ ty 2 b (i + 1) (n - i) dc ⟨b,i,none⟩ (n + 1 - i) sc ((l.map (Value.int .i64)).drop i) Tryz.underlying176 size_i64 (by rw [hdl];simp only [Nat.min_def];split <;> omega)
   (fun j v hj=>by
     rw [List.getElem?_drop] at hj
     have hlt : i + j < n:=by have:=(List.getElem?_eq_some_iff.1 hj).1;omega
     rw [Ka4]
     exact Kab (o:=i + j) hb (by rw [← hgs _ hlt];exact hj))
   (fun j hj=>by
     have hj2 : i + 1 + j < cur.size:=by omega
     have : w.drew.cell? ⟨b,i + 1 + j,none⟩ = some cur[i + 1 + j]:=Kab (o:=i + 1 + j) hb (Array.getElem?_eq_getElem hj2)
     rw [this];rfl)
   (fun j hj=>Kav (o:=i + 1 + j) hb) (fun v hv=>ones_i64 v (List.mem_of_mem_drop hv))
 obtain ⟨W1,hW1⟩ : ∃ W1,W1 = w.drew.setCells b (i + 1) ((l.map (Value.int .i64)).drop i):=⟨_,rfl⟩
 have hb1 : W1.heap[b]? = some (.cells (layAt cur.toList (i + 1) ((l.map (Value.int .i64)).drop i)).toArray 2 (0,0)):=by rw [hW1];exact Kd5 _ _ _ _ hb
 have hT1 : Touch (fun c=>c = b) w W1:=by rw [hW1];exact Kds _ _ (Touch.refl _ _).drew
 have hg1 : W1.heap[g]? = some (.cells #[.int .i64 x] 2 (0,0)):=hT1.heap hg hne
 have hsz : (layAt cur.toList (i + 1) ((l.map (Value.int .i64)).drop i)).length = c:=by rw [Kd8];simpa using hs
 have hcp2 : ∀ ty dc,(Builtin.copy_ #[176,176] ty #[.slice (some ⟨b,i,none⟩) (n + 1 - i) dc,.slice (some ⟨g,0,none⟩) 1 1]).run Tryz.prog W1 = .ok (goInt 1) (W1.setCells b i [.int .i64 x]):=fun ty dc =>
  run_copy_cells W1 _ _ ty 2 b i (n + 1 - i) dc ⟨g,0,none⟩ 1 1 [.int .i64 x] Tryz.underlying176 size_i64 (by simp only [List.length_cons,List.length_nil,Nat.min_def];split <;> omega)
   (fun j v hj=>by rw [Ka4,Nat.zero_add];exact Kab hg1 (by simpa using hj))
   (fun j hj=>by
     have hj0 : j = 0:=by simpa using hj
     subst hj0
     have hj2 : i + 0 < (layAt cur.toList (i + 1) ((l.map (Value.int .i64)).drop i)).toArray.size:=by rw [List.size_toArray,hsz];omega
     have:=Kab (o:=i + 0) hb1 (Array.getElem?_eq_getElem hj2)
     rw [this];rfl)
   (fun j hj=>Kav (o:=i + j) hb1) (by simp [Value.oneCell'])
 have hb2' : (W1.setCells b i [.int .i64 x]).heap[b]? = _:=Kd5 [.int .i64 x] i W1 _ hb1
 have hT2 : Touch (fun c=>c = b) w (W1.setCells b i [.int .i64 x]):=Kds _ _ hT1
 have hfin : InsPost w (.slice (some ⟨b,0,none⟩) n c) n (insAt i x l) (.returned (.slice (some ⟨b,0,none⟩) (n + 1) c)) (W1.setCells b i [.int .i64 x]):=by
  refine ⟨_,rfl,Kdi hb2' hc (by unfold maxLen;omega) ?_ ?_ ?_,hT2.mono fun d _ e=>by rw [e];rfl,.inl rfl,hT2.size⟩
  ·rw [List.size_toArray,Kd8];simp [hsz]
  ·rw [Nat.mul_one]
   have:=lay_shift (cur:=cur.toList) (xs:=l.map (Value.int .i64)) (v:=.int .i64 x) (by simpa [hs] using hc) ht (Nat.le_of_lt hi)
   simp only at this ⊢
   rw [this]
   unfold insAt
   simp [List.map_take,List.map_drop]
  ·unfold insAt;simp [hl];omega
 have HF:=yh hfin
 rw [← hW1] at hcp1
 clear hW1
 clear hb hs ht hl hg hne hlen hgs hdl hb1 hT1 hg1 hsz hb2' hT2 hfin
 go_enter Tryz.func159,Tryz.ntmps159
 go_wp2_with (simp only [hov])
 go_region_law_o (refine step_copy_runI rfl _ _ 176 176 rfl _ _ (by simp [Act.eval,Act.put]) (by simp [Act.eval,Act.put]) (hcp1 _ _ _) ?_)
 go_wp2_with (at_builtin;refine wpList_copy_runI _ rfl _ _ 176 176 rfl _ _ rfl rfl (hcp2 _ _) ?_)
 go_ret
 exact HF.out
theorem ins_grow {w : World} {b n c i g : Nat} {cur : Array Value} {l : List Int} {x : Int} (hb : w.heap[b]? = some (.cells cur 2 (0,0))) (hnc : n ≤ c) (hc : c < n + 1) (hs : cur.size = c) (ht : cur.toList.take n = l.map (Value.int .i64)) (hl : l.length = n) (hi : i < n) (hg : w.heap[g]? = some (.cells #[.int .i64 x] 2 (0,0))) (hn : n ≤ 1000000) :
 Calls Tryz.prog 159 #[.slice (some ⟨b,0,none⟩) n c,.int .i64 (i : Int),.slice (some ⟨g,0,none⟩) 1 1] w (InsPost w (.slice (some ⟨b,0,none⟩) n c) n (insAt i x l)):=by
 obtain ⟨i0,hi0,hz0,hzs,hzb⟩:=info_i64
 have hz2 : ¬ ((i : Int) = (n : Int)):=by omega
 have hz3 : (c : Int) < (n : Int) + 1:=by omega
 have hlen : (l.map (Value.int .i64)).length = n:=by simpa using hl
 have hgs : ∀ k,k < n → (l.map (Value.int .i64))[k]? = cur[k]?:=fun k hk=>by rw [← ht,List.getElem?_take,if_pos hk];simp
 have hdl : ((l.map (Value.int .i64)).drop i).length = n - i:=by rw [List.length_drop,hlen]
 have hbw:=(Array.getElem?_eq_some_iff.1 hb).1
 have hgw:=(Array.getElem?_eq_some_iff.1 hg).1
 have hkk : (n : Int) + 1 - (i : Int) = ((n + 1 - i : Nat) : Int):=by omega
 have hik : i + (n + 1 - i) = n + 1:=by omega
 have mixed : Tryz.prog.follows Departure.mixedOrders = true:=by kernel_rfl
 have hold : (Builtin.firstCells i0.size i (.slice (some ⟨b,0,none⟩) i c)).run Tryz.prog w.drew = .ok ((l.map (Value.int .i64)).take i).toArray w.drew:=by
  rw [hzs]
  exact run_firstCells_some w.drew 1 i ⟨b,0,none⟩ i c ((l.map (Value.int .i64)).take i) (by rw [List.length_take];omega) (fun j v hj=>by
   rw [List.getElem?_take] at hj
   split at hj
   ·rw [Ka4,Nat.zero_add];exact Kab (o:=j) hb (by rw [← hgs _ (by omega)];exact hj)
   ·cases hj)
 have hrz : ∀ ty,(Builtin.append_ #[176,3] ty #[.slice (some ⟨b,0,none⟩) i c,.int .i64 ((n : Int) + 1 - (i : Int))]).run Tryz.prog w =
  .ok (.slice (some ⟨w.heap.size,0,none⟩) (n + 1) (grownCap w (n + 1) c 2)) (w.drew.alloc (.cells (((l.map (Value.int .i64)).take i).toArray ++ Builtin.zeroCells (Value.int .i64 0).cells (n + 1 - i) ++ Builtin.zeroCells (Value.int .i64 0).cells (grownCap w (n + 1) c 2 - (n + 1))) 2)):=fun ty=>by
  have h:=Lib.run_append_grow_zeros (P:=Tryz.prog) w 176 3 ty 2 i0 _ .i64 .i64 Tryz.underlying176 Tryz.underlying3 hi0 hz0 (some ⟨b,0,none⟩) i c ((l.map (Value.int .i64)).take i) hold (n + 1 - i) (by omega) (by omega) (by omega) (by omega) (by rw [hzb];omega) (by rw [hzb,hik];exact growslice_fits hc (by omega))
  rw [hik] at h
  rw [hkk]
  exact h
 obtain ⟨G,hG⟩ : ∃ G,G = grownCap w (n + 1) c 2:=⟨_,rfl⟩
 obtain ⟨ROW,hROW⟩ : ∃ ROW : Array Value,ROW = ((l.map (Value.int .i64)).take i).toArray ++ Builtin.zeroCells (Value.int .i64 0).cells (n + 1 - i) ++ Builtin.zeroCells (Value.int .i64 0).cells (G - (n + 1)):=⟨_,rfl⟩
 have hGn : n + 1 ≤ G:=by rw [hG];exact grownCap_ge w _ _ _
 have hGm : G ≤ maxLen:=by rw [hG];exact grownCap_le_maxLen w (n + 1) c 2 (by unfold maxLen;omega)
 rw [← hG] at hrz
 rw [← hROW] at hrz
 have hRs : ROW.size = G:=by
  rw [hROW]
  simp [Builtin.zeroCells,Value.cells,hl]
  omega
 have hRt : ROW.toList.take i = (l.map (Value.int .i64)).take i:=by
  rw [hROW]
  simp only [Array.toList_append,List.append_assoc]
  rw [List.take_append_of_le_length (by simp [hl];omega)]
  rw [List.take_of_length_le (by simp;omega)]
 obtain ⟨W1,hW1⟩ : ∃ W1,W1 = w.drew.alloc (.cells ROW 2):=⟨_,rfl⟩
 have hB1 : Below w.heap.size w W1:=by rw [hW1];exact (Below.refl _ w).drew.alloc (by simp) _
 have hN1 : W1.heap[w.heap.size]? = some (.cells ROW 2 (0,0)):=by rw [hW1];exact heap_alloc_new w.drew _
 rw [← hW1] at hrz
 clear hW1 hROW hG hik hold hkk
 have hcpA : ∀ (W : World),W.heap = W1.heap → ∀ ty dc,(Builtin.copy_ #[176,176] ty #[.slice (some ⟨w.heap.size,i,none⟩) (n + 1 - i) dc,.slice (some ⟨g,0,none⟩) 1 1]).run Tryz.prog W = .ok (goInt 1) (W.setCells w.heap.size i [.int .i64 x]):=fun W hW ty dc =>
  run_copy_cells W _ _ ty 2 w.heap.size i (n + 1 - i) dc ⟨g,0,none⟩ 1 1 [.int .i64 x] Tryz.underlying176 size_i64 (by simp only [List.length_cons,List.length_nil,Nat.min_def];split <;> omega)
   (fun j v hj=>by rw [Ka4,Nat.zero_add];exact Kab (w:=W) (by rw [hW,hB1.block g hgw];exact hg) (by simpa using hj))
   (fun j hj=>by
     have hj0 : j = 0:=by simpa using hj
     subst hj0
     have:=Kab (w:=W) (o:=i + 0) (by rw [hW];exact hN1) (Array.getElem?_eq_getElem (show i + 0 < ROW.size by omega))
     rw [this];rfl)
   (fun j hj=>Kav (w:=W) (o:=i + j) (by rw [hW];exact hN1)) (by simp [Value.oneCell'])
 obtain ⟨W2,hW2⟩ : ∃ W2,W2 = W1.setCells w.heap.size i [.int .i64 x]:=⟨_,rfl⟩
 have hcpA2:=hcpA W1 rfl
 rw [← hW2] at hcpA2
 have hT2 : Touch (fun c=>c = w.heap.size) W1 W2:=by rw [hW2];exact Kds _ _ (Touch.refl _ _)
 have hN2 : W2.heap[w.heap.size]? = some (.cells (layAt ROW.toList i [.int .i64 x]).toArray 2 (0,0)):=by rw [hW2];exact Kd5 _ _ _ _ hN1
 have hB2 : W2.heap[b]? = some (.cells cur 2 (0,0)):=hT2.heap ((hB1.block b hbw).trans hb) (by omega)
 have hcpB : ∀ (W : World),W.heap = W2.heap → ∀ ty dc sc,(Builtin.copy_ #[176,176] ty #[.slice (some ⟨w.heap.size,i + 1,none⟩) (n - i) dc,.slice (some ⟨b,i,none⟩) (n - i) sc]).run Tryz.prog W = .ok (goInt ((l.map (Value.int .i64)).drop i).length) (W.setCells w.heap.size (i + 1) ((l.map (Value.int .i64)).drop i)):=fun W hW ty dc sc =>
  run_copy_cells W _ _ ty 2 w.heap.size (i + 1) (n - i) dc ⟨b,i,none⟩ (n - i) sc ((l.map (Value.int .i64)).drop i) Tryz.underlying176 size_i64 (by rw [hdl];simp)
   (fun j v hj=>by
     rw [List.getElem?_drop] at hj
     have hlt : i + j < n:=by have:=(List.getElem?_eq_some_iff.1 hj).1;omega
     rw [Ka4]
     exact Kab (w:=W) (o:=i + j) (by rw [hW];exact hB2) (by rw [← hgs _ hlt];exact hj))
   (fun j hj=>by
     have:=Kab (w:=W) (o:=i + 1 + j) (by rw [hW];exact hN2) (Array.getElem?_eq_getElem (show i + 1 + j < _ by rw [List.size_toArray,Kd8];simp [hRs];omega))
     rw [this];rfl)
   (fun j hj=>Kav (w:=W) (o:=i + 1 + j) (by rw [hW];exact hN2)) (fun v hv=>ones_i64 v (List.mem_of_mem_drop hv))
 have hfin : ∀ W : World,W.heap = W2.heap → W.os = W2.os → W.tape = W2.tape → W.output = W2.output → InsPost w (.slice (some ⟨b,0,none⟩) n c) n (insAt i x l) (.returned (.slice (some ⟨w.heap.size,0,none⟩) (n + 1) G)) (W.setCells w.heap.size (i + 1) ((l.map (Value.int .i64)).drop i)):=by
  intro W e1 e2 e3 e4
  have hW : W.heap[w.heap.size]? = some (.cells (layAt ROW.toList i [.int .i64 x]).toArray 2 (0,0)):=by rw [e1];exact hN2
  have hT : Touch (fun _=>False) w W:=by
   refine ⟨e2.trans (hT2.os.trans hB1.os),e3.trans (hT2.tape.trans hB1.tape),e4.trans (hT2.output.trans hB1.output),?_,fun d hd _=>?_⟩
   ·rw [e1];exact Nat.le_trans hB1.size hT2.size
   ·rw [e1,hT2.block d (Nat.lt_of_lt_of_le hd hB1.size) (by omega)];exact hB1.block d hd
  have hT3 : Touch (fun _=>False) w (W.setCells w.heap.size (i + 1) ((l.map (Value.int .i64)).drop i)):=by
   have h3:=Kds (b:=w.heap.size) ((l.map (Value.int .i64)).drop i) (i + 1) (Touch.refl (fun c=>c = w.heap.size) W)
   exact hT.step h3 fun d hd e=>by omega
  refine ⟨_,rfl,Kdi (Kd5 _ _ _ _ hW) hGn hGm ?_ ?_ ?_,hT3.mono fun _ _ h=>h.elim,.inr rfl,hT3.size⟩
  ·rw [List.size_toArray,Kd8,Kd8];simp [hRs]
  ·rw [Nat.mul_one]
   have:=lay_grow (cur:=ROW.toList) (xs:=l.map (Value.int .i64)) (v:=.int .i64 x) (by simpa [hRs] using hGn) hRt hlen (Nat.le_of_lt hi)
   simp only at this ⊢
   rw [this]
   unfold insAt
   simp [List.map_take,List.map_drop]
  ·unfold insAt;simp [hl];omega
 have HF:=yh hfin
 have HRZ:=yh hrz
 have HBB:=yh hcpB
 have hw1 : IntKind.i64.wrap ((i : Int) + 1) = (i : Int) + 1:=by rw [IntKind.wrap_i64];omega
 have hw2 : IntKind.i64.wrap ((n : Int) + 1) = (n : Int) + 1:=by rw [IntKind.wrap_i64];omega
 have hw3 : IntKind.i64.wrap ((n : Int) + 1 - (i : Int)) = (n : Int) + 1 - (i : Int):=by rw [IntKind.wrap_i64];omega
 have hG63 : G ≤ 9223372036854775807:=by unfold maxLen at hGm;omega
 have hGi : ¬ (G = i):=by omega
 have hGim : ¬ (G = i + 1):=by omega
 have hci : ¬ (c = i):=by omega
 have hbN : b ≠ w.heap.size:=by omega
 have hb1 : (0 : Int) ≤ (i : Int) + 1:=by omega
 have hin : i ≤ n:=by omega
 have htn : ((i : Int) + 1).toNat = i + 1:=by omega
 have hb3 : (i : Int) ≤ (n : Int):=by omega
 have hb4 : (i : Int) ≤ (n : Int) + 1:=by omega
 clear hb hs ht hl hg hlen hgs hdl hrz hcpA hcpB hfin hT2 hN2 hB2 hB1 hN1 hRs hRt hGm hi0 hz0 hzs hzb hW2
 go_enter Tryz.func159,Tryz.ntmps159
 go_wp2_with (at_builtin;refine Lib.wpList_append_run _ rfl _ _ _ _ rfl _ _ rfl rfl _ _ (HRZ.out _) ?_)
 go_region_law_o (refine step_copy_runI rfl _ _ 176 176 rfl (.slice (some ⟨w.heap.size,i + 1,none⟩) (n - i) (G - (i + 1))) (.slice (some ⟨b,i,none⟩) (n - i) (c - i)) (by simp [Act.eval,Act.put]) (by simp [Act.eval,Act.put]) (HBB.out _ (by rfl) _ _ _) ?_)
 go_wp2
 go_ret
 exact HF.out _ (by rfl) (by rfl) (by rfl) (by rfl)
theorem insert_any {w : World} {v : Value} {n i g : Nat} {l : List Int} {x : Int} (hown : w.ownsRow 0 2 1 v n (l.map (Value.int .i64))) (hi : i ≤ n) (hg : w.heap[g]? = some (.cells #[.int .i64 x] 2 (0,0))) (hne : v.ownBlock ≠ some g) (hn : n ≤ 1000000) :
 Calls Tryz.prog 159 #[v,.int .i64 (i : Int),.slice (some ⟨g,0,none⟩) 1 1] w (InsPost w v n (insAt i x l)):=by
 have hl : l.length = n:=by have:=hown.1;simpa using this
 by_cases he : i = n
 ·subst he;exact ins_end hown hg hn
 ·rcases hown.2 with ⟨rfl,rfl⟩ | ⟨b,c,cur,rfl,_,hb,hnc,hcm,hs,ht⟩
  ·omega
  ·rw [Nat.mul_one] at hs ht
   by_cases hr : n + 1 ≤ c
   ·exact ins_shift hb hr hcm hs ht hl (by omega) hg (fun e=>hne (by rw [e];rfl)) hn
   ·exact ins_grow hb hnc (by omega) hs ht hl (by omega) hg hn
def insS (x : Int) (l : List Int) : List Int:=if l.contains x then l else insAt (l.countP (· < x)) x l
theorem split_less {x : Int} : ∀ {l : List Int},l.Pairwise (· < ·) → (∀ a ∈ l.take (l.countP (· < x)),a < x) ∧ ∀ a ∈ l.drop (l.countP (· < x)),x ≤ a
 | [],_=>by simp
 | a :: l,h=>by
   have h2:=List.pairwise_cons.1 h
   obtain ⟨i1,i2⟩:=split_less (x:=x) h2.2
   by_cases ha : a < x
   ·rw [List.countP_cons_of_pos (by simpa using ha)]
    refine ⟨fun b hb=>?_,fun b hb=>?_⟩
    ·rw [List.take_succ_cons,List.mem_cons] at hb
     rcases hb with rfl | hb
     ·exact ha
     ·exact i1 b hb
    ·rw [List.drop_succ_cons] at hb
     exact i2 b hb
   ·have : l.countP (· < x) = 0:=by
     rw [List.countP_eq_zero]
     intro b hb
     have:=h2.1 b hb
     simp;omega
    rw [List.countP_cons_of_neg (by simpa using ha),this]
    refine ⟨fun b hb=>by simp at hb,fun b hb=>?_⟩
    rw [List.drop_zero,List.mem_cons] at hb
    rcases hb with rfl | hb
    ·omega
    ·have:=h2.1 b hb;omega
theorem insS_rise {x : Int} {l : List Int} (h : l.Pairwise (· < ·)) : (insS x l).Pairwise (· < ·):=by
 unfold insS
 split
 ·exact h
 ·rename_i hc
  have hx : x ∉ l:=by simpa using hc
  obtain ⟨h1,h2⟩:=split_less (x:=x) h
  have h3:=h
  rw [← List.take_append_drop (l.countP (· < x)) l,List.pairwise_append] at h3
  unfold insAt
  rw [List.pairwise_append,List.pairwise_cons]
  refine ⟨h3.1,⟨fun a ha=>?_,h3.2.1⟩,fun a ha b hb=>?_⟩
  ·have:=h2 a ha
   have : a ≠ x:=fun e=>hx (by rw [← e];exact List.mem_of_mem_drop ha)
   omega
  ·rcases List.mem_cons.1 hb with rfl | hb
   ·exact h1 a ha
   ·exact h3.2.2 a ha b hb
theorem insS_len (x : Int) (l : List Int) : (insS x l).length ≤ l.length + 1:=by
 unfold insS
 split
 ·omega
 ·unfold insAt
  have:=List.length_take_le' (l.countP (· < x)) l
  rw [List.length_append,List.length_cons,List.length_drop,List.length_take]
  have : l.countP (· < x) ≤ l.length:=List.countP_le_length
  omega
def setI (f : Int → List Int) (k : Int) (l : List Int) : Int → List Int:=fun j=>if j = k then l else f j
theorem setI_self (f : Int → List Int) (k : Int) (l : List Int) : setI f k l k = l:=by unfold setI;rw [if_pos rfl]
theorem setI_id (f : Int → List Int) (k : Int) : setI f k (f k) = f:=by
 funext j;unfold setI;split <;> simp_all
def linkK (f : Int → List Int) (k r : Int) : Int → List Int:=setI f k (insS r (f k))
structure GS where
 nodes : List NodeD
 rels : List RelD
 adj : Int → List Int
 nn : Int
 nr : Int
def GS.graph (s : GS) : GraphD:=⟨s.nodes,s.rels,s.nn,s.nr⟩
def GS.link (s : GS) (r : RelD) : GS:={ s with adj:=linkK (linkK s.adj r.src r.id) r.dst r.id }
def Rows (ma : Int → Option Value) (b : Nat) : Prop:=∃ k v,ma k = some v ∧ v.ownBlock = some b
def rowAt (ma : Int → Option Value) (k : Int) : Value:=(ma k).getD (.slice none 0 0)
structure AtM (S : Nat → Prop) (W : World) (ba : Nat) (ma : Int → Option Value) (f : Int → List Int) : Prop where
 map : IntMap W ba ma
 own : S ba
 nil : ∀ k,ma k = none → f k = []
 rows : ∀ k v,ma k = some v → OwnsP W S 2 1 v (f k).length ((f k).map (Value.int .i64))
 apart : ∀ j k u v b,ma j = some u → ma k = some v → u.ownBlock = some b → v.ownBlock = some b → j = k
 rise : ∀ k,(f k).Pairwise (· < ·)
 few : ∀ k,(f k).length ≤ 1000000
section
variable {S S' : Nat → Prop} {W W' W1 W2 : World} {ba : Nat} {ma : Int → Option Value} {f : Int → List Int} {k : Int} {l : List Int} {v' : Value}
theorem AtM.row (h : AtM S W ba ma f) (k : Int) : OwnsP W S 2 1 (rowAt ma k) (f k).length ((f k).map (Value.int .i64)):=by
 unfold rowAt
 cases e : ma k with
 | none=>rw [h.nil k e];exact ⟨⟨rfl,.inl ⟨rfl,rfl⟩⟩,fun g hg=>by simp [Value.ownBlock] at hg⟩
 | some v=>exact h.rows k v e
theorem AtM.block (h : AtM S W ba ma f) {b : Nat} (hb : Rows ma b) : b < W.heap.size ∧ S b ∧ ∃ cs,W.heap[b]? = some (.cells cs 2 (0,0)):=by
 obtain ⟨k,v,hk,hv⟩:=hb
 have h1:=h.rows k v hk
 refine ⟨(h1.1.lt b hv).2,h1.2 b hv,?_⟩
 rcases h1.1.2 with ⟨rfl,_⟩ | ⟨g,c,cur,rfl,_,h2,_⟩
 ·simp [Value.ownBlock] at hv
 ·simp [Value.ownBlock] at hv;subst hv;exact ⟨cur,h2⟩
theorem AtM.not_map (h : AtM S W ba ma f) {b : Nat} {es : Array MapEntry} {clk : Nat} (hb : W.heap[b]? = some (.map es clk)) : ¬ Rows ma b:=fun hr=>by
 obtain ⟨_,_,cs,hc⟩:=h.block hr
 rw [hc] at hb
 cases hb
theorem AtM.ne (h : AtM S W ba ma f) : ¬ Rows ma ba:=by obtain ⟨es,clk,hb,_⟩:=h.map;exact h.not_map hb
theorem AtM.other (h : AtM S W ba ma f) {b : Nat} {t : TypeId} {cs : Array Value} (hb : W.heap[b]? = some (.cells cs t (0,0))) (ht : t ≠ 2) : b ≠ ba ∧ ¬ Rows ma b:=by
 refine ⟨fun e=>?_,fun hr=>?_⟩
 ·obtain ⟨es,clk,hm,_⟩:=h.map
  rw [e,hm] at hb;cases hb
 ·obtain ⟨_,_,cs',hc⟩:=h.block hr
  rw [hc] at hb;cases hb;exact ht rfl
theorem AtM.keep (h : AtM S W ba ma f) (hb : W'.heap[ba]? = W.heap[ba]?) (hk : ∀ b,Rows ma b → W'.heap[b]? = W.heap[b]?) : AtM S W' ba ma f :=
 ⟨h.map.of_heap hb,h.own,h.nil,fun k v e=>⟨Kci (h.rows k v e).1 fun g hg=>hk g ⟨k,v,e,hg⟩,(h.rows k v e).2⟩,h.apart,h.rise,h.few⟩
theorem AtM.below (h : AtM S W ba ma f) (g : Below W.heap.size W W') : AtM S W' ba ma f:=h.keep (g.block ba h.map.lt) fun b hb=>g.block b (h.block hb).1
theorem AtM.imp (h : AtM S W ba ma f) (hp : ∀ b,b < W.heap.size → S b → S' b) : AtM S' W ba ma f :=
 ⟨h.map,hp ba h.map.lt h.own,h.nil,fun k v e=>⟨(h.rows k v e).1,fun g hg=>hp g ((h.rows k v e).1.lt g hg).2 ((h.rows k v e).2 g hg)⟩,h.apart,h.rise,h.few⟩
theorem AtM.made {ba : Nat} (h : W.heap[ba]? = some (.map #[] 0)) (hs : S ba) : AtM S W ba (fun _=>none) (fun _=>[]) :=
 ⟨IntMap.fresh h,hs,fun _ _=>rfl,fun k v e=>by simp at e,fun j k u v b e=>by simp at e,fun _=>List.Pairwise.nil,fun _=>by simp⟩
theorem AtM.set {P : Program} {T K E : TypeId} (h : AtM S W ba ma f) (hS : ∀ b,W.heap.size ≤ b → S b) (hT : P.underlying T = some (.map K E)) (hK : P.underlying K = some (.int .i64)) (ht : Touch (fun b=>(rowAt ma k).ownBlock = some b) W W1) (hrow : W1.ownsRow 0 2 1 v' l.length (l.map (Value.int .i64)))
 (hblk : v'.ownBlock = (rowAt ma k).ownBlock ∨ ∃ b,W.heap.size ≤ b ∧ v'.ownBlock = some b) (hr : l.Pairwise (· < ·)) (hf : l.length ≤ 1000000) :
 ∃ W2,(Instr.mapUpdate T (.map (some ba)) (.int .i64 k) v').run P W1 = .ok () W2 ∧ AtM S W2 ba (updI ma k v') (setI f k l) ∧ (∀ b,b < W.heap.size → Rows (updI ma k v') b → Rows ma b) ∧ Touch (fun b=>b = ba ∨ Rows ma b) W W2:=by
 have hk : ∀ b,(rowAt ma k).ownBlock = some b → ∃ u,ma k = some u ∧ u.ownBlock = some b:=fun b hb=>by
  unfold rowAt at hb
  cases e : ma k with
  | none=>rw [e] at hb;simp [Value.ownBlock] at hb
  | some u=>rw [e] at hb;exact ⟨u,rfl,hb⟩
 have hkR : ∀ b,(rowAt ma k).ownBlock = some b → Rows ma b:=fun b hb=>by obtain ⟨u,h1,h2⟩:=hk b hb;exact ⟨k,u,h1,h2⟩
 have hba : (rowAt ma k).ownBlock ≠ some ba:=fun e=>h.ne (hkR _ e)
 have hm1 : IntMap W1 ba ma:=h.map.of_heap (ht.block ba h.map.lt hba)
 obtain ⟨W2,r1,r2,r3,r4⟩:=Kew (P:=P) hm1 hT hK k v'
 have hv : ∀ b,v'.ownBlock = some b → (Rows ma b ∨ W.heap.size ≤ b) ∧ b ≠ ba:=fun b hb=>by
  rcases hblk with e | ⟨b2,h2,e⟩
  ·rw [e] at hb
   have:=hkR b hb
   exact ⟨.inl this,fun e2=>h.ne (by rw [← e2];exact this)⟩
  ·rw [e] at hb
   cases hb
   have:=h.map.lt
   exact ⟨.inr h2,by omega⟩
 have hold : ∀ j u,j ≠ k → ma j = some u → ∀ b,u.ownBlock = some b → W2.heap[b]? = W.heap[b]?:=fun j u hj hu b hb=>by
  have hR : Rows ma b:=⟨j,u,hu,hb⟩
  have hlt:=(h.block hR).1
  have e1 : W1.heap[b]? = W.heap[b]?:=ht.block b hlt fun e=>by
   obtain ⟨u2,h1,h2⟩:=hk b e
   exact hj (h.apart j k u u2 b hu h1 hb h2)
  rw [← e1]
  exact r2.block b (Nat.lt_of_lt_of_le hlt ht.size) fun e=>h.ne (by rw [← e];exact hR)
 refine ⟨W2,r1,⟨r3,h.own,fun j e=>?_,fun j u e=>?_,?_,fun j=>?_,fun j=>?_⟩,?_,?_⟩
 ·unfold updI at e
  unfold setI
  split at e
  ·cases e
  ·rename_i hj;rw [if_neg hj];exact h.nil j e
 ·unfold updI at e
  by_cases hj : j = k
  ·rw [if_pos hj] at e
   cases e
   subst hj
   rw [setI_self]
   refine ⟨Kci hrow fun g hg=>r2.block g (hrow.lt g hg).2 (hv g hg).2,fun g hg=>?_⟩
   rcases (hv g hg).1 with h1 | h1
   ·exact (h.block h1).2.1
   ·exact hS g h1
  ·rw [if_neg hj] at e
   unfold setI
   rw [if_neg hj]
   have h1:=h.rows j u e
   exact ⟨Kci h1.1 fun g hg=>hold j u hj e g hg,h1.2⟩
 ·intro i j u v b e1 e2 h1 h2
  unfold updI at e1 e2
  have key : ∀ i u,i ≠ k → ma i = some u → u.ownBlock = some b → v'.ownBlock ≠ some b:=fun i u hi hu h1 e=>by
   have hlt:=(h.block ⟨i,u,hu,h1⟩).1
   rcases hblk with e2 | ⟨b2,h2,e2⟩
   ·rw [e2] at e
    obtain ⟨u2,h3,h4⟩:=hk b e
    exact hi (h.apart i k u u2 b hu h3 h1 h4)
   ·rw [e2] at e;cases e;omega
  by_cases hi : i = k
  ·by_cases hj : j = k
   ·rw [hi,hj]
   ·rw [if_pos hi] at e1;rw [if_neg hj] at e2;cases e1
    exact absurd h1 (key j v hj e2 h2)
  ·by_cases hj : j = k
   ·rw [if_neg hi] at e1;rw [if_pos hj] at e2;cases e2
    exact absurd h2 (key i u hi e1 h1)
   ·rw [if_neg hi] at e1;rw [if_neg hj] at e2
    exact h.apart i j u v b e1 e2 h1 h2
 ·unfold setI;split
  ·exact hr
  ·exact h.rise j
 ·unfold setI;split
  ·exact hf
  ·exact h.few j
 ·rintro b hlt ⟨j,u,e,hb⟩
  unfold updI at e
  by_cases hj : j = k
  ·rw [if_pos hj] at e;cases e
   rcases (hv b hb).1 with h1 | h1
   ·exact h1
   ·omega
  ·rw [if_neg hj] at e;exact ⟨j,u,e,hb⟩
 ·exact (ht.mono fun b _ e=>.inr (hkR b e)).trans ((r2.mono fun b _ e=>.inl e))
end
structure GB where
 gx : Nat
 bn : Nat
 br : Nat
 ba : Nat
def GSp (B : GB) (ma : Int → Option Value) (b : Nat) : Prop:=b = B.gx ∨ b = B.bn ∨ b = B.br ∨ b = B.ba ∨ Rows ma b
def gBoxV (B : GB) (s : GS) : Array Value:=#[.map (some B.bn),.map (some B.br),.map (some B.ba),.int .i64 s.nn,.int .i64 s.nr]
structure GM (S : Nat → Prop) (W : World) (B : GB) (ma : Int → Option Value) (s : GS) : Prop where
 box : W.heap[B.gx]? = some (.cells (gBoxV B s) 133 (0,0))
 nodes : MapOf NOwn NodeD.id W (fun b=>S b ∧ ¬ GSp B ma b) B.bn s.nodes
 rels : MapOf ROwn RelD.id W (fun b=>S b ∧ ¬ GSp B ma b) B.br s.rels
 adj : AtM S W B.ba ma s.adj
 own : S B.gx ∧ S B.bn ∧ S B.br
 ne : B.bn ≠ B.br ∧ B.bn ≠ B.ba ∧ B.br ≠ B.ba
section
variable {S S' : Nat → Prop} {W W' : World} {B : GB} {ma ma' : Int → Option Value} {s : GS} {f : Int → List Int}
theorem GM.lts (h : GM S W B ma s) : B.gx < W.heap.size ∧ B.bn < W.heap.size ∧ B.br < W.heap.size ∧ B.ba < W.heap.size:=⟨(Array.getElem?_eq_some_iff.1 h.box).1,h.nodes.lt,h.rels.lt,h.adj.map.lt⟩
theorem GM.sp_lt (h : GM S W B ma s) {b : Nat} (hb : GSp B ma b) : b < W.heap.size ∧ S b:=by
 obtain ⟨h1,h2,h3,h4⟩:=h.lts
 rcases hb with rfl | rfl | rfl | rfl | hb
 ·exact ⟨h1,h.own.1⟩
 ·exact ⟨h2,h.own.2.1⟩
 ·exact ⟨h3,h.own.2.2⟩
 ·exact ⟨h4,h.adj.own⟩
 ·exact ⟨(h.adj.block hb).1,(h.adj.block hb).2.1⟩
theorem GM.nes (h : GM S W B ma s) : (B.gx ≠ B.bn ∧ B.gx ≠ B.br ∧ B.gx ≠ B.ba) ∧ ¬ Rows ma B.gx ∧ ¬ Rows ma B.bn ∧ ¬ Rows ma B.br ∧ ¬ Rows ma B.ba:=by
 obtain ⟨m1,⟨e1,c1,hn,_⟩,_⟩:=h.nodes
 obtain ⟨m2,⟨e2,c2,hr,_⟩,_⟩:=h.rels
 have ho:=h.adj.other h.box (by decide)
 refine ⟨⟨fun e=>?_,fun e=>?_,ho.1⟩,ho.2,h.adj.not_map hn,h.adj.not_map hr,h.adj.ne⟩
 ·have:=h.box;rw [e,hn] at this;cases this
 ·have:=h.box;rw [e,hr] at this;cases this
theorem GM.below (h : GM S W B ma s) (g : Below W.heap.size W W') : GM S W' B ma s:=by
 obtain ⟨h1,h2,h3,h4⟩:=h.lts
 exact ⟨(g.block _ h1).trans h.box,h.nodes.keep Kas (g.block _ h2) fun b _ hb=>g.block b hb,h.rels.keep Ka5 (g.block _ h3) fun b _ hb=>g.block b hb,h.adj.below g,h.own,h.ne⟩
theorem GM.imp (h : GM S W B ma s) (hp : ∀ b,b < W.heap.size → S b → S' b) : GM S' W B ma s:=by
 obtain ⟨h1,h2,h3,h4⟩:=h.lts
 exact ⟨h.box,h.nodes.imp Kas fun b hb ⟨x,y⟩=>⟨hp b hb x,y⟩,h.rels.imp Ka5 fun b hb ⟨x,y⟩=>⟨hp b hb x,y⟩,h.adj.imp hp,⟨hp _ h1 h.own.1,hp _ h2 h.own.2.1,hp _ h3 h.own.2.2⟩,h.ne⟩
theorem GM.linked (h : GM S W B ma s) (ha : AtM S W' B.ba ma' f) (hsub : ∀ b,b < W.heap.size → Rows ma' b → Rows ma b) (ht : Touch (fun b=>b = B.ba ∨ Rows ma b) W W') : GM S W' B ma' { s with adj:=f }:=by
 obtain ⟨⟨n1,n2,n3⟩,n4,n5,n6,n7⟩:=h.nes
 obtain ⟨l1,l2,l3,l4⟩:=h.lts
 have hQ : ∀ b,b < W.heap.size → (S b ∧ ¬ GSp B ma b) → (S b ∧ ¬ GSp B ma' b):=fun b hb ⟨x,y⟩=>⟨x,fun hs=>y (by
  rcases hs with e | e | e | e | e
  ·exact .inl e
  ·exact .inr (.inl e)
  ·exact .inr (.inr (.inl e))
  ·exact .inr (.inr (.inr (.inl e)))
  ·exact .inr (.inr (.inr (.inr (hsub b hb e)))))⟩
 have hK : ∀ b,(S b ∧ ¬ GSp B ma b) → b < W.heap.size → W'.heap[b]? = W.heap[b]?:=fun b ⟨_,y⟩ hb=>ht.block b hb fun e=>y (by
  rcases e with e | e
  ·exact .inr (.inr (.inr (.inl e)))
  ·exact .inr (.inr (.inr (.inr e))))
 refine ⟨(ht.block _ l1 ?_).trans h.box,?_,?_,ha,h.own,h.ne⟩
 ·rintro (e | e)
  ·exact n3 e
  ·exact n4 e
 ·refine (MapOf.keep Kas (h.nodes.imp Kas (Q':=fun b=>(S b ∧ ¬ GSp B ma' b) ∧ (S b ∧ ¬ GSp B ma b)) fun b hb x=>⟨hQ b hb x,x⟩) (ht.block _ l2 ?_) fun b hb hl=>hK b hb.2 hl).imp Kas fun b _ x=>x.1
  rintro (e | e)
  ·exact h.ne.2.1 e
  ·exact n5 e
 ·refine (MapOf.keep Ka5 (h.rels.imp Ka5 (Q':=fun b=>(S b ∧ ¬ GSp B ma' b) ∧ (S b ∧ ¬ GSp B ma b)) fun b hb x=>⟨hQ b hb x,x⟩) (ht.block _ l3 ?_) fun b hb hl=>hK b hb.2 hl).imp Ka5 fun b _ x=>x.1
  rintro (e | e)
  ·exact h.ne.2.2 e
  ·exact n6 e
theorem GM.noded (h : GM S W B ma s) {l : List NodeD} (hm : MapOf NOwn NodeD.id W' (fun b=>S b ∧ ¬ GSp B ma b) B.bn l) (ht : Touch (fun b=>b = B.bn) W W') : GM S W' B ma { s with nodes:=l }:=by
 obtain ⟨⟨n1,n2,n3⟩,n4,n5,n6,n7⟩:=h.nes
 obtain ⟨l1,l2,l3,l4⟩:=h.lts
 exact ⟨(ht.block _ l1 n1).trans h.box,hm,h.rels.keep Ka5 (ht.block _ l3 h.ne.1.symm) fun b hb hl=>ht.block b hl fun e=>hb.2 (.inr (.inl e)),
  h.adj.keep (ht.block _ l4 h.ne.2.1.symm) fun b hb=>ht.block b (h.adj.block hb).1 fun e=>n5 (by rw [← e];exact hb),h.own,h.ne⟩
theorem GM.reled (h : GM S W B ma s) {l : List RelD} (hm : MapOf ROwn RelD.id W' (fun b=>S b ∧ ¬ GSp B ma b) B.br l) (ht : Touch (fun b=>b = B.br) W W') : GM S W' B ma { s with rels:=l }:=by
 obtain ⟨⟨n1,n2,n3⟩,n4,n5,n6,n7⟩:=h.nes
 obtain ⟨l1,l2,l3,l4⟩:=h.lts
 exact ⟨(ht.block _ l1 n2).trans h.box,h.nodes.keep Kas (ht.block _ l2 h.ne.1) fun b hb hl=>ht.block b hl fun e=>hb.2 (.inr (.inr (.inl e))),hm,
  h.adj.keep (ht.block _ l4 h.ne.2.2.symm) fun b hb=>ht.block b (h.adj.block hb).1 fun e=>n6 (by rw [← e];exact hb),h.own,h.ne⟩
theorem GM.boxed (h : GM S W B ma s) {s' : GS} (he : s'.nodes = s.nodes ∧ s'.rels = s.rels ∧ s'.adj = s.adj) (hb : W'.heap[B.gx]? = some (.cells (gBoxV B s') 133 (0,0))) (ht : Touch (fun b=>b = B.gx) W W') : GM S W' B ma s':=by
 obtain ⟨⟨n1,n2,n3⟩,n4,n5,n6,n7⟩:=h.nes
 obtain ⟨l1,l2,l3,l4⟩:=h.lts
 obtain ⟨e1,e2,e3⟩:=he
 refine ⟨hb,?_,?_,?_,h.own,h.ne⟩
 ·rw [e1];exact h.nodes.keep Kas (ht.block _ l2 n1.symm) fun b hb hl=>ht.block b hl fun e=>hb.2 (.inl e)
 ·rw [e2];exact h.rels.keep Ka5 (ht.block _ l3 n2.symm) fun b hb hl=>ht.block b hl fun e=>hb.2 (.inl e)
 ·rw [e3];exact h.adj.keep (ht.block _ l4 n3.symm) fun b hb=>ht.block b (h.adj.block hb).1 fun e=>n4 (by rw [← e];exact hb)
end
def SeaPost (w : World) (l : List Int) (x : Int) (e : Ending) (w' : World) : Prop:=e = .returned (.tuple #[.int .i64 ((l.countP (· < x) : Nat) : Int),.bool (l.contains x)]) ∧ ∃ q,w' = w.drewN q
theorem sea_nil (x : Int) (w : World) : Calls Tryz.prog 158 #[.slice none 0 0,.int .i64 x] w (SeaPost w [] x):=by
 have mixed : Tryz.prog.follows Departure.mixedOrders = true:=by kernel_rfl
 have e1 : ∀ args w,(callFunc 174 args).run Tryz.prog w = .ok (.enter 174 args) w:=enters_of Tryz.func174 (by kernel_rfl) rfl
 have e2 : ∀ args w,(callFunc 175 args).run Tryz.prog w = .ok (.enter 175 args) w:=enters_of Tryz.func175 (by kernel_rfl) rfl
 go_enter Tryz.func158,Tryz.ntmps158
 go_wp2
 go_loopw [7,8] (fun s7 s8 wr=>s7 = .int .i64 0 ∧ s8 = .int .i64 0 ∧ ∃ q,wr = w.drewN q) (fun _ _ _=>0)
 case atStart=>exact ⟨rfl,rfl,0,rfl⟩
 case round =>
  obtain ⟨rfl,rfl,q,rfl⟩:=hrel
  go_wp2
  go_ret2
  exact ⟨rfl,_,rfl⟩
theorem search_any {w : World} {v : Value} {n : Nat} {l : List Int} (x : Int) (hown : w.ownsRow 0 2 1 v n (l.map (Value.int .i64))) (hl : l.Pairwise (· < ·)) (hn : n ≤ 1000000) : Calls Tryz.prog 158 #[v,.int .i64 x] w (SeaPost w l x):=by
 have hlen : l.length = n:=by have:=hown.1;simpa using this
 rcases hown.2 with ⟨rfl,h0⟩ | ⟨b,c,cur,rfl,_,hb,hnc,hcm,hs,ht⟩
 ·have : l = []:=List.eq_nil_of_length_eq_zero (by omega)
  subst this
  exact sea_nil x w
 ·rw [Nat.mul_one] at ht
  have h:=AnyG.slices_BinarySearch_int Tryz.searchI b 0 n c l x w (Nat.le_of_eq hlen.symm) (by omega) (fun j hj=>by
   rw [Nat.zero_add]
   refine Kab (o:=j) hb ?_
   have h1 : (l.map (Value.int .i64))[j]? = cur.toList[j]?:=by rw [← ht,List.getElem?_take,if_pos (by omega)]
   rw [← Array.getElem?_toList,← h1,List.getElem?_map,List.getElem?_eq_getElem hj,List.getD_eq_getElem?_getD,List.getElem?_eq_getElem hj]
   rfl) (by rw [List.take_of_length_le (Nat.le_of_eq hlen)];exact hl.imp fun h=>Int.le_of_lt h)
  rw [List.take_of_length_le (Nat.le_of_eq hlen)] at h
  exact h
theorem Kcm (i : Nat) (h : i < 5) (b : Nat) (W : World) : (Instr.fieldAt 133 (.pointer (some ⟨b,0,none⟩)) i).run Tryz.prog W = .ok (.pointer (some ⟨b,i,none⟩)) W:=by
 match i,h with
 | 0,_=>simp [go_sem]
 | 1,_=>simp [go_sem]
 | 2,_=>simp [go_sem]
 | 3,_=>simp [go_sem]
 | 4,_=>simp [go_sem]
theorem fa_rel0 (b : Nat) (W : World) : (Instr.fieldAt 72 (.pointer (some ⟨b,0,none⟩)) 0).run Tryz.prog W = .ok (.pointer (some ⟨b,0,none⟩)) W:=by simp [go_sem]
theorem run_bs2 (x y : Int) (w : World) : (Instr.buildSlice 176 2 #[(0,.int .i64 x),(1,.int .i64 y)]).run Tryz.prog w = .ok (.slice (some ⟨w.heap.size,0,none⟩) 2 2) (w.alloc (.cells #[.int .i64 x,.int .i64 y] 2)):=by
 simp [Instr.buildSlice,go_sem,Instr.fill]
theorem op_bs2 {a : Act} {w w' : World} {ops : Array Oper} {rest : List Oper} {Q : Exit → Act → World → Prop} {dst : Option Tmp} {ty : TypeId} {pos : String} {af : Array Edge} {t : TypeId} {n : Nat} {x y : Operand} {u1 u2 v : Value} (hr : (Instr.buildSlice t n #[(0,u1),(1,u2)]).run Tryz.prog w = .ok v w') (hx : a.eval x = u1) (hy : a.eval y = u2) (h : wpList Tryz.prog ops Q rest (a.put dst v) w') :
 wpList Tryz.prog ops Q (⟨dst,.buildSlice t n #[(0,x),(1,y)],ty,pos,af,none⟩ :: rest) a w:=Kbf rfl (exec_buildSlice2 rfl hx hy hr) h
theorem linkK_len (f : Int → List Int) (k r j : Int) : (linkK f k r j).length ≤ (f j).length + 1:=by
 unfold linkK setI
 split
 ·rename_i e;subst e;exact insS_len r (f j)
 ·omega
def linkJ (f : Int → List Int) (r : RelD) (j : Nat) : Int → List Int:=([r.src,r.dst].take j).foldl (fun f k=>linkK f k r.id) f
theorem linkJ_succ (f : Int → List Int) (r : RelD) {j : Nat} {k : Int} (h : [r.src,r.dst][j]? = some k) : linkJ f r (j + 1) = linkK (linkJ f r j) k r.id:=by
 unfold linkJ
 rw [List.take_add_one,h]
 simp
theorem linkJ_len (f : Int → List Int) (r : RelD) (j : Nat) (k : Int) : (linkJ f r j k).length ≤ (f k).length + 2:=by
 unfold linkJ
 have h1:=linkK_len f r.src r.id k
 have h2:=linkK_len (linkK f r.src r.id) r.dst r.id k
 match j with
 | 0=>simp
 | 1=>simp only [List.take_succ_cons,List.take_zero,List.foldl_cons,List.foldl_nil];omega
 | j + 2=>simp only [List.take_succ_cons,List.take_nil,List.foldl_cons,List.foldl_nil];omega
def LInv (S : Nat → Prop) (w1 W : World) (ba : Nat) (ma : Int → Option Value) (f : Int → List Int) : Prop :=
 ∃ ma',AtM S W ba ma' f ∧ (∀ b,b < w1.heap.size → Rows ma' b → Rows ma b) ∧ Touch (fun b=>b = ba ∨ Rows ma b) w1 W
def Kdl (r : RelD) (p : Option Addr) (c : Nat) : Array Value:=#[.int .i64 r.id,.int .i64 r.src,.int .i64 r.dst,.string (strB r.type),.slice p r.props.length c]
theorem look_row {W : World} {ba : Nat} {ma : Int → Option Value} (h : IntMap W ba ma) (k : Int) : (Instr.lookup 131 (.map (some ba)) (.int .i64 k) false).run Tryz.prog W = .ok (rowAt ma k) W :=
 Kdr h Tryz.underlying131 Tryz.underlying2 Tryz.zeroValue176 k
theorem link_start {S : Nat → Prop} {w : World} {B : GB} {ma : Int → Option Value} {f : Int → List Int} {gc : Array Value} (hb : w.heap[B.gx]? = some (.cells gc 133 (0,0))) (h : AtM S w B.ba ma f) (r : RelD) (p : Option Addr) (c : Nat) :
 ∃ w1,(Instr.buildSlice 176 2 #[(0,.int .i64 r.src),(1,.int .i64 r.dst)]).run Tryz.prog (w.alloc (.cells (Kdl r p c) 72)) = .ok (.slice (some ⟨w.heap.size + 1,0,none⟩) 2 2) w1 ∧ w1.heap[B.gx]? = some (.cells gc 133 (0,0)) ∧ w1.heap[w.heap.size]? = some (.cells (Kdl r p c) 72 (0,0)) ∧ w1.heap[w.heap.size + 1]? = some (.cells #[.int .i64 r.src,.int .i64 r.dst] 2 (0,0)) ∧ w1.heap.size = w.heap.size + 2 ∧ Below w.heap.size w w1 ∧ LInv S w1 w1 B.ba ma f:=by
 have hb1:=Kac (w:=w) (.cells (Kdl r p c) 72)
 have hb2:=Kac (w:=w.alloc (.cells (Kdl r p c) 72)) (.cells #[.int .i64 r.src,.int .i64 r.dst] 2)
 have hbc:=Kaa hb1 hb2
 have hs : (w.alloc (.cells (Kdl r p c) 72)).heap.size = w.heap.size + 1:=by simp
 have hn:=heap_alloc_new (w.alloc (.cells (Kdl r p c) 72)) (.cells #[.int .i64 r.src,.int .i64 r.dst] 2)
 rw [hs] at hn
 refine ⟨_,by rw [run_bs2,hs],(hbc.block _ (Array.getElem?_eq_some_iff.1 hb).1).trans hb,Kai hb2 (by simp) (heap_alloc_new w _),hn,by simp,hbc,ma,h.below hbc,fun b _ h=>h,Touch.refl _ _⟩
theorem LInv.far {S : Nat → Prop} {w w1 W : World} {ba b : Nat} {ma : Int → Option Value} {f0 f : Int → List Int} (h0 : AtM S w ba ma f0) (h : LInv S w1 W ba ma f) (hb : w.heap.size ≤ b) (h1 : b < w1.heap.size) : W.heap[b]? = w1.heap[b]?:=by
 obtain ⟨m,_,_,hT⟩:=h
 refine hT.block b h1 ?_
 rintro (e | e)
 ·have:=h0.map.lt;omega
 ·have:=(h0.block e).1;omega
theorem LInv.box {S : Nat → Prop} {w w1 W : World} {ba b : Nat} {ma : Int → Option Value} {f0 f : Int → List Int} {cs : Array Value} (h0 : AtM S w ba ma f0) (h : LInv S w1 W ba ma f) (hb : w.heap[b]? = some (.cells cs 133 (0,0))) (h1 : w1.heap[b]? = some (.cells cs 133 (0,0))) : W.heap[b]? = some (.cells cs 133 (0,0)):=by
 obtain ⟨m,_,_,hT⟩:=h
 have:=h0.other hb (by decide)
 exact (hT.block b (Array.getElem?_eq_some_iff.1 h1).1 fun e=>e.elim this.1 this.2).trans h1
theorem LInv.below {S : Nat → Prop} {w1 W W' : World} {ba : Nat} {ma : Int → Option Value} {f : Int → List Int} (h : LInv S w1 W ba ma f) (g : Below W.heap.size W W') : LInv S w1 W' ba ma f:=by
 obtain ⟨m,h1,h2,h3⟩:=h
 exact ⟨m,h1.below g,h2,h3.grow g⟩
theorem exec_extr {P : Program} {a : Act} {w : World} {o : Oper} {x : Operand} {k : Nat} {vs : Array Value} {v : Value} (ho : o.op = .extract x k) (hx : a.eval x = .tuple vs) (hv : vs[k]? = some v) : (execOp a.eval o).run P w = .ok (.value v) w:=by
 unfold execOp;rw [ho];simp only [hx];simp [go_sem,hv]
theorem row_search {S : Nat → Prop} {W : World} {ba : Nat} {ma : Int → Option Value} {f : Int → List Int} (h : AtM S W ba ma f) (k x : Int) : Calls Tryz.prog 158 #[rowAt ma k,.int .i64 x] W.drew fun e w'=>e = .returned (.tuple #[.int .i64 (((f k).countP (· < x) : Nat) : Int),.bool ((f k).contains x)]) ∧ Below W.heap.size W w':=by
 have h2:=(h.below (Below.refl _ W).drew).row k
 refine (search_any x h2.1 (h.rise k) (h.few k)).mono ?_
 rintro e w' ⟨rfl,q,rfl⟩
 exact ⟨rfl,Kaa (Below.refl _ W).drew (below_drewN _ q)⟩
theorem link_ins {S : Nat → Prop} {w1 W : World} {ba : Nat} {ma maj : Int → Option Value} {f : Int → List Int} {k x : Int} (hA : AtM S W ba maj f) (hsub : ∀ b,b < w1.heap.size → Rows maj b → Rows ma b) (hT : Touch (fun b=>b = ba ∨ Rows ma b) w1 W) (hS : ∀ b,W.heap.size ≤ b → S b) (hc : (f k).contains x = false) (hf : (f k).length + 1 ≤ 1000000) :
 ∃ wC,(Instr.buildSlice 176 1 #[(0,.int .i64 x)]).run Tryz.prog W.drew = .ok (.slice (some ⟨W.heap.size,0,none⟩) 1 1) wC ∧ Below W.heap.size W wC ∧
  Calls Tryz.prog 159 #[rowAt maj k,.int .i64 (((f k).countP (· < x) : Nat) : Int),.slice (some ⟨W.heap.size,0,none⟩) 1 1] wC fun e W15=>∃ v',e = .returned v' ∧ (∀ b,b < W.heap.size → ¬ Rows maj b → W15.heap[b]? = W.heap[b]?) ∧
   ∃ W16,(Instr.mapUpdate 131 (.map (some ba)) (.int .i64 k) v').run Tryz.prog W15 = .ok () W16 ∧ LInv S w1 W16 ba ma (linkK f k x):=by
 have hbs:=Kap (P:=Tryz.prog) (w:=W.drew) (v:=.int .i64 x) Tryz.underlying176 run_size_i64 Tryz.zeroValue2 rfl (by omega) (by omega)
 have hbl : Below W.heap.size W (W.drew.alloc (.cells (Value.int .i64 x).cells 2)):=(Below.refl _ W).drew.alloc (by simp) _
 have hnew : (W.drew.alloc (.cells (Value.int .i64 x).cells 2)).heap[W.heap.size]? = some (.cells #[.int .i64 x] 2 (0,0)):=heap_alloc_new W.drew _
 have hsz : (W.drew.alloc (.cells (Value.int .i64 x).cells 2)).heap.size = W.heap.size + 1:=by simp
 refine ⟨_,hbs,hbl,?_⟩
 have hAc:=hA.below hbl
 have hrow:=hAc.row k
 have hRW : ∀ b,(rowAt maj k).ownBlock = some b → Rows maj b:=fun b hb=>by
  unfold rowAt at hb
  cases e : maj k with
  | none=>rw [e] at hb;simp [Value.ownBlock] at hb
  | some u=>rw [e] at hb;exact ⟨k,u,e,hb⟩
 refine (insert_any (x:=x) hrow.1 List.countP_le_length hnew (fun e=>by have:=(hA.block (hRW _ e)).1;omega) (hA.few k)).mono ?_
 rintro e W15 ⟨v',rfl,i1,i2,i3,i4⟩
 have hl : (f k).length + 1 = (insS x (f k)).length:=by
  unfold insS
  rw [hc,if_neg (by simp)]
  unfold insAt
  rw [List.length_append,List.length_cons,List.length_drop,List.length_take]
  have : (f k).countP (· < x) ≤ (f k).length:=List.countP_le_length
  omega
 have he : insAt ((f k).countP (· < x)) x (f k) = insS x (f k):=by unfold insS;rw [hc,if_neg (by simp)]
 rw [he,hl] at i1
 refine ⟨v',rfl,fun b hb hn=>?_,?_⟩
 ·rw [i2.block b (by omega) fun e=>hn (hRW b e)]
  exact hbl.block b hb
 ·obtain ⟨W16,m1,m2,m3,m4⟩:=hAc.set (P:=Tryz.prog) (fun b hb=>hS b (by omega)) Tryz.underlying131 Tryz.underlying2 i2 i1 (by
   rcases i3 with e | e
   ·exact .inl e
   ·exact .inr ⟨_,Nat.le_refl _,e⟩) (insS_rise (hA.rise k)) (by omega)
  have hTC : Touch (fun b=>b = ba ∨ Rows ma b) w1 (W.drew.alloc (.cells (Value.int .i64 x).cells 2)):=hT.grow hbl
  refine ⟨W16,m1,_,m2,fun b hb hr=>hsub b hb (m3 b (Nat.lt_of_lt_of_le hb hTC.size) hr),hTC.step m4 fun b hb e=>?_⟩
  rcases e with e | e
  ·exact .inl e
  ·exact .inr (hsub b hb e)
theorem link_any {S : Nat → Prop} {w : World} {B : GB} {ma : Int → Option Value} {f : Int → List Int} {s : GS} (hb : w.heap[B.gx]? = some (.cells (gBoxV B s) 133 (0,0))) (h : AtM S w B.ba ma f) (hS : ∀ b,w.heap.size ≤ b → S b) (r : RelD) (p : Option Addr) (c : Nat) (hf : ∀ k,(f k).length + 3 ≤ 1000000) :
 Calls Tryz.prog 132 #[.pointer (some ⟨B.gx,0,none⟩),.agg (Kdl r p c)] w fun e w'=>e = .returned (.tuple #[]) ∧ LInv S w w' B.ba ma (linkK (linkK f r.src r.id) r.dst r.id):=by
 obtain ⟨w1,hbs,hg1,hr1,hp1,hs1,hbc,hL1⟩:=link_start hb h r p c
 have hx8:=heap_alloc_new w (.cells (Kdl r p c) 72)
 have p1:=Kab (o:=1) hx8 rfl
 have p2:=Kab (o:=2) hx8 rfl
 have HBS:=yh hbs
 have HB0:=yh h
 have HBC:=yh hbc
 have HG:=yh hg1
 have HG0:=yh hb
 have HR:=yh hr1
 have HP:=yh hp1
 have HS1:=yh hs1
 have HS:=yh hS
 have HL1:=yh hL1
 have HF:=yh hf
 clear hbs hg1 hr1 hp1 hs1 hbc hL1 hb h hx8 hS hf
 go_enter Tryz.func132,Tryz.ntmps132
 go_wp2_with ((with_reducible apply op_bs2);exact HBS.out;exact rfl;exact rfl;clear HBS p1 p2)
 go_loopw [14] (fun i wr=>∃ j : Nat,j ≤ 2 ∧ i = .int .i64 (j : Int) ∧ Hid (LInv S w1 wr B.ba ma (linkJ f r j))) (fun i _=>2 - (intOf i).toNat)
 case atStart=>exact ⟨0,Nat.zero_le _,rfl,HL1⟩
 case round =>
  obtain ⟨j,hj,rfl,HJ⟩:=hrel
  by_cases hlt : j < 2
  ·obtain ⟨maj,hA,hsub,hT⟩:=HJ.out
   obtain ⟨k,hk⟩ : ∃ k,[r.src,r.dst][j]? = some k:=⟨_,List.getElem?_eq_getElem (by simpa using hlt)⟩
   have hnx:=linkJ_succ f r hk
   have hs1:=HS1.out
   have hgx : wr.heap[B.gx]? = some (.cells (gBoxV B s) 133 (0,0)):=HJ.out.box HB0.out HG0.out HG.out
   have hrb : wr.heap[w.heap.size]? = some (.cells (Kdl r p c) 72 (0,0)):=(HJ.out.far HB0.out (Nat.le_refl _) (by omega)).trans HR.out
   have hpb : wr.heap[w.heap.size + 1]? = some (.cells #[.int .i64 r.src,.int .i64 r.dst] 2 (0,0)):=(HJ.out.far HB0.out (by omega) (by omega)).trans HP.out
   have HC:=yh (Kag (w:=wr) (ad:=⟨w.heap.size + 1,j,none⟩) Tryz.underlying2 rfl (Kab (o:=j) hpb (by
    have : (#[Value.int .i64 r.src,.int .i64 r.dst] : Array Value)[j]? = ([r.src,r.dst][j]?).map (Value.int .i64):=by
     match j,hlt with
     | 0,_=>rfl
     | 1,_=>rfl
    rw [this,hk];rfl)))
   have hsea:=row_search hA k r.id
   have hfk : (linkJ f r j k).length + 1 ≤ 1000000:=by have:=linkJ_len f r j k;have:=HF.out k;omega
   have hSw : ∀ b,wr.heap.size ≤ b → S b:=fun b hb=>HS.out b (by have:=hT.size;omega)
   have hgn:=hA.other hgx (by decide)
   have hrn:=hA.other hrb (by decide)
   have hlt1:=Nat.succ_le_of_lt hlt
   generalize hfj : linkJ f r j = fj at *
   obtain ⟨rv,hrv⟩ : ∃ rv,rv = rowAt maj k:=⟨_,rfl⟩
   obtain ⟨pp,hpp⟩ : ∃ pp,pp = (fj k).countP (· < r.id):=⟨_,rfl⟩
   obtain ⟨bb,hbb⟩ : ∃ bb,bb = (fj k).contains r.id:=⟨_,rfl⟩
   rw [← hrv,← hpp,← hbb] at hsea
   have hlk : ∀ W : World,IntMap W B.ba maj → (Instr.lookup 131 (.map (some B.ba)) (.int .i64 k) false).run Tryz.prog W = .ok rv W:=fun W hW=>by rw [hrv];exact look_row hW k
   have hS0 : wr.drew.heap[B.gx]? = some (.cells (gBoxV B s) 133 (0,0)) ∧ wr.drew.heap[w.heap.size]? = some (.cells (Kdl r p c) 72 (0,0)) ∧ IntMap wr.drew B.ba maj:=⟨hgx,hrb,hA.map.of_heap rfl⟩
   have HX:=yh (And.intro hA (And.intro hsub (And.intro hT (And.intro hnx (And.intro hgx (And.intro hrb (And.intro hsea (And.intro hfk (And.intro hSw (And.intro hgn (And.intro hrn (And.intro hlk (And.intro hS0 (And.intro hrv (And.intro hpp hbb)))))))))))))))
   clear hA hsub hT hnx hs1 hgx hrb hpb hsea hfk hSw hgn hrn hlk hS0 hrv hpp hbb hk hfj
   go_wp2_with ((with_reducible apply Kal);exact HC.out;exact rfl;clear HC)
   obtain ⟨hA,hsub,hT,hnx,hgx,hrb,hsea,hfk,hSw,hgn,hrn,hlk,hS0,hrv,hpp,hbb⟩:=HX.out
   refine Kaj (fun W=>W.heap[B.gx]? = some (.cells (gBoxV B s) 133 (0,0)) ∧ W.heap[w.heap.size]? = some (.cells (Kdl r p c) 72 (0,0)) ∧ IntMap W B.ba maj) (by kernel_rfl) hS0 (fun hS=>?_)
   refine tk 0 19 (v:=.pointer (some ⟨B.gx,0,none⟩)) rfl rfl (fun W hW=>Kah rfl rfl) ?_
   simp only [Act.put,sA,sZ,sS]
   refine tk 1 20 (v:=.pointer (some ⟨B.gx,0,none⟩)) rfl rfl (fun W hW=>rfl) ?_
   simp only [Act.put,sA,sZ,sS]
   refine tk 2 21 (v:=.pointer (some ⟨B.gx,2,none⟩)) rfl rfl (fun W hW=>Kad rfl rfl (Kcm 2 (by omega) _ W)) ?_
   simp only [Act.put,sA,sZ,sS]
   refine tk 3 22 (v:=.map (some B.ba)) rfl rfl (fun W hW=>Kaf rfl rfl (Kag (w:=W) Tryz.underlying131 rfl (Kab (o:=2) hW.1 rfl))) ?_
   simp only [Act.put,sA,sZ,sS]
   refine tk 4 23 (v:=.int .i64 k) rfl rfl (fun W hW=>Kah rfl rfl) ?_
   simp only [Act.put,sA,sZ,sS]
   refine tk 5 24 (v:=rv) rfl rfl (fun W hW=>Kfe rfl rfl rfl (hlk W hW.2.2)) ?_
   simp only [Act.put,sA,sZ,sS]
   refine tk 6 25 (v:=.pointer (some ⟨w.heap.size,0,none⟩)) rfl rfl (fun W hW=>Kad rfl rfl (fa_rel0 _ W)) ?_
   simp only [Act.put,sA,sZ,sS]
   refine tk 7 26 (v:=.int .i64 r.id) rfl rfl (fun W hW=>Kaf rfl rfl (Kag (w:=W) Tryz.underlying2 rfl (Kab (o:=0) hW.2.1 rfl))) ?_
   simp only [Act.put,sA,sZ,sS]
   refine Kau 8 27 rfl rfl (by kernel_rfl) rfl (Kaq [rv,.int .i64 r.id] rfl rfl Tryz.func158 (by kernel_rfl) (by kernel_rfl)) ?_
   refine hsea.mono ?_
   rintro e W8 ⟨rfl,hb8⟩
   have hS8 : W8.heap[B.gx]? = some (.cells (gBoxV B s) 133 (0,0)) ∧ W8.heap[w.heap.size]? = some (.cells (Kdl r p c) 72 (0,0)) ∧ IntMap W8 B.ba maj:=⟨Kai hb8 (Array.getElem?_eq_some_iff.1 hgx).1 hgx,Kai hb8 (Array.getElem?_eq_some_iff.1 hrb).1 hrb,hA.map.grow hb8⟩
   refine ⟨_,rfl,.inr hS8,?_⟩
   simp only [Act.put,sA,sZ,sS]
   refine tk 9 18 (v:=.tuple #[.int .i64 (pp : Int),.bool bb]) rfl rfl (fun W hW=>Kah rfl rfl) ?_
   simp only [Act.put,sA,sZ,sS]
   refine tk 10 28 (v:=.int .i64 (pp : Int)) rfl rfl (fun W hW=>exec_extr rfl rfl rfl) ?_
   simp only [Act.put,sA,sZ,sS]
   refine tk 11 29 (v:=.bool bb) rfl rfl (fun W hW=>exec_extr rfl rfl rfl) ?_
   simp only [Act.put,sA,sZ,sS]
   refine tk 12 6 (v:=.int .i64 (pp : Int)) rfl rfl (fun W hW=>Kaz rfl rfl) ?_
   simp only [Act.put,sA,sZ,sS]
   refine tk 13 7 (v:=.bool bb) rfl rfl (fun W hW=>Kaz rfl rfl) ?_
   simp only [Act.put,sA,sZ,sS]
   refine done (by kernel_rfl) ?_ _
   have hA8:=hA.below hb8
   have hT8:=hT.grow hb8
   have hSw8 : ∀ b,W8.heap.size ≤ b → S b:=fun b hb=>hSw b (by have:=hb8.size;omega)
   have hg8 : W8.heap[B.gx]? = some (.cells (gBoxV B s) 133 (0,0)):=Kai hb8 (Array.getElem?_eq_some_iff.1 hgx).1 hgx
   have hr8 : W8.heap[w.heap.size]? = some (.cells (Kdl r p c) 72 (0,0)):=Kai hb8 (Array.getElem?_eq_some_iff.1 hrb).1 hrb
   cases bb with
   | true =>
     have HN:=yh (show LInv S w1 W8 B.ba ma (linkJ f r (j + 1)) from by
      rw [hnx]
      unfold linkK insS
      rw [← hbb,if_pos rfl,setI_id]
      exact ⟨maj,hA8,hsub,hT8⟩)
     clear hA hsub hT hnx hgx hrb hsea hfk hSw hgn hrn hlk hS0 hrv hpp hbb hS HX HJ hA8 hT8 hSw8 hg8 hr8 hb8 hS8
     go_wp2
     go_roundw
     case rel=>exact ⟨j + 1,hlt1,by go_num,HN⟩
     case measure=>simp [intOf];omega
   | false =>
     obtain ⟨wC,c1,c2,c3⟩:=link_ins hA8 hsub hT8 hSw8 hbb.symm hfk
     rw [← hrv,← hpp] at c3
     have hS0 : W8.drew.heap[B.gx]? = some (.cells (gBoxV B s) 133 (0,0)) ∧ W8.drew.heap[w.heap.size]? = some (.cells (Kdl r p c) 72 (0,0)) ∧ IntMap W8.drew B.ba maj:=⟨hg8,hr8,hA8.map.of_heap rfl⟩
     have hSC : wC.heap[B.gx]? = some (.cells (gBoxV B s) 133 (0,0)) ∧ wC.heap[w.heap.size]? = some (.cells (Kdl r p c) 72 (0,0)) ∧ IntMap wC B.ba maj:=⟨Kai c2 (Array.getElem?_eq_some_iff.1 hg8).1 hg8,Kai c2 (Array.getElem?_eq_some_iff.1 hr8).1 hr8,hA8.map.grow c2⟩
     have HY:=yh (And.intro hlk (And.intro hS0 (And.intro hSC (And.intro c1 (And.intro c3 (And.intro hnx (And.intro hA8 (And.intro hg8 (And.intro hr8 (And.intro hgn hrn))))))))))
     clear hA hsub hT hnx hgx hrb hsea hfk hSw hgn hrn hlk hS0 hrv hpp hbb hS HX HJ hA8 hT8 hSw8 hg8 hr8 hb8 hS8 hSC c1 c2 c3
     go_wp2
     obtain ⟨hlk,hS0,hSC,c1,c3,hnx,hA8,hg8,hr8,hgn,hrn⟩:=HY.out
     refine Kaj (fun W=>W.heap[B.gx]? = some (.cells (gBoxV B s) 133 (0,0)) ∧ W.heap[w.heap.size]? = some (.cells (Kdl r p c) 72 (0,0)) ∧ IntMap W B.ba maj) (by kernel_rfl) hS0 (fun hS=>?_)
     refine tk 0 32 (v:=.pointer (some ⟨B.gx,0,none⟩)) rfl rfl (fun W hW=>Kah rfl rfl) ?_
     simp only [Act.put,sA,sZ,sS]
     refine tk 1 33 (v:=.pointer (some ⟨B.gx,0,none⟩)) rfl rfl (fun W hW=>rfl) ?_
     simp only [Act.put,sA,sZ,sS]
     refine tk 2 34 (v:=.pointer (some ⟨B.gx,2,none⟩)) rfl rfl (fun W hW=>Kad rfl rfl (Kcm 2 (by omega) _ W)) ?_
     simp only [Act.put,sA,sZ,sS]
     refine tk 3 35 (v:=.map (some B.ba)) rfl rfl (fun W hW=>Kaf rfl rfl (Kag (w:=W) Tryz.underlying131 rfl (Kab (o:=2) hW.1 rfl))) ?_
     simp only [Act.put,sA,sZ,sS]
     refine tk 4 36 (v:=.int .i64 k) rfl rfl (fun W hW=>Kah rfl rfl) ?_
     simp only [Act.put,sA,sZ,sS]
     refine tk 5 37 (v:=.pointer (some ⟨B.gx,0,none⟩)) rfl rfl (fun W hW=>Kah rfl rfl) ?_
     simp only [Act.put,sA,sZ,sS]
     refine tk 6 38 (v:=.pointer (some ⟨B.gx,0,none⟩)) rfl rfl (fun W hW=>rfl) ?_
     simp only [Act.put,sA,sZ,sS]
     refine tk 7 39 (v:=.pointer (some ⟨B.gx,2,none⟩)) rfl rfl (fun W hW=>Kad rfl rfl (Kcm 2 (by omega) _ W)) ?_
     simp only [Act.put,sA,sZ,sS]
     refine tk 8 40 (v:=.map (some B.ba)) rfl rfl (fun W hW=>Kaf rfl rfl (Kag (w:=W) Tryz.underlying131 rfl (Kab (o:=2) hW.1 rfl))) ?_
     simp only [Act.put,sA,sZ,sS]
     refine tk 9 41 (v:=.int .i64 k) rfl rfl (fun W hW=>Kah rfl rfl) ?_
     simp only [Act.put,sA,sZ,sS]
     refine tk 10 42 (v:=rv) rfl rfl (fun W hW=>Kfe rfl rfl rfl (hlk W hW.2.2)) ?_
     simp only [Act.put,sA,sZ,sS]
     refine tk 11 43 (v:=.int .i64 (pp : Int)) rfl rfl (fun W hW=>Kah rfl rfl) ?_
     simp only [Act.put,sA,sZ,sS]
     refine tk 12 44 (v:=.pointer (some ⟨w.heap.size,0,none⟩)) rfl rfl (fun W hW=>Kad rfl rfl (fa_rel0 _ W)) ?_
     simp only [Act.put,sA,sZ,sS]
     refine tk 13 45 (v:=.int .i64 r.id) rfl rfl (fun W hW=>Kaf rfl rfl (Kag (w:=W) Tryz.underlying2 rfl (Kab (o:=0) hW.2.1 rfl))) ?_
     simp only [Act.put,sA,sZ,sS]
     refine Kc7 14 46 (v:=.slice (some ⟨W8.heap.size,0,none⟩) 1 1) rfl rfl (by kernel_rfl) rfl (Kbq rfl rfl c1) (.inr (by assumption)) ?_
     simp only [Act.put,sA,sZ,sS]
     refine Kau 15 47 rfl rfl (by kernel_rfl) rfl (Kaq [rv,.int .i64 (pp : Int),.slice (some ⟨W8.heap.size,0,none⟩) 1 1] rfl rfl Tryz.func159 (by kernel_rfl) (by kernel_rfl)) ?_
     refine c3.mono ?_
     rintro e W15 ⟨v15,rfl,m0,W16,m1,m2⟩
     have hS15 : W15.heap[B.gx]? = some (.cells (gBoxV B s) 133 (0,0)) ∧ W15.heap[w.heap.size]? = some (.cells (Kdl r p c) 72 (0,0)) ∧ IntMap W15 B.ba maj:=⟨(m0 _ (Array.getElem?_eq_some_iff.1 hg8).1 hgn.2).trans hg8,(m0 _ (Array.getElem?_eq_some_iff.1 hr8).1 hrn.2).trans hr8,hA8.map.of_heap (m0 _ hA8.map.lt hA8.ne)⟩
     refine ⟨_,rfl,.inr hS15,?_⟩
     simp only [Act.put,sA,sZ,sS]
     refine Kca 16 rfl rfl (by kernel_rfl) rfl (Kc2 rfl rfl rfl rfl m1) (.inl (by kernel_rfl)) ?_
     refine done (by kernel_rfl) ?_ _
     rw [← hnx] at m2
     have HN:=yh m2
     clear hlk hS0 hSC c1 c3 hnx hA8 hg8 hr8 hgn hrn hS HY m1 m2 m0 hS15
     go_wp2
     go_roundw
     case rel=>exact ⟨j + 1,hlt1,by go_num,HN⟩
     case measure=>simp [intOf];omega
  ·obtain rfl : j = 2:=by omega
   go_wp2
   go_end0
   obtain ⟨m,h1,h2,h3⟩:=HJ.out
   have hb:=HBC.out
   exact ⟨rfl,m,h1,fun b hb2 hr=>h2 b (Nat.lt_of_lt_of_le hb2 hb.size) hr,(Touch.of_below hb fun b h1 h2=>by omega).trans h3⟩
def Kdk (f : Int → List Int) (l : List RelD) : Int → List Int:=l.foldl (fun f r=>linkK (linkK f r.src r.id) r.dst r.id) f
theorem linkAll_snoc (f : Int → List Int) (l : List RelD) (r : RelD) : Kdk f (l ++ [r]) = linkK (linkK (Kdk f l) r.src r.id) r.dst r.id:=by unfold Kdk;rw [List.foldl_append];rfl
theorem linkAll_len (f : Int → List Int) : ∀ (l : List RelD) (k : Int),(Kdk f l k).length ≤ (f k).length + 2 * l.length
 | [],k=>by simp [Kdk]
 | r :: l,k=>by
   have:=linkAll_len (linkK (linkK f r.src r.id) r.dst r.id) l k
   have h1:=linkK_len f r.src r.id k
   have h2:=linkK_len (linkK f r.src r.id) r.dst r.id k
   unfold Kdk at this ⊢
   rw [List.foldl_cons,List.length_cons]
   omega
def madeG (g : GraphD) : GS:=⟨g.nodes,g.rels,Kdk (fun _=>[]) g.rels,g.nextNode,g.nextRel⟩
def madeJ (g : GraphD) (i j : Nat) : GS:=⟨g.nodes.take i,g.rels.take j,Kdk (fun _=>[]) (g.rels.take j),g.nextNode,g.nextRel⟩
theorem rises_rise {α : Type} (id : α → Int) : ∀ {l : List α},Kch (l.map id) = true → Rise id l
 | [],_=>List.Pairwise.nil
 | [a],_=>List.pairwise_singleton _ _
 | a :: b :: l,h=>by
   simp only [List.map_cons,Kch,Bool.and_eq_true,decide_eq_true_eq] at h
   have ih:=rises_rise id (l:=b :: l) (by simpa using h.2)
   refine List.pairwise_cons.2 ⟨fun x hx=>?_,ih⟩
   rcases List.mem_cons.1 hx with rfl | hx
   ·exact h.1
   ·exact Int.lt_trans h.1 ((List.pairwise_cons.1 ih).1 x hx)
theorem ok_parts {g : GraphD} (h : okG g = true) : Rise NodeD.id g.nodes ∧ Rise RelD.id g.rels ∧ (∀ n ∈ g.nodes,i64R n.id) ∧ (∀ r ∈ g.rels,i64R r.id) ∧ g.nodes.length + g.rels.length ≤ 65536:=by
 unfold okG okSz okNs okRs at h
 simp only [Bool.and_eq_true,decide_eq_true_eq,List.all_eq_true] at h
 obtain ⟨⟨⟨⟨⟨⟨h1,h2⟩,h3⟩,h4⟩,h5⟩,h6,h7⟩,h8,h9⟩:=h
 refine ⟨rises_rise _ h7,rises_rise _ h9,fun n hn=>?_,fun r hr=>?_,h1⟩
 ·have:=h6 n hn
  unfold okN at this
  simp only [Bool.and_eq_true,decide_eq_true_eq] at this
  unfold i64R
  omega
 ·have:=h8 r hr
  unfold okR at this
  simp only [Bool.and_eq_true,decide_eq_true_eq] at this
  unfold i64R
  omega
def KInv (w W : World) (B : GB) (ma : Int → Option Value) (s : GS) : Prop:=GM (fun b=>w.heap.size ≤ b) W B ma s ∧ Below w.heap.size w W
section
variable {w W W' : World} {B : GB} {ma : Int → Option Value} {s : GS}
theorem KInv.below (h : KInv w W B ma s) (g : Below W.heap.size W W') : KInv w W' B ma s:=⟨h.1.below g,Kaa h.2 g⟩
theorem KInv.new (h : KInv w W B ma s) {b : Nat} (h1 : W.heap.size ≤ b) : w.heap.size ≤ b ∧ ¬ GSp B ma b:=⟨Nat.le_trans h.2.size h1,fun e=>by have:=(h.1.sp_lt e).1;omega⟩
theorem KInv.touch (h : KInv w W B ma s) {S : Nat → Prop} (g : Touch S W W') (hs : ∀ b,S b → w.heap.size ≤ b) : Below w.heap.size w W':=g.below h.2 (fun b hb e=>by have:=hs b e;omega) h.2.size
theorem KInv.node (h : KInv w W B ma s) (g : Below W.heap.size W W') {n : NodeD} {x : Array Value} (hx : NOwn W' (fun b=>W.heap.size ≤ b) n x) (hr : i64R n.id) :
 ∃ W2,(Instr.mapUpdate 129 (.map (some B.bn)) (.int .i64 n.id) (.agg x)).run Tryz.prog W' = .ok () W2 ∧ KInv w W2 B ma { s with nodes:=putBy NodeD.id n s.nodes } ∧ Touch (fun b=>b = B.bn) W' W2:=by
 have h2:=h.below g
 obtain ⟨W2,r1,r2,r3,r4⟩:=h2.1.nodes.put (P:=Tryz.prog) Kas Tryz.underlying129 Tryz.underlying2 (Kas.imp (fun b _ hb=>h.new hb) hx) hr (fun e=>e.2 (.inr (.inl rfl)))
 exact ⟨W2,r1,⟨h2.1.noded r2 r3,h2.touch r3 fun b e=>by rw [e];exact h2.1.own.2.1⟩,r3⟩
theorem KInv.rel (h : KInv w W B ma s) (g : Below W.heap.size W W') {n : RelD} {x : Array Value} (hx : ROwn W' (fun b=>W.heap.size ≤ b) n x) (hr : i64R n.id) :
 ∃ W2,(Instr.mapUpdate 130 (.map (some B.br)) (.int .i64 n.id) (.agg x)).run Tryz.prog W' = .ok () W2 ∧ KInv w W2 B ma { s with rels:=putBy RelD.id n s.rels } ∧ Touch (fun b=>b = B.br) W' W2:=by
 have h2:=h.below g
 obtain ⟨W2,r1,r2,r3,r4⟩:=h2.1.rels.put (P:=Tryz.prog) Ka5 Tryz.underlying130 Tryz.underlying2 (Ka5.imp (fun b _ hb=>h.new hb) hx) hr (fun e=>e.2 (.inr (.inr (.inl rfl))))
 exact ⟨W2,r1,⟨h2.1.reled r2 r3,h2.touch r3 fun b e=>by rw [e];exact h2.1.own.2.2⟩,r3⟩
theorem KInv.nodeDel (h : KInv w W B ma s) (k : Int) (T2 ty : TypeId) :
 ∃ W2,(Builtin.delete_ #[129,T2] ty #[.map (some B.bn),.int .i64 k]).run Tryz.prog W = .ok (.tuple #[]) W2 ∧ KInv w W2 B ma { s with nodes:=s.nodes.filter fun y=>!(y.id == k) }:=by
 obtain ⟨W2,r1,r2,r3,r4⟩:=h.1.nodes.del (P:=Tryz.prog) Kas Tryz.underlying129 Tryz.underlying2 k (fun e=>e.2 (.inr (.inl rfl))) T2 ty
 exact ⟨W2,r1,h.1.noded r2 r3,h.touch r3 fun b e=>by rw [e];exact h.1.own.2.1⟩
theorem KInv.relDel (h : KInv w W B ma s) (k : Int) (T2 ty : TypeId) :
 ∃ W2,(Builtin.delete_ #[130,T2] ty #[.map (some B.br),.int .i64 k]).run Tryz.prog W = .ok (.tuple #[]) W2 ∧ KInv w W2 B ma { s with rels:=s.rels.filter fun y=>!(y.id == k) }:=by
 obtain ⟨W2,r1,r2,r3,r4⟩:=h.1.rels.del (P:=Tryz.prog) Ka5 Tryz.underlying130 Tryz.underlying2 k (fun e=>e.2 (.inr (.inr (.inl rfl)))) T2 ty
 exact ⟨W2,r1,h.1.reled r2 r3,h.touch r3 fun b e=>by rw [e];exact h.1.own.2.2⟩
theorem KInv.link (h : KInv w W B ma s) {f : Int → List Int} (hl : LInv (fun b=>w.heap.size ≤ b) W W' B.ba ma f) : ∃ ma',KInv w W' B ma' { s with adj:=f }:=by
 obtain ⟨m,h1,h2,h3⟩:=hl
 exact ⟨m,h.1.linked h1 h2 h3,h.touch h3 fun b e=>e.elim (fun e=>by rw [e];exact h.1.adj.own) fun e=>(h.1.adj.block e).2.1⟩
end
theorem take_put {α : Type} (id : α → Int) {l : List α} (h : Rise id l) {j : Nat} (hj : j < l.length) : putBy id l[j] (l.take j) = l.take (j + 1):=by
 rw [List.take_succ_eq_append_getElem hj]
 refine putBy_end id fun a ha=>?_
 obtain ⟨i,hi,rfl⟩:=List.getElem_of_mem ha
 rw [List.length_take] at hi
 rw [List.getElem_take]
 exact List.pairwise_iff_getElem.1 h i j (by omega) hj (by omega)
theorem node_ok {g : GraphD} (h : totG g ≤ 1000000) {n : NodeD} (hn : n ∈ g.nodes) : n.labels.length ≤ 1000000 ∧ PsOk n.props:=by
 have:=Kbb totN hn
 unfold totG at h
 unfold totN at this h
 have h1 : n.labels.length ≤ totLs n.labels:=Kcb _ fun s _=>by omega
 exact ⟨by omega,PsOk.of (by omega)⟩
theorem rel_ok {g : GraphD} (h : totG g ≤ 1000000) {n : RelD} (hn : n ∈ g.rels) : PsOk n.props:=by
 have:=Kbb totR hn
 unfold totG at h
 unfold totR at this h
 exact PsOk.of (by omega)
theorem make_start {S : Nat → Prop} {W : World} (hS : ∀ b,W.heap.size ≤ b → S b) (g : GraphD) :
 GM S ((((W.alloc (.map #[] 0)).alloc (.map #[] 0)).alloc (.map #[] 0)).alloc (.cells #[.map (some W.heap.size),.map (some (W.heap.size + 1)),.map (some (W.heap.size + 2)),.int .i64 g.nextNode,.int .i64 g.nextRel] 133)) ⟨W.heap.size + 3,W.heap.size,W.heap.size + 1,W.heap.size + 2⟩ (fun _=>none) (madeJ g 0 0):=by
 have b1:=Kac (w:=W) (.map #[] 0)
 have b2:=Kac (w:=W.alloc (.map #[] 0)) (.map #[] 0)
 have b3:=Kac (w:=(W.alloc (.map #[] 0)).alloc (.map #[] 0)) (.map #[] 0)
 have b4:=Kac (w:=((W.alloc (.map #[] 0)).alloc (.map #[] 0)).alloc (.map #[] 0)) (.cells #[.map (some W.heap.size),.map (some (W.heap.size + 1)),.map (some (W.heap.size + 2)),.int .i64 g.nextNode,.int .i64 g.nextRel] 133)
 have n1:=heap_alloc_new W (.map #[] 0)
 have n2:=heap_alloc_new (W.alloc (.map #[] 0)) (.map #[] 0)
 have n3:=heap_alloc_new ((W.alloc (.map #[] 0)).alloc (.map #[] 0)) (.map #[] 0)
 have n4:=heap_alloc_new (((W.alloc (.map #[] 0)).alloc (.map #[] 0)).alloc (.map #[] 0)) (.cells #[.map (some W.heap.size),.map (some (W.heap.size + 1)),.map (some (W.heap.size + 2)),.int .i64 g.nextNode,.int .i64 g.nextRel] 133)
 simp only [World.size_alloc] at n2 n3 n4
 have e1:=(b4.block _ (by simp;omega)).trans ((b3.block _ (by simp;omega)).trans ((b2.block _ (by simp)).trans n1))
 have e2:=(b4.block _ (by simp)).trans ((b3.block _ (by simp)).trans n2)
 have e3:=(b4.block _ (by simp)).trans n3
 exact ⟨n4,MapOf.fresh e1,MapOf.fresh e2,AtM.made e3 (hS _ (by simp)),⟨hS _ (by simp),hS _ (Nat.le_refl _),hS _ (by simp)⟩,by simp⟩
theorem make_any {w : World} (hE : Env w) {g : GraphD} {x : Array Value} (h : GrRd w g x) (ht : totG g ≤ 1000000) : Calls Tryz.prog 88 #[.agg x] w fun e w'=>Below w.heap.size w w' ∧ (okG g = false → e = .returned (.tuple #[.pointer none,.int .i64 2])) ∧
 (okG g = true → ∃ B ma,e = .returned (.tuple #[.pointer (some ⟨B.gx,0,none⟩),.int .i64 0]) ∧ GM (fun b=>w.heap.size ≤ b) w' B ma (madeG g)):=by
 have hxs:=h
 obtain ⟨pn,cn,pr,cr,rfl,hn,hr⟩:=h
 have hb1:=Kac (w:=w) (.cells #[.slice pn g.nodes.length cn,.slice pr g.rels.length cr,.int .i64 g.nextNode,.int .i64 g.nextRel] 25)
 have hx8:=heap_alloc_new w (.cells #[.slice pn g.nodes.length cn,.slice pr g.rels.length cr,.int .i64 g.nextNode,.int .i64 g.nextRel] 25)
 have hsz : (w.alloc (.cells #[.slice pn g.nodes.length cn,.slice pr g.rels.length cr,.int .i64 g.nextNode,.int .i64 g.nextRel] 25)).heap.size = w.heap.size + 1:=by simp
 have HLG:=yh (Kay.get (P:=Tryz.prog) rfl hx8)
 have HCK:=yh (Kc5 (hE.b hb1) (hxs.below hb1) ht)
 have z1 : (g.nodes.length : Int) ≤ 140737488355328:=by have:=hn.1.2.1;omega
 have z2 : (g.rels.length : Int) ≤ 140737488355328:=by have:=hr.1.2.1;omega
 have HX:=yh (And.intro hb1 (And.intro hx8 (And.intro hsz (And.intro hn (And.intro hr ht)))))
 cases hok : okG g with
 | false =>
   rw [hok] at HCK
   clear hb1 hx8 hsz hn hr ht hE hxs
   go_enter Tryz.func88,Tryz.ntmps88
   go_wp2_with (first
    | ((with_reducible apply Kal);exact HLG.out;exact rfl;clear HLG)
    | (go_at_call 13;refine HCK.out.mono ?_;rintro e W2 ⟨rfl,hb2⟩;have HB2:=yh hb2;clear hb2 HCK;simp only [errG,if_false,Bool.false_eq_true]))
   go_ret2
   obtain ⟨hb1,hx8,hsz,hn,hr,ht⟩:=HX.out
   exact ⟨Kaa hb1 HB2.out,fun _=>rfl,fun h=>(Bool.false_ne_true h).elim⟩
 | true =>
   rw [hok] at HCK
   have hokp:=ok_parts hok
   have HOK:=yh hokp
   clear hb1 hx8 hsz hn hr ht hE hxs hokp
   have hmm:=@run_makeMap Tryz.prog
   go_enter Tryz.func88,Tryz.ntmps88
   go_wp2_with (first
    | ((with_reducible apply Kal);exact HLG.out;exact rfl;clear HLG)
    | (go_at_call 13
       (
        refine HCK.out.mono ?_
        rintro e W2 ⟨rfl,hb2⟩
        have hx2:=Kai hb2 (by rw [HX.out.2.2.1];omega) HX.out.2.1
        have b3 : Below W2.heap.size W2 (((W2.alloc (.map #[] 0)).alloc (.map #[] 0)).alloc (.map #[] 0)):=((Below.refl _ W2).alloc (Nat.le_refl _) _).alloc (by simp) _ |>.alloc (by simp;omega) _
        have p2:=Kab (o:=2) (Kai b3 (Array.getElem?_eq_some_iff.1 hx2).1 hx2) rfl
        have p3:=Kab (o:=3) (Kai b3 (Array.getElem?_eq_some_iff.1 hx2).1 hx2) rfl
        have hm4:=make_start (S:=fun b=>w.heap.size + 1 ≤ b) (W:=W2) (fun b hb=>by have:=hb2.size;have:=HX.out.2.2.1;omega) g
        have b4 : Below W2.heap.size W2 ((((W2.alloc (.map #[] 0)).alloc (.map #[] 0)).alloc (.map #[] 0)).alloc (.cells #[.map (some W2.heap.size),.map (some (W2.heap.size + 1)),.map (some (W2.heap.size + 2)),.int .i64 g.nextNode,.int .i64 g.nextRel] 133)):=b3.alloc (by simp;omega) _
        have hx4:=Kai b4 (Array.getElem?_eq_some_iff.1 hx2).1 hx2
        have HB4:=yh (Kaa hb2 b4)
        have p0:=Kab (o:=0) hx4 rfl
        have HX4:=yh hx4
        have HM:=yh hm4
        clear hb2 HCK hx2 b3 hm4 b4 hx4
        simp only [errG,if_true])))
   generalize hw4 : ((((W2.alloc (.map #[] 0)).alloc (.map #[] 0)).alloc (.map #[] 0)).alloc (.cells #[.map (some W2.heap.size),.map (some (W2.heap.size + 1)),.map (some (W2.heap.size + 2)),.int .i64 g.nextNode,.int .i64 g.nextRel] 133)) = w4 at *
   obtain ⟨B,hB⟩ : ∃ B,B = GB.mk (W2.heap.size + 3) W2.heap.size (W2.heap.size + 1) (W2.heap.size + 2):=⟨_,rfl⟩
   rw [← hB] at HM
   rw [show W2.heap.size + 1 + 1 + 1 = B.gx by rw [hB]]
   have HK0:=yh (show KInv (w.alloc (.cells #[.slice pn g.nodes.length cn,.slice pr g.rels.length cr,.int .i64 g.nextNode,.int .i64 g.nextRel] 25)) w4 B (fun _=>none) (madeJ g 0 0) from ⟨by rw [HX.out.2.2.1];exact HM.out,HB4.out⟩)
   clear hw4 hB HM HX4 HB4 p0 p2 p3
   generalize hwA : w.alloc (.cells #[.slice pn g.nodes.length cn,.slice pr g.rels.length cr,.int .i64 g.nextNode,.int .i64 g.nextRel] 25) = wA at *
   clear hwA
   go_loopw [27] (fun i wr=>∃ j : Nat,j ≤ g.nodes.length ∧ i = .int .i64 (j : Int) ∧ Hid (KInv wA wr B (fun _=>none) (madeJ g j 0))) (fun i _=>g.nodes.length - (intOf i).toNat)
   case atStart=>exact ⟨0,Nat.zero_le _,rfl,HK0⟩
   case round =>
    obtain ⟨j,hj,rfl,HJ⟩:=hrel
    by_cases hlt : j < g.nodes.length
    ·have hlt1:=Nat.succ_le_of_lt hlt
     obtain ⟨hb1,hx8,hsz,hn,hr,ht⟩:=HX.out
     have hbw : Below w.heap.size w wr:=Kaa hb1 HJ.out.2
     obtain ⟨b,of,cs,rfl,hs,hc,hv⟩:=hn.get hlt
     have HL1:=yh (StT.load (P:=Tryz.prog) (g:=b) (o:=of + j * 3) (W:=wr) Kbo hs fun i u hu=>Kak hbw (ltOf (hc i u hu)) (hc i u hu))
     have HS1:=yh (StT.fresh Kbo hs (Kek.ones hv) (W:=wr))
     have hbn:=Kac (w:=wr) (.cells cs 70)
     have hbx:=heap_alloc_new wr (.cells cs 70)
     have hgx:=Kai hbn HJ.out.1.lts.1 HJ.out.1.box
     have hok2:=node_ok ht (List.getElem_mem hlt)
     have hcall:=copyNode_any ((hv.below hbw).below hbn.drew) hok2.1 hok2.2
     have hid : i64R g.nodes[j].id:=HOK.out.2.2.1 _ (List.getElem_mem hlt)
     have hput : putBy NodeD.id g.nodes[j] (g.nodes.take j) = g.nodes.take (j + 1):=take_put NodeD.id HOK.out.1 hlt
     have hS0 : (wr.alloc (.cells cs 70)).drew.heap[B.gx]? = some (.cells (gBoxV B (madeJ g j 0)) 133 (0,0)) ∧ (wr.alloc (.cells cs 70)).drew.heap[wr.heap.size]? = some (.cells cs 70 (0,0)):=⟨hgx,hbx⟩
     have k0 : cs[0]? = some (.int .i64 g.nodes[j].id):=by obtain ⟨_,_,_,_,e,_⟩:=hv;rw [e];rfl
     have HY:=yh (And.intro hbn.drew (And.intro hs (And.intro hcall (And.intro hid (And.intro hput (And.intro hS0 k0))))))
     generalize g.nodes[j] = nj at *
     clear hb1 hx8 hsz hn hr ht hbw hs hc hv hbn hbx hgx hok2 hcall hid hput hS0 k0
     go_wp2_with (first
      | ((with_reducible apply Kal);exact HL1.out;exact rfl;clear HL1)
      | ((with_reducible apply Kae);exact HS1.out _ rfl;exact rfl;exact rfl;clear HS1))
     obtain ⟨hbn,hs,hcall,hid,hput,hS0,k0⟩:=HY.out
     refine Kaj (fun W=>W.heap[B.gx]? = some (.cells (gBoxV B (madeJ g j 0)) 133 (0,0)) ∧ W.heap[wr.heap.size]? = some (.cells cs 70 (0,0))) (by kernel_rfl) hS0 (fun hS=>?_)
     refine tk 0 31 (v:=.pointer (some ⟨B.gx,0,none⟩)) rfl rfl (fun W hW=>Kah rfl rfl) ?_
     simp only [Act.put,sA,sZ,sS]
     refine tk 1 32 (v:=.pointer (some ⟨B.gx,0,none⟩)) rfl rfl (fun W hW=>rfl) ?_
     simp only [Act.put,sA,sZ,sS]
     refine tk 2 33 (v:=.pointer (some ⟨B.gx,0,none⟩)) rfl rfl (fun W hW=>Kad rfl rfl (Kcm 0 (by omega) _ W)) ?_
     simp only [Act.put,sA,sZ,sS]
     refine tk 3 34 (v:=.map (some B.bn)) rfl rfl (fun W hW=>Kaf rfl rfl (Kag (w:=W) Tryz.underlying129 rfl (Kab (o:=0) hW.1 rfl))) ?_
     simp only [Act.put,sA,sZ,sS]
     refine tk 4 35 (v:=.pointer (some ⟨wr.heap.size,0,none⟩)) rfl rfl (fun W hW=>Kad rfl rfl (fa_node 0 (by omega) _ W)) ?_
     simp only [Act.put,sA,sZ,sS]
     refine tk 5 36 (v:=.int .i64 nj.id) rfl rfl (fun W hW=>Kaf rfl rfl (Kag (w:=W) Tryz.underlying2 rfl (Kab (o:=0) hW.2 k0))) ?_
     simp only [Act.put,sA,sZ,sS]
     refine tk 6 37 (v:=.agg cs) rfl rfl (fun W hW=>Kaf rfl rfl (Kbo.get (P:=Tryz.prog) hs hW.2)) ?_
     simp only [Act.put,sA,sZ,sS]
     refine Kau 7 38 rfl rfl (by kernel_rfl) rfl (Kaq [.agg cs] rfl rfl Tryz.func89 (by kernel_rfl) (by kernel_rfl)) ?_
     refine hcall.mono ?_
     rintro e W7 ⟨x7,rfl,hx7,hb7⟩
     have hb8:=Kaa hbn hb7
     obtain ⟨W8,m1,m2,_⟩:=HJ.out.node hb8 (Kas.imp (fun b _ hb=>by have:=hbn.size;exact Nat.le_trans this hb) hx7) hid
     rw [show ({ madeJ g j 0 with nodes:=putBy NodeD.id nj (madeJ g j 0).nodes } : GS) = madeJ g (j + 1) 0 from by unfold madeJ;rw [hput]] at m2
     have hS7 : W7.heap[B.gx]? = some (.cells (gBoxV B (madeJ g j 0)) 133 (0,0)) ∧ W7.heap[wr.heap.size]? = some (.cells cs 70 (0,0)):=⟨Kai hb7 (Array.getElem?_eq_some_iff.1 hS0.1).1 hS0.1,Kai hb7 (Array.getElem?_eq_some_iff.1 hS0.2).1 hS0.2⟩
     refine ⟨_,rfl,.inr hS7,?_⟩
     simp only [Act.put,sA,sZ,sS]
     refine Kca 8 rfl rfl (by kernel_rfl) rfl (Kc2 rfl rfl rfl rfl m1) (.inl (by kernel_rfl)) ?_
     refine done (by kernel_rfl) ?_ _
     have HN:=yh m2
     clear hbn hs hcall hid hput hS0 k0 hS HY HJ m1 m2
     go_wp2
     go_roundw
     case rel=>exact ⟨j + 1,hlt1,by go_num,HN⟩
     case measure=>simp [intOf];omega
    ·obtain rfl : j = g.nodes.length:=by omega
     have p1:=Kab (o:=1) (Kai HJ.out.2 (Array.getElem?_eq_some_iff.1 HX.out.2.1).1 HX.out.2.1) rfl
     have HJ2:=yh (show ∃ ma,KInv wA wr B ma (madeJ g g.nodes.length 0) from ⟨_,HJ.out⟩)
     clear HJ HK0
     go_wp2
     clear p1
     go_loopw [43] (fun i wr=>∃ j : Nat,j ≤ g.rels.length ∧ i = .int .i64 (j : Int) ∧ Hid (∃ ma,KInv wA wr B ma (madeJ g g.nodes.length j))) (fun i _=>g.rels.length - (intOf i).toNat)
     case atStart=>exact ⟨0,Nat.zero_le _,rfl,HJ2⟩
     case round =>
      obtain ⟨j,hj,rfl,HJ⟩:=hrel
      by_cases hlt : j < g.rels.length
      ·have hlt1:=Nat.succ_le_of_lt hlt
       obtain ⟨ma,hK⟩:=HJ.out
       obtain ⟨hb1,hx8,hsz,hn,hr,ht⟩:=HX.out
       rename_i wr0 wr
       have hbw : Below w.heap.size w wr:=Kaa hb1 hK.2
       obtain ⟨b,of,cs,rfl,hs,hc,hv⟩:=hr.get hlt
       have HL1:=yh (StT.load (P:=Tryz.prog) (g:=b) (o:=of + j * 5) (W:=wr) Kcf hs fun i u hu=>Kak hbw (ltOf (hc i u hu)) (hc i u hu))
       have HS1:=yh (StT.fresh Kcf hs (ef_rel.ones hv) (W:=wr))
       have hbn:=Kac (w:=wr) (.cells cs 72)
       have hbx:=heap_alloc_new wr (.cells cs 72)
       have hgx:=Kai hbn hK.1.lts.1 hK.1.box
       have hcall:=copyRel_any ((hv.below hbw).below hbn.drew) (rel_ok ht (List.getElem_mem hlt))
       have hid : i64R g.rels[j].id:=HOK.out.2.2.2.1 _ (List.getElem_mem hlt)
       have hput : putBy RelD.id g.rels[j] (g.rels.take j) = g.rels.take (j + 1):=take_put RelD.id HOK.out.2.1 hlt
       have hlk : Kdk (fun _=>[]) (g.rels.take (j + 1)) = linkK (linkK (Kdk (fun _=>[]) (g.rels.take j)) g.rels[j].src g.rels[j].id) g.rels[j].dst g.rels[j].id:=by rw [List.take_succ_eq_append_getElem hlt,linkAll_snoc]
       have hS0 : (wr.alloc (.cells cs 72)).drew.heap[B.gx]? = some (.cells (gBoxV B (madeJ g g.nodes.length j)) 133 (0,0)) ∧ (wr.alloc (.cells cs 72)).drew.heap[wr.heap.size]? = some (.cells cs 72 (0,0)):=⟨hgx,hbx⟩
       have hfl : ∀ k,(Kdk (fun _=>[]) (g.rels.take j) k).length + 3 ≤ 1000000:=fun k=>by
        have:=linkAll_len (fun _=>[]) (g.rels.take j) k
        rw [List.length_take] at this
        have h3:=HOK.out.2.2.2.2
        simp only [List.length_nil] at this
        omega
       obtain ⟨pp,cp,ecs⟩ : ∃ pp cp,cs = Kdl g.rels[j] pp cp:=by obtain ⟨pp,cp,e,_⟩:=hv;exact ⟨pp,cp,e⟩
       have k0 : cs[0]? = some (.int .i64 g.rels[j].id):=by rw [ecs];rfl
       have HY:=yh (And.intro hK (And.intro hbn (And.intro hs (And.intro hcall (And.intro hid (And.intro hput (And.intro hlk (And.intro hS0 (And.intro hfl (And.intro ecs k0))))))))))
       generalize g.rels[j] = rj at *
       clear hK hb1 hx8 hsz hn hr ht hbw hs hc hv hbn hbx hgx hcall hid hput hlk hS0 hfl k0 ecs
       go_wp2_with (first
        | ((with_reducible apply Kal);exact HL1.out;exact rfl;clear HL1)
        | ((with_reducible apply Kae);exact HS1.out _ rfl;exact rfl;exact rfl;clear HS1))
       obtain ⟨hK,hbn,hs,hcall,hid,hput,hlk,hS0,hfl,ecs,k0⟩:=HY.out
       refine Kaj (fun W=>W.heap[B.gx]? = some (.cells (gBoxV B (madeJ g g.nodes.length j)) 133 (0,0)) ∧ W.heap[wr.heap.size]? = some (.cells cs 72 (0,0))) (by kernel_rfl) hS0 (fun hS=>?_)
       refine tk 0 47 (v:=.pointer (some ⟨B.gx,0,none⟩)) rfl rfl (fun W hW=>Kah rfl rfl) ?_
       simp only [Act.put,sA,sZ,sS]
       refine tk 1 48 (v:=.pointer (some ⟨B.gx,0,none⟩)) rfl rfl (fun W hW=>rfl) ?_
       simp only [Act.put,sA,sZ,sS]
       refine tk 2 49 (v:=.pointer (some ⟨B.gx,1,none⟩)) rfl rfl (fun W hW=>Kad rfl rfl (Kcm 1 (by omega) _ W)) ?_
       simp only [Act.put,sA,sZ,sS]
       refine tk 3 50 (v:=.map (some B.br)) rfl rfl (fun W hW=>Kaf rfl rfl (Kag (w:=W) Tryz.underlying130 rfl (Kab (o:=1) hW.1 rfl))) ?_
       simp only [Act.put,sA,sZ,sS]
       refine tk 4 51 (v:=.pointer (some ⟨wr.heap.size,0,none⟩)) rfl rfl (fun W hW=>Kad rfl rfl (fa_rel0 _ W)) ?_
       simp only [Act.put,sA,sZ,sS]
       refine tk 5 52 (v:=.int .i64 rj.id) rfl rfl (fun W hW=>Kaf rfl rfl (Kag (w:=W) Tryz.underlying2 rfl (Kab (o:=0) hW.2 k0))) ?_
       simp only [Act.put,sA,sZ,sS]
       refine tk 6 53 (v:=.agg cs) rfl rfl (fun W hW=>Kaf rfl rfl (Kcf.get (P:=Tryz.prog) hs hW.2)) ?_
       simp only [Act.put,sA,sZ,sS]
       refine Kau 7 54 rfl rfl (by kernel_rfl) rfl (Kaq [.agg cs] rfl rfl Tryz.func90 (by kernel_rfl) (by kernel_rfl)) ?_
       refine hcall.mono ?_
       rintro e W7 ⟨x7,rfl,hx7,hb7⟩
       have hb8:=Kaa hbn.drew hb7
       obtain ⟨W8,m1,m2,m3⟩:=hK.rel hb8 (Ka5.imp (fun b _ hb=>by have:=hbn.size;exact Nat.le_trans this hb) hx7) hid
       rw [show ({ madeJ g g.nodes.length j with rels:=putBy RelD.id rj (madeJ g g.nodes.length j).rels } : GS) = ⟨g.nodes.take g.nodes.length,g.rels.take (j + 1),Kdk (fun _=>[]) (g.rels.take j),g.nextNode,g.nextRel⟩ from by unfold madeJ;rw [hput]] at m2
       have hS7 : W7.heap[B.gx]? = some (.cells (gBoxV B (madeJ g g.nodes.length j)) 133 (0,0)) ∧ W7.heap[wr.heap.size]? = some (.cells cs 72 (0,0)):=⟨Kai hb7 (Array.getElem?_eq_some_iff.1 hS0.1).1 hS0.1,Kai hb7 (Array.getElem?_eq_some_iff.1 hS0.2).1 hS0.2⟩
       refine ⟨_,rfl,.inr hS7,?_⟩
       simp only [Act.put,sA,sZ,sS]
       refine Kca 8 rfl rfl (by kernel_rfl) rfl (Kc2 rfl rfl rfl rfl m1) (.inl (by kernel_rfl)) ?_
       refine done (by kernel_rfl) ?_ _
       have hs8 : W8.heap[wr.heap.size]? = some (.cells cs 72 (0,0)):=(m3.block _ (Array.getElem?_eq_some_iff.1 hS7.2).1 (by have:=hK.1.lts.2.2.1;omega)).trans hS7.2
       have HLD:=yh (Kcf.get (P:=Tryz.prog) hs hs8)
       have hlink:=link_any m2.1.box m2.1.adj (fun b hb=>Nat.le_trans m2.2.size hb) rj pp cp hfl
       rw [← ecs] at hlink
       have HLK:=yh hlink
       have HN:=yh (And.intro m2 hlk)
       clear hK hbn hs hcall hid hput hlk hS0 hfl k0 ecs hS HY HJ m1 m2 m3 hS7 hb7 hb8 hx7 hs8 hlink
       go_wp2_with (first
        | ((with_reducible apply Kal);exact HLD.out;exact rfl;clear HLD)
        | (go_at_call 132
           (
            refine HLK.out.mono ?_
            rintro e W9 ⟨rfl,hl9⟩
            obtain ⟨ma9,hk9⟩:=HN.out.1.link hl9
            have HN9:=yh (show ∃ ma,KInv wA W9 B ma (madeJ g g.nodes.length (j + 1)) from ⟨ma9,by unfold madeJ;rw [HN.out.2];exact hk9⟩)
            clear hl9 hk9 HLK HN)))
       go_roundw
       case rel=>exact ⟨j + 1,hlt1,by go_num,HN9⟩
       case measure=>simp [intOf];omega
      ·obtain rfl : j = g.rels.length:=by omega
       go_wp2
       go_ret2
       obtain ⟨ma,h1,h2⟩:=HJ.out
       obtain ⟨hb1,hx8,hsz,hn,hr,ht⟩:=HX.out
       refine ⟨Kaa hb1 h2,fun h=>(Bool.false_ne_true h.symm).elim,fun _=>⟨B,ma,rfl,?_⟩⟩
       have e : madeJ g g.nodes.length g.rels.length = madeG g:=by unfold madeJ madeG;rw [List.take_length,List.take_length]
       rw [e] at h1
       exact h1.imp fun b _ hb=>by have:=hb1.size;omega
theorem none_no {w : World} {B : GB} {s : GS} (h : w.heap[B.gx]? = some (.cells (gBoxV B s) 133 (0,0))) : Calls Tryz.prog 135 #[.pointer (some ⟨B.gx,0,none⟩)] w fun e w'=>e = .returned (.bool false) ∧ w' = w:=by
 have p0 : w.cell? ⟨B.gx,0,none⟩ = some (.map (some B.bn)):=Kab (o:=0) h rfl
 clear h
 have hq : ∀ W : World,(binOp .eql 129 (.map (some B.bn)) (.map none)).run Tryz.prog W = .ok (.bool false) W:=fun W=>by
  have he:=run_equal_map_nil (P:=Tryz.prog) (w:=W) 129 _ _ (some B.bn) Tryz.underlying129
  simp [binOp,go_sem,he]
 go_enter Tryz.func135,Tryz.ntmps135
 go_wp2
 go_ret
 exact ⟨rfl,rfl⟩
def grZ : Array Value:=#[.slice none 0 0,.slice none 0 0,.int .i64 0,.int .i64 0]
theorem exec_allocGr {a : Act} {w : World} {o : Oper} (ho : o.op = .alloc 25) : (execOp a.eval o).run Tryz.prog w = .ok (.value (.pointer (some ⟨w.heap.size,0,none⟩))) (w.alloc (.cells grZ 25)):=by
 unfold execOp
 simp [ho,go_sem,grZ]
theorem exec_buildGr {a : Act} {w : World} {o : Oper} {x0 x1 : Operand} {n m : Int} (ho : o.op = .build 25 #[(2,x0),(3,x1)]) (h0 : a.eval x0 = .int .i64 n) (h1 : a.eval x1 = .int .i64 m) : (execOp a.eval o).run Tryz.prog w = .ok (.value (.agg #[.slice none 0 0,.slice none 0 0,.int .i64 n,.int .i64 m])) w:=by
 unfold execOp;simp [ho,go_sem,h0,h1,Act.eval] at h0 h1 ⊢;simp [h0,h1]
theorem tell_push {α : Type} {E : World → (Nat → Prop) → α → Array Value → Prop} {K : Nat} {t T : TypeId} (hE : EL E K) (hG : GT Tryz.prog t T K) (hV : ∀ {W : World} {ad : Addr} {p : Option Addr} {n c : Nat} {u : Value},W.cell? ad = some u → W.frozen? ad = false → (storeVar T ad (.slice p n c)).run Tryz.prog W = .ok () (W.setCell ad (.slice p n c))) {w2 W W2 : World} {c i : Nat} {cs : Array Value} {ov : Value} {l : List α} {v : α} {x : Array Value}
 (hI : GIn E t K (fun b=>w2.heap.size ≤ b) W ov l) (hT : Touch (fun b=>b = c) w2 W) (hc : W.heap[c]? = some (.cells cs 25 (0,0))) (hcl : c < w2.heap.size) (hi : i < cs.size) (hb : Below W.heap.size W W2) (hx : E W2 (fun b=>W.heap.size ≤ b) v x) (hm : l.length ≤ 1000000) :
 ∃ p cc W3,(Builtin.append_ #[T,T] T #[ov,.slice (some ⟨W2.heap.size,0,none⟩) 1 1]).run Tryz.prog (W2.alloc (.cells x t)) = .ok (.slice p (l.length + 1) cc) W3 ∧ W3.heap[c]? = some (.cells cs 25 (0,0)) ∧ (∀ b,b < W.heap.size → ov.ownBlock ≠ some b → W3.heap[b]? = W.heap[b]?) ∧
  (storeVar T ⟨c,i,none⟩ (.slice p (l.length + 1) cc)).run Tryz.prog W3 = .ok () (W3.setCell ⟨c,i,none⟩ (.slice p (l.length + 1) cc)) ∧
  GIn E t K (fun b=>w2.heap.size ≤ b) (W3.setCell ⟨c,i,none⟩ (.slice p (l.length + 1) cc)) (.slice p (l.length + 1) cc) (l ++ [v]) ∧ Touch (fun b=>b = c) w2 (W3.setCell ⟨c,i,none⟩ (.slice p (l.length + 1) cc)) ∧
  (W3.setCell ⟨c,i,none⟩ (.slice p (l.length + 1) cc)).heap[c]? = some (.cells (cs.setIfInBounds i (.slice p (l.length + 1) cc)) 25 (0,0)):=by
 have hlt:=hI.lt
 have hcW:=(Array.getElem?_eq_some_iff.1 hc).1
 have hws : w2.heap.size ≤ W.heap.size:=hT.size
 obtain ⟨v',W3,a1,a2,a3⟩:=hI.step (W1:=W2) (P':=fun b=>w2.heap.size ≤ b) hE hG (fun b _ h=>hb.block b h) hb.size (fun b _ h=>h) (fun b h=>by have:=hb.size;omega) (hE.imp (fun b _ h=>⟨h,by omega⟩) hx) hm T
 obtain ⟨p,cc,rfl⟩:=a2.slice
 rw [List.length_append,List.length_cons,List.length_nil,Nat.zero_add] at a1 a2
 have hnew : Below W2.heap.size W2 (W2.alloc (.cells x t)):=Kac _
 have hold : ∀ b,b < W.heap.size → ov.ownBlock ≠ some b → W3.heap[b]? = W.heap[b]?:=fun b h1 h2=>by
  have h3:=hb.size
  rw [a3.block b (by simp;omega) h2,hnew.block b (by omega),hb.block b h1]
 have hc3 : W3.heap[c]? = some (.cells cs 25 (0,0)):=(hold c hcW fun e=>by have:=(hlt c e).2;omega).trans hc
 have hst:=hV (W:=W3) (ad:=⟨c,i,none⟩) (p:=p) (n:=l.length + 1) (c:=cc) (Kab (o:=i) hc3 (Array.getElem?_eq_getElem hi)) (Kav (o:=i) hc3)
 have ho : ∀ b,b ≠ c → (W3.setCell ⟨c,i,none⟩ (.slice p (l.length + 1) cc)).heap[b]? = W3.heap[b]?:=fun b hb=>Below.heap_setCell _ ⟨c,i,none⟩ _ b hb
 refine ⟨p,cc,W3,a1,hc3,hold,hst,a2.kept hE (fun b h1 _=>ho b (by omega)) (fun b _ h=>h),?_,?_⟩
 ·have hT3 : Touch (fun b=>b = c) w2 W3:=by
   have h1 : Touch (fun b=>b = c) w2 (W2.alloc (.cells x t)):=(hT.grow hb).grow hnew
   exact h1.step a3 fun b h2 e=>by have:=(hlt b e).2;omega
  exact hT3.setCell (.inl (by exact rfl)) _
 ·exact Kcd _ hc3
theorem put_nodesT {w : World} {ad : Addr} {p : Option Addr} {n c : Nat} {u : Value} (hc : w.cell? ad = some u) (hf : w.frozen? ad = false) : (storeVar 22 ad (.slice p n c)).run Tryz.prog w = .ok () (w.setCell ad (.slice p n c)):=by
 simp [storeVar,go_sem,hc,hf]
theorem put_relsT {w : World} {ad : Addr} {p : Option Addr} {n c : Nat} {u : Value} (hc : w.cell? ad = some u) (hf : w.frozen? ad = false) : (storeVar 23 ad (.slice p n c)).run Tryz.prog w = .ok () (w.setCell ad (.slice p n c)):=by
 simp [storeVar,go_sem,hc,hf]
theorem fa_api (i : Nat) (h : i < 2) (b : Nat) (W : World) : (Instr.fieldAt 25 (.pointer (some ⟨b,0,none⟩)) i).run Tryz.prog W = .ok (.pointer (some ⟨b,i,none⟩)) W:=by
 match i,h with
 | 0,_=>simp [go_sem]
 | 1,_=>simp [go_sem]
theorem exec_allocGr9 {a : Act} {w : World} {o : Oper} {n : Nat} (ho : o.op = .alloc 25) (h : w.heap.size = n) : (execOp a.eval o).run Tryz.prog w = .ok (.value (.pointer (some ⟨n,0,none⟩))) (w.alloc (.cells grZ 25)):=by subst h;exact exec_allocGr ho
def Kbl (ov rv : Value) (n m : Int) : Array Value:=#[ov,rv,.int .i64 n,.int .i64 m]
theorem one_below {w w5 W : World} {c : Nat} (h : Below w.heap.size w w5) (hT : Touch (fun b=>b = c) w5 W) (hc : w.heap.size ≤ c) : Below w.heap.size w W:=hT.below h (fun b hb e=>by omega) h.size
theorem tell_end {w W : World} {s : GS} {ov rv : Value} (h1 : GOwn NOwn 70 3 W (fun b=>w.heap.size ≤ b ∧ b ≠ w.heap.size ∧ b ≠ w.heap.size + 1) ov s.nodes) (h2 : GOwn ROwn 72 5 W (fun b=>w.heap.size ≤ b ∧ b ≠ w.heap.size ∧ b ≠ w.heap.size + 1) rv s.rels)
 (hx : W.heap[w.heap.size]? = some (.cells grZ 25 (0,0))) (hc : W.heap[w.heap.size + 1]? = some (.cells (Kbl ov rv s.nn s.nr) 25 (0,0))) (hb : Below w.heap.size w W) :
 (loadVar 25 ⟨w.heap.size + 1,0,none⟩).run Tryz.prog W = .ok (.agg (Kbl ov rv s.nn s.nr)) W ∧ ∃ W9,(storeVar 25 ⟨w.heap.size,0,none⟩ (.agg (Kbl ov rv s.nn s.nr))).run Tryz.prog W = .ok () W9 ∧ (loadVar 25 ⟨w.heap.size,0,none⟩).run Tryz.prog W9 = .ok (.agg (Kbl ov rv s.nn s.nr)) W9 ∧
   GrOwn W9 (fun b=>w.heap.size ≤ b) s.graph (Kbl ov rv s.nn s.nr) ∧ Below w.heap.size w W9:=by
 have o1 : ov.oneCell' = true:=by obtain ⟨xs,h,_⟩:=h1;exact Kdn h
 have o2 : rv.oneCell' = true:=by obtain ⟨xs,h,_⟩:=h2;exact Kdn h
 have h1c : ∀ u ∈ (Kbl ov rv s.nn s.nr).toList,u.oneCell' = true:=fun u hu=>by
  simp only [Kbl,List.mem_cons,List.not_mem_nil,or_false] at hu
  rcases hu with rfl | rfl | rfl | rfl <;> first | assumption | rfl
 have hk : ∀ b,b ≠ w.heap.size → (W.setRow w.heap.size (Kbl ov rv s.nn s.nr)).heap[b]? = W.heap[b]?:=fun b hb=>setRow_other W _ b _ hb
 exact ⟨StT.get (P:=Tryz.prog) Kay rfl hc,_,StT.put (P:=Tryz.prog) Kay rfl h1c hx rfl,StT.get (P:=Tryz.prog) Kay rfl (setRow_heap W _ _ _ _ _ hx),
  ⟨_,_,rfl,(h1.keep Kas fun b hb _=>hk b hb.2.1).imp Kas fun b _ hb=>hb.1,(h2.keep Ka5 fun b hb _=>hk b hb.2.1).imp Ka5 fun b _ hb=>hb.1⟩,Kbz hb (Nat.le_refl _) _⟩
theorem node_okT {n : NodeD} (h : totN n ≤ 900000) : n.labels.length ≤ 1000000 ∧ PsOk n.props:=by
 unfold totN at h
 have h1 : n.labels.length ≤ totLs n.labels:=Kcb _ fun s _=>by omega
 exact ⟨by omega,PsOk.of (by omega)⟩
theorem rel_okT {n : RelD} (h : totR n ≤ 900000) : PsOk n.props:=by
 unfold totR at h
 exact PsOk.of (by omega)
theorem ids_at {α : Type} (id : α → Int) {w : World} {base : Nat} {v : Value} {l : List α} (h : w.ownsRow base 2 1 v l.length ((l.map id).map (Value.int .i64))) : ∃ p c,v = .slice p l.length c ∧ l.length ≤ c ∧ c ≤ 9223372036854775807 ∧ ∀ j (hj : j < l.length),∃ g,p = some ⟨g,0,none⟩ ∧ g < w.heap.size ∧ base ≤ g ∧ ∃ cs,w.heap[g]? = some (.cells cs 2 (0,0)) ∧ cs[j]? = some (.int .i64 (id l[j])):=by
 rcases h.2 with ⟨rfl,h0⟩ | ⟨g,c,cur,rfl,hb,hg,hnc,hcm,hs,ht⟩
 ·refine ⟨none,0,by rw [h0],by omega,by omega,fun j hj=>by omega⟩
 ·refine ⟨_,c,rfl,hnc,by unfold maxLen at hcm;omega,fun j hj=>⟨g,rfl,(Array.getElem?_eq_some_iff.1 hg).1,hb,cur,hg,?_⟩⟩
  rw [Nat.mul_one] at ht
  have h1 : ((l.map id).map (Value.int .i64))[j]? = cur.toList[j]?:=by rw [← ht,List.getElem?_take,if_pos hj]
  rw [← Array.getElem?_toList,← h1,List.getElem?_map,List.getElem?_map,List.getElem?_eq_getElem hj]
  rfl
theorem tellG_any {S : Nat → Prop} {w : World} {B : GB} {ma : Int → Option Value} {s : GS} (h : GM S w B ma s) (hn : ∀ n ∈ s.nodes,totN n ≤ 900000) (hr : ∀ n ∈ s.rels,totR n ≤ 900000) (hl1 : s.nodes.length ≤ 900000) (hl2 : s.rels.length ≤ 900000) :
 Calls Tryz.prog 91 #[.pointer (some ⟨B.gx,0,none⟩)] w fun e w'=>∃ x,e = .returned (.agg x) ∧ GrOwn w' (fun b=>w.heap.size ≤ b) s.graph x ∧ Below w.heap.size w w':=by
 have hb1:=Kac (w:=w) (.cells grZ 25)
 have hx1:=heap_alloc_new w (.cells grZ 25)
 have hH1:=h.below hb1
 have HN0:=yh (none_no hH1.box)
 have hS0 : (w.alloc (.cells grZ 25)).drew.heap[B.gx]? = some (.cells (gBoxV B s) 133 (0,0)):=hH1.box
 have HST:=yh (StT.fresh (P:=Tryz.prog) (cs:=#[.slice none 0 0,.slice none 0 0,.int .i64 s.nn,.int .i64 s.nr]) Kay rfl (by simp [Value.oneCell']) (W:=(w.alloc (.cells grZ 25)).drew))
 have hb3:=Kac (w:=(w.alloc (.cells grZ 25)).drew) (.cells #[.slice none 0 0,.slice none 0 0,.int .i64 s.nn,.int .i64 s.nr] 25)
 have hx3:=heap_alloc_new (w.alloc (.cells grZ 25)).drew (.cells #[.slice none 0 0,.slice none 0 0,.int .i64 s.nn,.int .i64 s.nr] 25)
 have hz1 : (w.alloc (.cells grZ 25)).drew.heap.size = w.heap.size + 1:=by simp
 rw [hz1] at hx3
 have hx13:=Kai hb3 (by rw [hz1];omega) (show (w.alloc (.cells grZ 25)).drew.heap[w.heap.size]? = _ from hx1)
 have hbw3:=Kaa hb1.drew hb3
 have hz3 : ((w.alloc (.cells grZ 25)).drew.alloc (.cells #[.slice none 0 0,.slice none 0 0,.int .i64 s.nn,.int .i64 s.nr] 25)).heap.size = w.heap.size + 2:=by simp
 have HX:=yh (And.intro hx3 (And.intro hx13 (And.intro hbw3 (And.intro hz3 (h.below hbw3)))))
 have HS0:=yh hS0
 have HTN:=yh (And.intro hn (And.intro hr (And.intro hl1 hl2)))
 have HG0:=yh h
 have HZ1:=yh hz1
 clear hb1 hx1 hH1 hS0 hb3 hx3 hz1 hx13 hbw3 hz3 hn hr hl1 hl2 h
 go_enter Tryz.func91,Tryz.ntmps91
 go_wp2_with (go_at_call 135;refine HN0.out.mono ?_;rintro e w' ⟨rfl,rfl⟩;clear HN0)
 obtain ⟨hx3,hx13,hbw3,hz3,hG3⟩:=HX.out
 have hS9 : ((w.alloc (.cells grZ 25)).drew.alloc (.cells grZ 25)).heap[B.gx]? = some (.cells (gBoxV B s) 133 (0,0)):=Kai (Kac _) (Array.getElem?_eq_some_iff.1 HS0.out).1 HS0.out
 have hS0:=HS0.out
 refine Kaj (fun W=>W.heap[B.gx]? = some (.cells (gBoxV B s) 133 (0,0))) (by kernel_rfl) hS0 (fun hS=>?_)
 refine tk 0 11 (v:=.pointer (some ⟨B.gx,0,none⟩)) rfl rfl (fun W hW=>Kah rfl rfl) ?_
 simp only [Act.put,sA,sZ,sS]
 refine tk 1 12 (v:=.pointer (some ⟨B.gx,0,none⟩)) rfl rfl (fun W hW=>rfl) ?_
 simp only [Act.put,sA,sZ,sS]
 refine tk 2 13 (v:=.pointer (some ⟨B.gx,3,none⟩)) rfl rfl (fun W hW=>Kad rfl rfl (Kcm 3 (by omega) _ W)) ?_
 simp only [Act.put,sA,sZ,sS]
 refine tk 3 14 (v:=.int .i64 s.nn) rfl rfl (fun W hW=>Kaf rfl rfl (Kag (w:=W) Tryz.underlying2 rfl (Kab (o:=3) hW rfl))) ?_
 simp only [Act.put,sA,sZ,sS]
 refine tk 4 15 (v:=.pointer (some ⟨B.gx,0,none⟩)) rfl rfl (fun W hW=>Kah rfl rfl) ?_
 simp only [Act.put,sA,sZ,sS]
 refine tk 5 16 (v:=.pointer (some ⟨B.gx,0,none⟩)) rfl rfl (fun W hW=>rfl) ?_
 simp only [Act.put,sA,sZ,sS]
 refine tk 6 17 (v:=.pointer (some ⟨B.gx,4,none⟩)) rfl rfl (fun W hW=>Kad rfl rfl (Kcm 4 (by omega) _ W)) ?_
 simp only [Act.put,sA,sZ,sS]
 refine tk 7 18 (v:=.int .i64 s.nr) rfl rfl (fun W hW=>Kaf rfl rfl (Kag (w:=W) Tryz.underlying2 rfl (Kab (o:=4) hW rfl))) ?_
 simp only [Act.put,sA,sZ,sS]
 refine tk 8 19 (v:=.agg #[.slice none 0 0,.slice none 0 0,.int .i64 s.nn,.int .i64 s.nr]) rfl rfl (fun W hW=>exec_buildGr rfl rfl rfl) ?_
 simp only [Act.put,sA,sZ,sS]
 refine Kc7 9 3 (v:=.pointer (some ⟨w.heap.size + 1,0,none⟩)) rfl rfl (by kernel_rfl) rfl (exec_allocGr9 rfl HZ1.out) (.inr (by assumption)) ?_
 simp only [Act.put,sA,sZ,sS]
 refine Kca 10 rfl rfl (by kernel_rfl) rfl (Kb4 rfl rfl rfl (by rw [← HZ1.out];exact HST.out _ rfl)) (.inl (by kernel_rfl)) ?_
 refine done (by kernel_rfl) ?_ _
 clear hS hS9 hS0 HS0 HST HZ1 HX
 generalize (w.alloc (.cells grZ 25)).drew.alloc (.cells #[.slice none 0 0,.slice none 0 0,.int .i64 s.nn,.int .i64 s.nr] 25) = w3 at *
 have HLM:=yh (Kag (w:=w3) (ad:=⟨B.gx,0,none⟩) (v:=.map (some B.bn)) Tryz.underlying129 rfl (Kab (o:=0) hG3.box rfl))
 have HG3:=yh hG3
 have HX3:=yh (And.intro hx3 (And.intro hx13 (And.intro hbw3 hz3)))
 clear hx3 hx13 hbw3 hz3 hG3
 go_wp2_with (first
  | ((with_reducible apply Kal);exact HLM.out;exact rfl;clear HLM)
  | (go_at_call 137;refine (keysN_any (some B.bn) _).mono ?_;rintro e w4 ⟨rfl,rfl⟩)
  | (go_at_call 136
     (
      have hb4:=Kac (w:=w3) (.cells #[.map (some B.bn)] 129)
      refine (sortedN_any ((HG3.out.below hb4).nodes) (by have:=HTN.out.2.2.1;omega) (heap_alloc_new w3 _)).mono ?_
      rintro e w5 ⟨v,rfl,hrow,hb5⟩
      have hz4 : (w3.alloc (.cells #[.map (some B.bn)] 129)).heap.size = w.heap.size + 3:=by rw [World.size_alloc,HX3.out.2.2.2]
      rw [hz4] at hrow
      obtain ⟨pi,ci,rfl,hc1,hc2,hids⟩:=ids_at NodeD.id hrow
      have hb35:=Kaa hb4 hb5
      have HT5:=yh (show (∀ j (hj : j < s.nodes.length),∃ g,pi = some ⟨g,0,none⟩ ∧ g < w5.heap.size ∧ w.heap.size + 3 ≤ g ∧ ∃ cs,w5.heap[g]? = some (.cells cs 2 (0,0)) ∧ cs[j]? = some (.int .i64 s.nodes[j].id)) ∧ Below w.heap.size w w5 ∧ w5.heap[w.heap.size]? = some (.cells grZ 25 (0,0)) ∧ w5.heap[w.heap.size + 1]? = some (.cells (Kbl (.slice none 0 0) (.slice none 0 0) s.nn s.nr) 25 (0,0)) ∧ w.heap.size + 3 ≤ w5.heap.size from
       ⟨hids,Kaa HX3.out.2.2.1 hb35,Kai hb35 (Array.getElem?_eq_some_iff.1 HX3.out.2.1).1 HX3.out.2.1,Kai hb35 (Array.getElem?_eq_some_iff.1 HX3.out.1).1 HX3.out.1,by have:=hb5.size;omega⟩)
      clear hb4 hrow hids hb35 hz4 hb5 HX3 HG3)))
 have z1 : (s.nodes.length : Int) ≤ 900000:=by have:=HTN.out.2.2.1;omega
 have z2 : (s.rels.length : Int) ≤ 900000:=by have:=HTN.out.2.2.2;omega
 have HI0:=yh (show ∃ po co,GIn NOwn 70 3 (fun b=>w5.heap.size ≤ b) w5 (.slice po (s.nodes.take 0).length co) (s.nodes.take 0) ∧ Touch (fun b=>b = w.heap.size + 1) w5 w5 ∧ w5.heap[w.heap.size + 1]? = some (.cells (Kbl (.slice po (s.nodes.take 0).length co) (.slice none 0 0) s.nn s.nr) 25 (0,0)) from ⟨none,0,GIn.start,Touch.refl _ _,HT5.out.2.2.2.1⟩)
 go_loopw [27] (fun i wr=>∃ j : Nat,j ≤ s.nodes.length ∧ i = .int .i64 (j : Int) ∧ Hid (∃ po co,GIn NOwn 70 3 (fun b=>w5.heap.size ≤ b) wr (.slice po (s.nodes.take j).length co) (s.nodes.take j) ∧ Touch (fun b=>b = w.heap.size + 1) w5 wr ∧ wr.heap[w.heap.size + 1]? = some (.cells (Kbl (.slice po (s.nodes.take j).length co) (.slice none 0 0) s.nn s.nr) 25 (0,0)))) (fun i _=>s.nodes.length - (intOf i).toNat)
 case atStart=>exact ⟨0,Nat.zero_le _,rfl,HI0⟩
 case round =>
  obtain ⟨j,hj,rfl,HJ⟩:=hrel
  by_cases hlt : j < s.nodes.length
  ·have hlt1:=Nat.succ_le_of_lt hlt
   obtain ⟨po,co,hI,hT,hc⟩:=HJ.out
   obtain ⟨hids,hb05,hx5,hc5,hz5⟩:=HT5.out
   obtain ⟨g,e1,hg2,hg3,cs,hg4,hg5⟩:=hids j hlt
   subst e1
   have hbr:=one_below hb05 hT (Nat.le_succ _)
   have hGr : GM S wr B ma s:=HG0.out.below hbr
   have hig : wr.heap[g]? = some (.cells cs 2 (0,0)):=(hT.block g hg2 (by omega)).trans hg4
   have HC:=yh (Kag (w:=wr) (ad:=⟨g,j,none⟩) Tryz.underlying2 rfl (Kab (o:=j) hig hg5))
   obtain ⟨m,hm1,hm2,hm3,hm4,hm5⟩:=hGr.nodes
   obtain ⟨xn,exn,hxn⟩:=hm5 _ (List.getElem_mem hlt)
   have htn:=HTN.out.1 _ (List.getElem_mem hlt)
   have hlk : ∀ W : World,IntMap W B.bn m → (Instr.lookup 129 (.map (some B.bn)) (.int .i64 s.nodes[j].id) false).run Tryz.prog W = .ok (.agg xn) W:=fun W hW=>by rw [Kdr hW Tryz.underlying129 Tryz.underlying2 Tryz.zeroValue70,exn];rfl
   have hok:=node_okT htn
   have hcall:=copyNode_any ((hxn.rd htn).below (Below.refl _ wr).drew) hok.1 hok.2
   have htk : s.nodes.take (j + 1) = s.nodes.take j ++ [s.nodes[j]]:=List.take_succ_eq_append_getElem hlt
   have hl1 : (s.nodes.take j).length ≤ 1000000:=by rw [List.length_take];have:=HTN.out.2.2.1;omega
   have hS0 : wr.drew.heap[w.heap.size + 1]? = some (.cells (Kbl (.slice po (s.nodes.take j).length co) (.slice none 0 0) s.nn s.nr) 25 (0,0)) ∧ wr.drew.heap[B.gx]? = some (.cells (gBoxV B s) 133 (0,0)) ∧ IntMap wr.drew B.bn m:=⟨hc,hGr.box,hm1.of_heap rfl⟩
   have hlts:=hGr.lts
   have hgw:=HG0.out.lts
   have HY:=yh (And.intro hI (And.intro hT (And.intro hc (And.intro hlk (And.intro hcall (And.intro htk (And.intro hl1 (And.intro hS0 (And.intro hlts (And.intro hgw (And.intro hb05.size hz5)))))))))))
   generalize s.nodes[j] = nj at *
   clear hids hb05 hx5 hc5 hz5 hg2 hg3 hg4 hg5 hbr hGr hig hm1 hm2 hm3 hm4 hm5 exn hxn htn hlk hok hcall htk hl1 hS0 hlts hgw hI hT hc
   go_wp2_with ((with_reducible apply Kal);exact HC.out;exact rfl;clear HC)
   obtain ⟨hI,hT,hc,hlk,hcall,htk,hl1,hS0,hlts,hgw,hz0,hz5⟩:=HY.out
   refine Kaj (fun W=>W.heap[w.heap.size + 1]? = some (.cells (Kbl (.slice po (s.nodes.take j).length co) (.slice none 0 0) s.nn s.nr) 25 (0,0)) ∧ W.heap[B.gx]? = some (.cells (gBoxV B s) 133 (0,0)) ∧ IntMap W B.bn m) (by kernel_rfl) hS0 (fun hS=>?_)
   refine tk 0 31 (v:=.pointer (some ⟨w.heap.size + 1,0,none⟩)) rfl rfl (fun W hW=>Kad rfl rfl (fa_api 0 (by omega) _ W)) ?_
   simp only [Act.put,sA,sZ,sS]
   refine tk 1 32 (v:=.slice po (s.nodes.take j).length co) rfl rfl (fun W hW=>Kaf rfl rfl (Kag (w:=W) Tryz.underlying22 rfl (Kab (o:=0) hW.1 rfl))) ?_
   simp only [Act.put,sA,sZ,sS]
   refine tk 2 33 (v:=.pointer (some ⟨B.gx,0,none⟩)) rfl rfl (fun W hW=>Kah rfl rfl) ?_
   simp only [Act.put,sA,sZ,sS]
   refine tk 3 34 (v:=.pointer (some ⟨B.gx,0,none⟩)) rfl rfl (fun W hW=>rfl) ?_
   simp only [Act.put,sA,sZ,sS]
   refine tk 4 35 (v:=.pointer (some ⟨B.gx,0,none⟩)) rfl rfl (fun W hW=>Kad rfl rfl (Kcm 0 (by omega) _ W)) ?_
   simp only [Act.put,sA,sZ,sS]
   refine tk 5 36 (v:=.map (some B.bn)) rfl rfl (fun W hW=>Kaf rfl rfl (Kag (w:=W) Tryz.underlying129 rfl (Kab (o:=0) hW.2.1 rfl))) ?_
   simp only [Act.put,sA,sZ,sS]
   refine tk 6 37 (v:=.int .i64 nj.id) rfl rfl (fun W hW=>Kah rfl rfl) ?_
   simp only [Act.put,sA,sZ,sS]
   refine tk 7 38 (v:=.agg xn) rfl rfl (fun W hW=>Kfe rfl rfl rfl (hlk W hW.2.2)) ?_
   simp only [Act.put,sA,sZ,sS]
   refine Kau 8 39 rfl rfl (by kernel_rfl) rfl (Kaq [.agg xn] rfl rfl Tryz.func89 (by kernel_rfl) (by kernel_rfl)) ?_
   refine hcall.mono ?_
   rintro e W8 ⟨x8,rfl,hx8,hb8⟩
   have hbw8:=Kaa (Below.refl _ wr).drew hb8
   have hbs : (Instr.buildSlice 22 1 #[(0,.agg x8)]).run Tryz.prog W8 = .ok (.slice (some ⟨W8.heap.size,0,none⟩) 1 1) (W8.alloc (.cells x8 70)):=Kap Tryz.underlying22 Tryz.sizeOf70 Tryz.zeroValue70 (Kas.size hx8) (by omega) (by omega)
   obtain ⟨pq,cq,W10,a1,a2,a3,a4,a5,a6,a7⟩:=tell_push (i:=0) Kas gt_node (fun h1 h2=>put_nodesT h1 h2) hI hT hc (by omega) (by simp [Kbl]) hbw8 hx8 hl1
   have hS8 : W8.heap[w.heap.size + 1]? = some (.cells (Kbl (.slice po (s.nodes.take j).length co) (.slice none 0 0) s.nn s.nr) 25 (0,0)) ∧ W8.heap[B.gx]? = some (.cells (gBoxV B s) 133 (0,0)) ∧ IntMap W8 B.bn m:=⟨Kai hb8 (Array.getElem?_eq_some_iff.1 hS0.1).1 hS0.1,Kai hb8 (Array.getElem?_eq_some_iff.1 hS0.2.1).1 hS0.2.1,hS0.2.2.grow hb8⟩
   have hS9 : (W8.alloc (.cells x8 70)).heap[w.heap.size + 1]? = some (.cells (Kbl (.slice po (s.nodes.take j).length co) (.slice none 0 0) s.nn s.nr) 25 (0,0)) ∧ (W8.alloc (.cells x8 70)).heap[B.gx]? = some (.cells (gBoxV B s) 133 (0,0)) ∧ IntMap (W8.alloc (.cells x8 70)) B.bn m:=⟨Kai (Kac _) (Array.getElem?_eq_some_iff.1 hS8.1).1 hS8.1,Kai (Kac _) (Array.getElem?_eq_some_iff.1 hS8.2.1).1 hS8.2.1,hS8.2.2.grow (Kac _)⟩
   have hS10 : W10.heap[w.heap.size + 1]? = some (.cells (Kbl (.slice po (s.nodes.take j).length co) (.slice none 0 0) s.nn s.nr) 25 (0,0)) ∧ W10.heap[B.gx]? = some (.cells (gBoxV B s) 133 (0,0)) ∧ IntMap W10 B.bn m:=⟨a2,(a3 _ hlts.1 (fun e=>by have:=(hI.lt _ e).2;omega)).trans hS0.2.1,hS0.2.2.of_heap (a3 _ hlts.2.1 (fun e=>by have:=(hI.lt _ e).2;omega))⟩
   refine ⟨_,rfl,.inr hS8,?_⟩
   simp only [Act.put,sA,sZ,sS]
   refine Kc7 9 40 (v:=.slice (some ⟨W8.heap.size,0,none⟩) 1 1) rfl rfl (by kernel_rfl) rfl (Kbq rfl rfl hbs) (.inr (by assumption)) ?_
   simp only [Act.put,sA,sZ,sS]
   refine Kc7 10 41 (v:=.slice pq ((s.nodes.take j).length + 1) cq) rfl rfl (by kernel_rfl) rfl (Kc8 rfl rfl rfl a1) (.inr (by assumption)) ?_
   simp only [Act.put,sA,sZ,sS]
   refine tk 11 42 (v:=.pointer (some ⟨w.heap.size + 1,0,none⟩)) rfl rfl (fun W hW=>Kad rfl rfl (fa_api 0 (by omega) _ W)) ?_
   simp only [Act.put,sA,sZ,sS]
   refine Kca 12 rfl rfl (by kernel_rfl) rfl (Kb4 rfl rfl rfl a4) (.inl (by kernel_rfl)) ?_
   refine done (by kernel_rfl) ?_ _
   have HN:=yh (show ∃ po co,GIn NOwn 70 3 (fun b=>w5.heap.size ≤ b) (W10.setCell ⟨w.heap.size + 1,0,none⟩ (.slice pq ((s.nodes.take j).length + 1) cq)) (.slice po (s.nodes.take (j + 1)).length co) (s.nodes.take (j + 1)) ∧ Touch (fun b=>b = w.heap.size + 1) w5 (W10.setCell ⟨w.heap.size + 1,0,none⟩ (.slice pq ((s.nodes.take j).length + 1) cq)) ∧ (W10.setCell ⟨w.heap.size + 1,0,none⟩ (.slice pq ((s.nodes.take j).length + 1) cq)).heap[w.heap.size + 1]? = some (.cells (Kbl (.slice po (s.nodes.take (j + 1)).length co) (.slice none 0 0) s.nn s.nr) 25 (0,0)) from by
    rw [show (s.nodes.take (j + 1)).length = (s.nodes.take j).length + 1 by rw [htk];simp,htk]
    exact ⟨pq,cq,a5,a6,a7⟩)
   generalize W10.setCell ⟨w.heap.size + 1,0,none⟩ (.slice pq ((s.nodes.take j).length + 1) cq) = W11 at HN ⊢
   clear hI hT hc hlk hcall htk hl1 hS0 hlts hgw hz0 hz5 hS HY HJ a1 a2 a3 a4 a5 a6 a7 hbs hx8 hb8 hS8 hS9 hS10 hbw8
   go_wp2
   go_roundw
   case rel=>exact ⟨j + 1,hlt1,by go_num,HN⟩
   case measure=>simp [intOf];omega
  ·obtain rfl : j = s.nodes.length:=by omega
   obtain ⟨pn,cn,hI,hT,hc⟩:=HJ.out
   rw [List.take_length] at hI hc
   obtain ⟨hids,hb05,hx5,hc5,hz5⟩:=HT5.out
   have hbr:=one_below hb05 hT (Nat.le_succ _)
   have hon:=(hI.own Kas).imp (P':=fun b=>w.heap.size ≤ b ∧ b ≠ w.heap.size ∧ b ≠ w.heap.size + 1) Kas fun b _ hb=>by have hb' : w5.heap.size ≤ b:=hb;omega
   have hx6:=(hT.block _ (Array.getElem?_eq_some_iff.1 hx5).1 (by omega)).trans hx5
   have hzr : w.heap.size + 3 ≤ wr.heap.size:=Nat.le_trans hz5 hT.size
   have HLM2:=yh (Kag (w:=wr) (ad:=⟨B.gx,1,none⟩) (v:=.map (some B.br)) Tryz.underlying130 rfl (Kab (o:=1) (HG0.out.below hbr).box rfl))
   have HX6:=yh (And.intro hon (And.intro hx6 (And.intro hc (And.intro hbr hzr))))
   clear hI hT hc hids hb05 hx5 hc5 hz5 hbr hon hx6 hzr HJ HT5 HI0
   go_wp2_with (first
    | ((with_reducible apply Kal);exact HLM2.out;exact rfl;clear HLM2)
    | (go_at_call 138;refine (keysR_any (some B.br) _).mono ?_;rintro e w4 ⟨rfl,rfl⟩)
    | (go_at_call 136
       (
        have hb4:=Kac (w:=wr) (.cells #[.map (some B.br)] 130)
        have hz4 : (wr.alloc (.cells #[.map (some B.br)] 130)).heap.size = wr.heap.size + 1:=by rw [World.size_alloc]
        obtain ⟨hon,hx6,hc6,hbr,hzr⟩:=HX6.out
        refine (sortedR_any (((HG0.out.below hbr).below hb4).rels) (by have:=HTN.out.2.2.2;omega) (heap_alloc_new wr _)).mono ?_
        rintro e w7 ⟨v,rfl,hrow,hb5⟩
        obtain ⟨pi,ci,rfl,hc1,hc2,hids⟩:=ids_at RelD.id hrow
        have hb35:=Kaa hb4 hb5
        have HT7:=yh (show (∀ j (hj : j < s.rels.length),∃ g,pi = some ⟨g,0,none⟩ ∧ g < w7.heap.size ∧ w.heap.size + 3 ≤ g ∧ ∃ cs,w7.heap[g]? = some (.cells cs 2 (0,0)) ∧ cs[j]? = some (.int .i64 s.rels[j].id)) ∧ Below w.heap.size w w7 ∧ w7.heap[w.heap.size]? = some (.cells grZ 25 (0,0)) ∧ w7.heap[w.heap.size + 1]? = some (.cells (Kbl (.slice pn s.nodes.length cn) (.slice none 0 0) s.nn s.nr) 25 (0,0)) ∧ w.heap.size + 3 ≤ w7.heap.size ∧ GOwn NOwn 70 3 w7 (fun b=>w.heap.size ≤ b ∧ b ≠ w.heap.size ∧ b ≠ w.heap.size + 1) (.slice pn s.nodes.length cn) s.nodes from
         ⟨fun j hj=>by
           obtain ⟨g,e1,e2,e3,cs,e4,e5⟩:=hids j hj
           exact ⟨g,e1,e2,by omega,cs,e4,e5⟩,Kaa hbr hb35,Kai hb35 (Array.getElem?_eq_some_iff.1 hx6).1 hx6,Kai hb35 (Array.getElem?_eq_some_iff.1 hc6).1 hc6,by have:=hb5.size;omega,hon.below Kas hb35⟩)
        clear hb4 hrow hids hb35 hz4 hb5 HX6 hon hx6 hc6 hbr hzr)))
   have HI0:=yh (show ∃ po co,GIn ROwn 72 5 (fun b=>w7.heap.size ≤ b) w7 (.slice po (s.rels.take 0).length co) (s.rels.take 0) ∧ Touch (fun b=>b = w.heap.size + 1) w7 w7 ∧ w7.heap[w.heap.size + 1]? = some (.cells (Kbl (.slice pn s.nodes.length cn) (.slice po (s.rels.take 0).length co) s.nn s.nr) 25 (0,0)) from ⟨none,0,GIn.start,Touch.refl _ _,HT7.out.2.2.2.1⟩)
   go_loopw [51] (fun i wr=>∃ j : Nat,j ≤ s.rels.length ∧ i = .int .i64 (j : Int) ∧ Hid (∃ po co,GIn ROwn 72 5 (fun b=>w7.heap.size ≤ b) wr (.slice po (s.rels.take j).length co) (s.rels.take j) ∧ Touch (fun b=>b = w.heap.size + 1) w7 wr ∧ wr.heap[w.heap.size + 1]? = some (.cells (Kbl (.slice pn s.nodes.length cn) (.slice po (s.rels.take j).length co) s.nn s.nr) 25 (0,0)))) (fun i _=>s.rels.length - (intOf i).toNat)
   case atStart=>exact ⟨0,Nat.zero_le _,rfl,HI0⟩
   case round =>
    rename_i wr0 wr
    obtain ⟨j,hj,rfl,HJ⟩:=hrel
    by_cases hlt : j < s.rels.length
    ·have hlt1:=Nat.succ_le_of_lt hlt
     obtain ⟨po,co,hI,hT,hc⟩:=HJ.out
     obtain ⟨hids,hb05,hx5,hc5,hz5,hon5⟩:=HT7.out
     obtain ⟨g,e1,hg2,hg3,cs,hg4,hg5⟩:=hids j hlt
     subst e1
     have hbr:=one_below hb05 hT (Nat.le_succ _)
     have hGr : GM S wr B ma s:=HG0.out.below hbr
     have hig : wr.heap[g]? = some (.cells cs 2 (0,0)):=(hT.block g hg2 (by omega)).trans hg4
     have HC:=yh (Kag (w:=wr) (ad:=⟨g,j,none⟩) Tryz.underlying2 rfl (Kab (o:=j) hig hg5))
     obtain ⟨m,hm1,hm2,hm3,hm4,hm5⟩:=hGr.rels
     obtain ⟨xn,exn,hxn⟩:=hm5 _ (List.getElem_mem hlt)
     have htn:=HTN.out.2.1 _ (List.getElem_mem hlt)
     have hlk : ∀ W : World,IntMap W B.br m → (Instr.lookup 130 (.map (some B.br)) (.int .i64 s.rels[j].id) false).run Tryz.prog W = .ok (.agg xn) W:=fun W hW=>by rw [Kdr hW Tryz.underlying130 Tryz.underlying2 Tryz.zeroValue72,exn];rfl
     have hok:=rel_okT htn
     have hcall:=copyRel_any ((hxn.rd htn).below (Below.refl _ wr).drew) hok
     have htk : s.rels.take (j + 1) = s.rels.take j ++ [s.rels[j]]:=List.take_succ_eq_append_getElem hlt
     have hl1 : (s.rels.take j).length ≤ 1000000:=by rw [List.length_take];have:=HTN.out.2.2.2;omega
     have hS0 : wr.drew.heap[w.heap.size + 1]? = some (.cells (Kbl (.slice pn s.nodes.length cn) (.slice po (s.rels.take j).length co) s.nn s.nr) 25 (0,0)) ∧ wr.drew.heap[B.gx]? = some (.cells (gBoxV B s) 133 (0,0)) ∧ IntMap wr.drew B.br m:=⟨hc,hGr.box,hm1.of_heap rfl⟩
     have hlts:=hGr.lts
     have hgw:=HG0.out.lts
     have HY:=yh (And.intro hI (And.intro hT (And.intro hc (And.intro hlk (And.intro hcall (And.intro htk (And.intro hl1 (And.intro hS0 (And.intro hlts (And.intro hgw (And.intro hb05.size hz5)))))))))))
     generalize s.rels[j] = nj at *
     clear hids hb05 hx5 hc5 hz5 hon5 hg2 hg3 hg4 hg5 hbr hGr hig hm1 hm2 hm3 hm4 hm5 exn hxn htn hlk hok hcall htk hl1 hS0 hlts hgw hI hT hc
     go_wp2_with ((with_reducible apply Kal);exact HC.out;exact rfl;clear HC)
     obtain ⟨hI,hT,hc,hlk,hcall,htk,hl1,hS0,hlts,hgw,hz0,hz5⟩:=HY.out
     refine Kaj (fun W=>W.heap[w.heap.size + 1]? = some (.cells (Kbl (.slice pn s.nodes.length cn) (.slice po (s.rels.take j).length co) s.nn s.nr) 25 (0,0)) ∧ W.heap[B.gx]? = some (.cells (gBoxV B s) 133 (0,0)) ∧ IntMap W B.br m) (by kernel_rfl) hS0 (fun hS=>?_)
     refine tk 0 55 (v:=.pointer (some ⟨w.heap.size + 1,1,none⟩)) rfl rfl (fun W hW=>Kad rfl rfl (fa_api 1 (by omega) _ W)) ?_
     simp only [Act.put,sA,sZ,sS]
     refine tk 1 56 (v:=.slice po (s.rels.take j).length co) rfl rfl (fun W hW=>Kaf rfl rfl (Kag (w:=W) Tryz.underlying23 rfl (Kab (o:=1) hW.1 rfl))) ?_
     simp only [Act.put,sA,sZ,sS]
     refine tk 2 57 (v:=.pointer (some ⟨B.gx,0,none⟩)) rfl rfl (fun W hW=>Kah rfl rfl) ?_
     simp only [Act.put,sA,sZ,sS]
     refine tk 3 58 (v:=.pointer (some ⟨B.gx,0,none⟩)) rfl rfl (fun W hW=>rfl) ?_
     simp only [Act.put,sA,sZ,sS]
     refine tk 4 59 (v:=.pointer (some ⟨B.gx,1,none⟩)) rfl rfl (fun W hW=>Kad rfl rfl (Kcm 1 (by omega) _ W)) ?_
     simp only [Act.put,sA,sZ,sS]
     refine tk 5 60 (v:=.map (some B.br)) rfl rfl (fun W hW=>Kaf rfl rfl (Kag (w:=W) Tryz.underlying130 rfl (Kab (o:=1) hW.2.1 rfl))) ?_
     simp only [Act.put,sA,sZ,sS]
     refine tk 6 61 (v:=.int .i64 nj.id) rfl rfl (fun W hW=>Kah rfl rfl) ?_
     simp only [Act.put,sA,sZ,sS]
     refine tk 7 62 (v:=.agg xn) rfl rfl (fun W hW=>Kfe rfl rfl rfl (hlk W hW.2.2)) ?_
     simp only [Act.put,sA,sZ,sS]
     refine Kau 8 63 rfl rfl (by kernel_rfl) rfl (Kaq [.agg xn] rfl rfl Tryz.func90 (by kernel_rfl) (by kernel_rfl)) ?_
     refine hcall.mono ?_
     rintro e W8 ⟨x8,rfl,hx8,hb8⟩
     have hbw8:=Kaa (Below.refl _ wr).drew hb8
     have hbs : (Instr.buildSlice 23 1 #[(0,.agg x8)]).run Tryz.prog W8 = .ok (.slice (some ⟨W8.heap.size,0,none⟩) 1 1) (W8.alloc (.cells x8 72)):=Kap Tryz.underlying23 Tryz.sizeOf72 Tryz.zeroValue72 (Ka5.size hx8) (by omega) (by omega)
     obtain ⟨pq,cq,W10,a1,a2,a3,a4,a5,a6,a7⟩:=tell_push (i:=1) Ka5 gt_rel (fun h1 h2=>put_relsT h1 h2) hI hT hc (by omega) (by simp [Kbl]) hbw8 hx8 hl1
     have hS8 : W8.heap[w.heap.size + 1]? = some (.cells (Kbl (.slice pn s.nodes.length cn) (.slice po (s.rels.take j).length co) s.nn s.nr) 25 (0,0)) ∧ W8.heap[B.gx]? = some (.cells (gBoxV B s) 133 (0,0)) ∧ IntMap W8 B.br m:=⟨Kai hb8 (Array.getElem?_eq_some_iff.1 hS0.1).1 hS0.1,Kai hb8 (Array.getElem?_eq_some_iff.1 hS0.2.1).1 hS0.2.1,hS0.2.2.grow hb8⟩
     have hS9 : (W8.alloc (.cells x8 72)).heap[w.heap.size + 1]? = some (.cells (Kbl (.slice pn s.nodes.length cn) (.slice po (s.rels.take j).length co) s.nn s.nr) 25 (0,0)) ∧ (W8.alloc (.cells x8 72)).heap[B.gx]? = some (.cells (gBoxV B s) 133 (0,0)) ∧ IntMap (W8.alloc (.cells x8 72)) B.br m:=⟨Kai (Kac _) (Array.getElem?_eq_some_iff.1 hS8.1).1 hS8.1,Kai (Kac _) (Array.getElem?_eq_some_iff.1 hS8.2.1).1 hS8.2.1,hS8.2.2.grow (Kac _)⟩
     have hS10 : W10.heap[w.heap.size + 1]? = some (.cells (Kbl (.slice pn s.nodes.length cn) (.slice po (s.rels.take j).length co) s.nn s.nr) 25 (0,0)) ∧ W10.heap[B.gx]? = some (.cells (gBoxV B s) 133 (0,0)) ∧ IntMap W10 B.br m:=⟨a2,(a3 _ hlts.1 (fun e=>by have:=(hI.lt _ e).2;omega)).trans hS0.2.1,hS0.2.2.of_heap (a3 _ hlts.2.2.1 (fun e=>by have:=(hI.lt _ e).2;omega))⟩
     refine ⟨_,rfl,.inr hS8,?_⟩
     simp only [Act.put,sA,sZ,sS]
     refine Kc7 9 64 (v:=.slice (some ⟨W8.heap.size,0,none⟩) 1 1) rfl rfl (by kernel_rfl) rfl (Kbq rfl rfl hbs) (.inr (by assumption)) ?_
     simp only [Act.put,sA,sZ,sS]
     refine Kc7 10 65 (v:=.slice pq ((s.rels.take j).length + 1) cq) rfl rfl (by kernel_rfl) rfl (Kc8 rfl rfl rfl a1) (.inr (by assumption)) ?_
     simp only [Act.put,sA,sZ,sS]
     refine tk 11 66 (v:=.pointer (some ⟨w.heap.size + 1,1,none⟩)) rfl rfl (fun W hW=>Kad rfl rfl (fa_api 1 (by omega) _ W)) ?_
     simp only [Act.put,sA,sZ,sS]
     refine Kca 12 rfl rfl (by kernel_rfl) rfl (Kb4 rfl rfl rfl a4) (.inl (by kernel_rfl)) ?_
     refine done (by kernel_rfl) ?_ _
     have HN:=yh (show ∃ po co,GIn ROwn 72 5 (fun b=>w7.heap.size ≤ b) (W10.setCell ⟨w.heap.size + 1,1,none⟩ (.slice pq ((s.rels.take j).length + 1) cq)) (.slice po (s.rels.take (j + 1)).length co) (s.rels.take (j + 1)) ∧ Touch (fun b=>b = w.heap.size + 1) w7 (W10.setCell ⟨w.heap.size + 1,1,none⟩ (.slice pq ((s.rels.take j).length + 1) cq)) ∧ (W10.setCell ⟨w.heap.size + 1,1,none⟩ (.slice pq ((s.rels.take j).length + 1) cq)).heap[w.heap.size + 1]? = some (.cells (Kbl (.slice pn s.nodes.length cn) (.slice po (s.rels.take (j + 1)).length co) s.nn s.nr) 25 (0,0)) from by
      rw [show (s.rels.take (j + 1)).length = (s.rels.take j).length + 1 by rw [htk];simp,htk]
      exact ⟨pq,cq,a5,a6,a7⟩)
     generalize W10.setCell ⟨w.heap.size + 1,1,none⟩ (.slice pq ((s.rels.take j).length + 1) cq) = W11 at HN ⊢
     clear hI hT hc hlk hcall htk hl1 hS0 hlts hgw hz0 hz5 hS HY HJ a1 a2 a3 a4 a5 a6 a7 hbs hx8 hb8 hS8 hS9 hS10 hbw8
     go_wp2
     go_roundw
     case rel=>exact ⟨j + 1,hlt1,by go_num,HN⟩
     case measure=>simp [intOf];omega
    ·obtain rfl : j = s.rels.length:=by omega
     obtain ⟨pr,cr,hI,hT,hc⟩:=HJ.out
     rw [List.take_length] at hI hc
     obtain ⟨hids,hb05,hx5,hc5,hz5,hon5⟩:=HT7.out
     have hbr:=one_below hb05 hT (Nat.le_succ _)
     have hor:=(hI.own Ka5).imp (P':=fun b=>w.heap.size ≤ b ∧ b ≠ w.heap.size ∧ b ≠ w.heap.size + 1) Ka5 fun b _ hb=>by have hb' : w7.heap.size ≤ b:=hb;omega
     have hon:=hon5.keep (w':=wr) Kas fun b hb hl=>hT.block b hl hb.2.2
     have hx6:=(hT.block _ (Array.getElem?_eq_some_iff.1 hx5).1 (by omega)).trans hx5
     obtain ⟨d1,W9,d2,d3,d4,d5⟩:=tell_end hon hor hx6 hc hbr
     have HLD:=yh d1
     have HST:=yh d2
     have HLE:=yh d3
     have HF:=yh (And.intro d4 d5)
     clear hI hT hc hids hb05 hx5 hc5 hz5 hon5 hbr hor hon hx6 d1 d2 d3 d4 d5 HJ HT7 HI0
     go_wp2_with (first
      | ((with_reducible apply Kal);exact HLD.out;exact rfl;clear HLD)
      | ((with_reducible apply Kae);exact HST.out;exact rfl;exact rfl;clear HST))
     refine bodyPost_ret (Kan rfl _ _ ⟨w.heap.size,0,none⟩ _ rfl HLE.out) rfl ?_
     exact ⟨_,rfl,HF.out⟩
end Go.Proofs.YthdfedfholmbmaaGreatDoor
