/- Texts that the proof shares (each declaration is a lemma of this layer). -/
import Derived.Test.YthdfedfholmbmaaGreatDoorZCcha
import Derived.Test.YthdfedfholmbmaaGreatDoorZCchb
import Derived.Test.YthdfedfholmbmaaGreatDoorZCchc
import Derived.Test.YthdfedfholmbmaaGreatDoorZCchd
set_option linter.unusedSimpArgs false
set_option linter.unusedVariables false
set_option maxRecDepth 100000
set_option maxHeartbeats 64000000
namespace Go.Proofs.YthdfedfholmbmaaGreatDoor
open Go.RowKit
theorem add_big {i j : Nat} (h : i + j ≤ 4611686018427387904) (W : World) : (binOp .add 3 (.int .i64 (i : Int)) (.int .i64 (j : Int))).run Tryz.prog W = .ok (.int .i64 ((i + j : Nat) : Int)) W := by
 have e : IntKind.i64.wrap ((i : Int) + (j : Int)) = ((i + j : Nat) : Int) := by rw [IntKind.wrap_i64]; omega
 simp [go_sem, e]
theorem add_one' {i : Nat} (h : i ≤ 4611686018427387903) (W : World) : (binOp .add 3 (.int .i64 (i : Int)) (.int .i64 1)).run Tryz.prog W = .ok (.int .i64 ((i + 1 : Nat) : Int)) W := add_big (i := i) (j := 1) (by omega) W
theorem exec_lenQ {a : Act} {w : World} {o : Oper} {x : Operand} {l : List UInt8} (ho : o.op = .call { callee := .builtin .len, args := #[x], argTypes := #[9] }) (hx : a.eval x = .string (strB l)) : (execOp a.eval o).run Tryz.prog w = .ok (.value (.int .i64 (l.length : Int))) w := by
 have e : (strB l).size = l.length := rfl
 unfold execOp
 simp only [ho, resolve, invoke, builtin, Sem.run_bind, Sem.run_pure, Result.andThen_ok, List.map_toArray, List.map_cons, List.map_nil, hx]
 simp [go_sem, e]
theorem sum_take {α : Type} (f : α → Nat) {l : List α} {j : Nat} (h : j < l.length) : ((l.take (j + 1)).map f).sum = ((l.take j).map f).sum + f l[j] := by
 rw [List.take_succ_eq_append_getElem h, List.map_append, List.sum_append]; simp
def Szo (tot r : Nat) : Prop := (r ≤ 3000 → tot ≤ r) ∧ r ≤ 1125899906842624
theorem psz_any {w : World} {pl pp : Option Addr} {cl cp : Nat} {ls : List (List UInt8)} {ps : List PropD} (hl : RdS w pl cl ls) (hp : GRd PRd 7 w pp cp ps) :
 Calls Tryz.prog 36 #[.slice pl ls.length cl, .slice pp ps.length cp] w fun e w' => ∃ r : Nat, e = .returned (.int .i64 (r : Int)) ∧ Szo (1 + totLs ls + totPs ps) r ∧ Below w.heap.size w w' := by
 have z1 : (ls.length : Int) ≤ 140737488355328 := by have := hl.2.1.1; omega
 have z2 : (ps.length : Int) ≤ 140737488355328 := by have := hp.1.2.1; omega
 have HL := yh hl
 have HP := yh hp
 have htot : totPs ps = (ps.map totP).sum := rfl
 rw [htot]
 clear hl hp htot
 go_enter Tryz.func36, Tryz.ntmps36
 go_wp2
 go_loopw [5, 6] (fun m i W => ∃ j nn : Nat, j ≤ ls.length ∧ i = .int .i64 (j : Int) ∧ m = .int .i64 (nn : Int) ∧ nn ≤ 1125899906842624 ∧ Hid ((nn ≤ 3000 → 1 + ((ls.take j).map fun s => 1 + s.length).sum ≤ nn) ∧ Below w.heap.size w W)) (fun _ i _ => ls.length - (intOf i).toNat)
 case atStart => exact ⟨0, 1, Nat.zero_le _, rfl, rfl, by omega, yh ⟨fun _ => by simp, Below.refl _ _⟩⟩
 case round =>
  obtain ⟨j, nn, hj, rfl, rfl, hnb, HS⟩ := hrel
  have z5 : (nn : Int) ≤ 1125899906842624 := by omega
  by_cases hlt : j < ls.length
  ·have hlt1 : j + 1 ≤ ls.length := hlt
   by_cases hle : nn ≤ 3000
   ·have hle1 : (nn : Int) ≤ 3000 := by omega
    obtain ⟨bk, ok, rfl, q0, hsl⟩ := (HL.out.below HS.out.2).get hlt
    have hstep : ((ls.take (j + 1)).map fun s => 1 + s.length).sum = ((ls.take j).map fun s => 1 + s.length).sum + (1 + ls[j].length) := sum_take (fun s : List UInt8 => 1 + s.length) hlt
    generalize ls[j] = kk at *
    have hszk : (strB kk).size = kk.length := rfl
    have z6 : (kk.length : Int) ≤ 140737488355328 := by omega
    have HF := yh (And.intro hstep HS.out)
    clear hstep HS
    go_wp2
    go_roundw
    case rel => exact ⟨j + 1, nn + 1 + kk.length, hlt1, by go_num, by go_num, by omega, yh ⟨fun h => by have := HF.out.1; have := HF.out.2.1 (by omega); omega, HF.out.2.2⟩⟩
    case measure => simp [intOf]; omega
   ·have hle1 : ¬ (nn : Int) ≤ 3000 := by omega
    have hle0 : decide ((nn : Int) ≤ 3000) = false := by simpa using hle1
    have HF := yh (show (nn ≤ 3000 → 1 + totLs ls ≤ nn) ∧ Below w.heap.size w wr from ⟨fun h => absurd h hle, HS.out.2⟩)
    clear HS hle
    go_wp2
    go_loopw [5, 7] (fun m i W => ∃ j2 nn : Nat, j2 ≤ ps.length ∧ i = .int .i64 (j2 : Int) ∧ m = .int .i64 (nn : Int) ∧ nn ≤ 1125899906842624 ∧ Hid ((nn ≤ 3000 → 1 + totLs ls + ((ps.take j2).map totP).sum ≤ nn) ∧ Below w.heap.size w W)) (fun _ i _ => ps.length - (intOf i).toNat)
    case atStart => exact ⟨0, nn, Nat.zero_le _, rfl, rfl, by omega, yh ⟨fun h => by have := HF.out.1 h; simp only [List.take_zero, List.map_nil, List.sum_nil]; omega, HF.out.2⟩⟩
    case round =>
     clear HF
     obtain ⟨j2, nn, hj2, rfl, rfl, hnb2, HQ⟩ := hrel
     have z5 : (nn : Int) ≤ 1125899906842624 := by omega
     by_cases hlt2 : j2 < ps.length
     ·have hlt3 : j2 + 1 ≤ ps.length := hlt2
      by_cases hle : nn ≤ 3000
      ·have hle1 : (nn : Int) ≤ 3000 := by omega
       obtain ⟨b, of, cs, rfl, hs, hc0, hv⟩ := HP.out.get hlt2
       have hc : ∀ (k : Nat) (u : Value), cs[k]? = some u → wr.cell? ⟨b, of + j2 * 7 + k, none⟩ = some u := fun k u hu => Kag HQ.out.2 (ltOf (hc0 k u hu)) (hc0 k u hu)
       have hst := sum_take totP hlt2
       have hia : ∀ W' : World, (Instr.indexAt 68 (.slice (some ⟨b, of, none⟩) ps.length cp) (.int .i64 (j2 : Int))).run Tryz.prog W' = .ok (.pointer (some ⟨b, of + j2 * 7, none⟩)) W' := by intro W'; simp [go_sem, hlt2]
       have hf0 : ∀ W' : World, (Instr.fieldAt 136 (.pointer (some ⟨b, of + j2 * 7, none⟩)) 0).run Tryz.prog W' = .ok (.pointer (some ⟨b, of + j2 * 7, none⟩)) W' := by intro W'; simp [go_sem]
       have hf1 : ∀ W' : World, (Instr.fieldAt 136 (.pointer (some ⟨b, of + j2 * 7, none⟩)) 1).run Tryz.prog W' = .ok (.pointer (some ⟨b, of + j2 * 7 + 1, none⟩)) W' := by intro W'; simp [go_sem]
       have hS0 : (∀ (k : Nat) (u : Value), cs[k]? = some u → wr.drew.cell? ⟨b, of + j2 * 7 + k, none⟩ = some u) ∧ Below w.heap.size w wr.drew := ⟨fun k u hu => hc k u hu, HQ.out.2.drew⟩
       have htp : totP ps[j2] = 1 + ps[j2].key.length + totV ps[j2].val := rfl
       obtain ⟨y, ey, hkl, hvv⟩ := hv
       have hys : y.size = 6 := Kd8.size hvv
       generalize totP ps[j2] = tp at *
       generalize ps[j2].key = key at *
       generalize ps[j2].val = val at *
       have hk0 : cs[0]? = some (.string (strB key)) := by rw [ey, Array.getElem?_append_left (by simp)]; rfl
       have hky : ∀ (i : Nat) (u : Value), y[i]? = some u → cs[1 + i]? = some u := fun i u hu => by
        rw [ey, Array.getElem?_append_right (by simp)]
        simpa using hu
       have hlv : ∀ W : World, ((∀ (k : Nat) (u : Value), cs[k]? = some u → W.cell? ⟨b, of + j2 * 7 + k, none⟩ = some u) ∧ Below w.heap.size w W) → (loadVar 48 ⟨b, of + j2 * 7 + 1, none⟩).run Tryz.prog W = .ok (.agg y) W := fun W h => StT.load Kbk hys fun i u hu => by
        rw [Nat.add_assoc]; exact h.1 _ _ (hky i u hu)
       have hvw0 := hvv
       have hcall : ∀ W, Below w.heap.size w W → Calls Tryz.prog 19 #[.agg y, .int .i64 3000] W fun e w' => (∃ r : Nat, e = .returned (.int .i64 (r : Int)) ∧ SizeLo 3000 (totV val) r) ∧ Below W.heap.size W w' := fun W g => vsz_any val 3000 (Nat.le_refl _) W y (hvw0.below g)
       have HX := yh (And.intro hia (And.intro hf0 (And.intro hf1 (And.intro hS0 (And.intro hk0 (And.intro hlv (And.intro hcall (And.intro hkl (And.intro hst htp)))))))))
       clear hia hf0 hf1 hS0 hk0 hky hlv hcall hkl hst hc hvv hvw0 ey hc0 hs htp
       go_wp2
       obtain ⟨hia, hf0, hf1, hS0, hk0, hlv, hcall, hkl, hst, htp⟩ := HX.out
       refine Kao (fun W => (∀ (k : Nat) (u : Value), cs[k]? = some u → W.cell? ⟨b, of + j2 * 7 + k, none⟩ = some u) ∧ Below w.heap.size w W) (by kernel_rfl) hS0 (fun hS => ?_)
       refine tk 0 36 (v := .int .i64 (nn : Int)) rfl rfl (fun W hW => Kaf rfl rfl) ?_
       simp only [Act.put, sA, sZ, sS]
       refine tk 1 37 (v := .int .i64 ((nn + 1 : Nat) : Int)) rfl rfl (fun W hW => Kat rfl rfl rfl (add_one' (by omega) W)) ?_
       simp only [Act.put, sA, sZ, sS]
       refine tk 2 38 (v := .slice (some ⟨b, of, none⟩) ps.length cp) rfl rfl (fun W hW => Kaf rfl rfl) ?_
       simp only [Act.put, sA, sZ, sS]
       refine tk 3 39 (v := .int .i64 (j2 : Int)) rfl rfl (fun W hW => Kaf rfl rfl) ?_
       simp only [Act.put, sA, sZ, sS]
       refine tk 4 40 (v := .pointer (some ⟨b, of + j2 * 7, none⟩)) rfl rfl (fun W hW => Kak rfl rfl rfl (hia W)) ?_
       simp only [Act.put, sA, sZ, sS]
       refine tk 5 41 (v := .pointer (some ⟨b, of + j2 * 7, none⟩)) rfl rfl (fun W hW => Kae rfl rfl (hf0 W)) ?_
       simp only [Act.put, sA, sZ, sS]
       refine tk 6 42 (v := .string (strB key)) rfl rfl (fun W hW => Kah rfl rfl (Kaj (w := W) Tryz.underlying9 rfl (hW.1 0 _ hk0))) ?_
       simp only [Act.put, sA, sZ, sS]
       refine tk 7 43 (v := .int .i64 (key.length : Int)) rfl rfl (fun W hW => exec_lenQ rfl rfl) ?_
       simp only [Act.put, sA, sZ, sS]
       refine tk 8 44 (v := .int .i64 ((nn + 1 + key.length : Nat) : Int)) rfl rfl (fun W hW => Kat rfl rfl rfl (add_big (by omega) W)) ?_
       simp only [Act.put, sA, sZ, sS]
       refine tk 9 45 (v := .slice (some ⟨b, of, none⟩) ps.length cp) rfl rfl (fun W hW => Kaf rfl rfl) ?_
       simp only [Act.put, sA, sZ, sS]
       refine tk 10 46 (v := .int .i64 (j2 : Int)) rfl rfl (fun W hW => Kaf rfl rfl) ?_
       simp only [Act.put, sA, sZ, sS]
       refine tk 11 47 (v := .pointer (some ⟨b, of + j2 * 7, none⟩)) rfl rfl (fun W hW => Kak rfl rfl rfl (hia W)) ?_
       simp only [Act.put, sA, sZ, sS]
       refine tk 12 48 (v := .pointer (some ⟨b, of + j2 * 7 + 1, none⟩)) rfl rfl (fun W hW => Kae rfl rfl (hf1 W)) ?_
       simp only [Act.put, sA, sZ, sS]
       refine tk 13 49 (v := .agg y) rfl rfl (fun W hW => Kah rfl rfl (hlv W hW)) ?_
       simp only [Act.put, sA, sZ, sS]
       refine Kbi 14 50 rfl rfl (by kernel_rfl) rfl (Ka0 [.agg y, .int .i64 3000] rfl rfl Tryz.func19 (by kernel_rfl) (by kernel_rfl)) ?_
       refine (hcall _ hS.2).mono ?_
       rintro e w7 ⟨⟨r, rfl, hr⟩, hb7⟩
       have hS7 : (∀ (k : Nat) (u : Value), cs[k]? = some u → w7.cell? ⟨b, of + j2 * 7 + k, none⟩ = some u) ∧ Below w.heap.size w w7 := ⟨fun k u hu => Kag hb7 (ltOf (hS.1 k u hu)) (hS.1 k u hu), Kaa hS.2 hb7⟩
       have hrb := hr.2.2
       refine ⟨_, rfl, .inr hS7, ?_⟩
       simp only [Act.put, sA, sZ, sS]
       refine tk 15 51 (v := .int .i64 ((nn + 1 + key.length + r : Nat) : Int)) rfl rfl (fun W hW => Kat rfl rfl rfl (add_big (by omega) W)) ?_
       simp only [Act.put, sA, sZ, sS]
       refine tk 16 5 (v := .int .i64 ((nn + 1 + key.length + r : Nat) : Int)) rfl rfl (fun W hW => Kbl rfl rfl) ?_
       simp only [Act.put, sA, sZ, sS]
       refine done (by kernel_rfl) ?_ _
       have HB := yh (And.intro hS7.2 (And.intro hr (And.intro hst htp)))
       have hnew : nn + 1 + key.length + r ≤ 1125899906842624 := by omega
       have HN := yh (show (nn + 1 + key.length + r ≤ 3000 → 1 + totLs ls + ((ps.take (j2 + 1)).map totP).sum ≤ nn + 1 + key.length + r) from fun h => by
        have h1 := HQ.out.1 (by omega)
        have h2 := hr.1
        have h3 := hr.2.1
        rw [hst, htp]
        by_cases h4 : 3000 < totV val
        ·have := h3 h4; omega
        ·have := h2 (by omega); omega)
       clear hia hf0 hf1 hS0 hk0 hlv hcall hkl hst htp hS hS7 hb7 hr hrb HX HQ
       generalize nn + 1 + key.length + r = nx at *
       go_wp2
       go_roundw
       case rel => exact ⟨j2 + 1, nx, hlt3, by go_num, rfl, hnew, yh ⟨HN.out, HB.out.1⟩⟩
       case measure => simp [intOf]; omega
      ·have hle1 : ¬ (nn : Int) ≤ 3000 := by omega
       have hle0 : decide ((nn : Int) ≤ 3000) = false := by simpa using hle1
       have HF2 := yh (And.intro hle HQ.out.2)
       clear HQ
       go_wp2
       go_ret
       exact ⟨nn, rfl, ⟨fun h => absurd h HF2.out.1, hnb2⟩, HF2.out.2⟩
     ·obtain rfl : j2 = ps.length := by omega
      have HF2 := yh HQ.out
      clear HQ
      go_wp2
      go_ret
      refine ⟨nn, rfl, ⟨fun h => ?_, hnb2⟩, HF2.out.2⟩
      have := HF2.out.1 h
      rw [List.take_length] at this
      exact this
  ·obtain rfl : j = ls.length := by omega
   have HF := yh (show (nn ≤ 3000 → 1 + totLs ls ≤ nn) ∧ Below w.heap.size w wr from ⟨fun h => by have := HS.out.1 h; rw [List.take_length] at this; exact this, HS.out.2⟩)
   clear HS
   go_wp2
   go_loopw [5, 7] (fun m i W => ∃ j2 nn : Nat, j2 ≤ ps.length ∧ i = .int .i64 (j2 : Int) ∧ m = .int .i64 (nn : Int) ∧ nn ≤ 1125899906842624 ∧ Hid ((nn ≤ 3000 → 1 + totLs ls + ((ps.take j2).map totP).sum ≤ nn) ∧ Below w.heap.size w W)) (fun _ i _ => ps.length - (intOf i).toNat)
   case atStart => exact ⟨0, nn, Nat.zero_le _, rfl, rfl, by omega, yh ⟨fun h => by have := HF.out.1 h; simp only [List.take_zero, List.map_nil, List.sum_nil]; omega, HF.out.2⟩⟩
   case round =>
    clear HF
    obtain ⟨j2, nn, hj2, rfl, rfl, hnb2, HQ⟩ := hrel
    have z5 : (nn : Int) ≤ 1125899906842624 := by omega
    by_cases hlt2 : j2 < ps.length
    ·have hlt3 : j2 + 1 ≤ ps.length := hlt2
     by_cases hle : nn ≤ 3000
     ·have hle1 : (nn : Int) ≤ 3000 := by omega
      obtain ⟨b, of, cs, rfl, hs, hc0, hv⟩ := HP.out.get hlt2
      have hc : ∀ (k : Nat) (u : Value), cs[k]? = some u → wr.cell? ⟨b, of + j2 * 7 + k, none⟩ = some u := fun k u hu => Kag HQ.out.2 (ltOf (hc0 k u hu)) (hc0 k u hu)
      have hst := sum_take totP hlt2
      have hia : ∀ W' : World, (Instr.indexAt 68 (.slice (some ⟨b, of, none⟩) ps.length cp) (.int .i64 (j2 : Int))).run Tryz.prog W' = .ok (.pointer (some ⟨b, of + j2 * 7, none⟩)) W' := by intro W'; simp [go_sem, hlt2]
      have hf0 : ∀ W' : World, (Instr.fieldAt 136 (.pointer (some ⟨b, of + j2 * 7, none⟩)) 0).run Tryz.prog W' = .ok (.pointer (some ⟨b, of + j2 * 7, none⟩)) W' := by intro W'; simp [go_sem]
      have hf1 : ∀ W' : World, (Instr.fieldAt 136 (.pointer (some ⟨b, of + j2 * 7, none⟩)) 1).run Tryz.prog W' = .ok (.pointer (some ⟨b, of + j2 * 7 + 1, none⟩)) W' := by intro W'; simp [go_sem]
      have hS0 : (∀ (k : Nat) (u : Value), cs[k]? = some u → wr.drew.cell? ⟨b, of + j2 * 7 + k, none⟩ = some u) ∧ Below w.heap.size w wr.drew := ⟨fun k u hu => hc k u hu, HQ.out.2.drew⟩
      have htp : totP ps[j2] = 1 + ps[j2].key.length + totV ps[j2].val := rfl
      obtain ⟨y, ey, hkl, hvv⟩ := hv
      have hys : y.size = 6 := Kd8.size hvv
      generalize totP ps[j2] = tp at *
      generalize ps[j2].key = key at *
      generalize ps[j2].val = val at *
      have hk0 : cs[0]? = some (.string (strB key)) := by rw [ey, Array.getElem?_append_left (by simp)]; rfl
      have hky : ∀ (i : Nat) (u : Value), y[i]? = some u → cs[1 + i]? = some u := fun i u hu => by
       rw [ey, Array.getElem?_append_right (by simp)]
       simpa using hu
      have hlv : ∀ W : World, ((∀ (k : Nat) (u : Value), cs[k]? = some u → W.cell? ⟨b, of + j2 * 7 + k, none⟩ = some u) ∧ Below w.heap.size w W) → (loadVar 48 ⟨b, of + j2 * 7 + 1, none⟩).run Tryz.prog W = .ok (.agg y) W := fun W h => StT.load Kbk hys fun i u hu => by
       rw [Nat.add_assoc]; exact h.1 _ _ (hky i u hu)
      have hvw0 := hvv
      have hcall : ∀ W, Below w.heap.size w W → Calls Tryz.prog 19 #[.agg y, .int .i64 3000] W fun e w' => (∃ r : Nat, e = .returned (.int .i64 (r : Int)) ∧ SizeLo 3000 (totV val) r) ∧ Below W.heap.size W w' := fun W g => vsz_any val 3000 (Nat.le_refl _) W y (hvw0.below g)
      have HX := yh (And.intro hia (And.intro hf0 (And.intro hf1 (And.intro hS0 (And.intro hk0 (And.intro hlv (And.intro hcall (And.intro hkl (And.intro hst htp)))))))))
      clear hia hf0 hf1 hS0 hk0 hky hlv hcall hkl hst hc hvv hvw0 ey hc0 hs htp
      go_wp2
      obtain ⟨hia, hf0, hf1, hS0, hk0, hlv, hcall, hkl, hst, htp⟩ := HX.out
      refine Kao (fun W => (∀ (k : Nat) (u : Value), cs[k]? = some u → W.cell? ⟨b, of + j2 * 7 + k, none⟩ = some u) ∧ Below w.heap.size w W) (by kernel_rfl) hS0 (fun hS => ?_)
      refine tk 0 36 (v := .int .i64 (nn : Int)) rfl rfl (fun W hW => Kaf rfl rfl) ?_
      simp only [Act.put, sA, sZ, sS]
      refine tk 1 37 (v := .int .i64 ((nn + 1 : Nat) : Int)) rfl rfl (fun W hW => Kat rfl rfl rfl (add_one' (by omega) W)) ?_
      simp only [Act.put, sA, sZ, sS]
      refine tk 2 38 (v := .slice (some ⟨b, of, none⟩) ps.length cp) rfl rfl (fun W hW => Kaf rfl rfl) ?_
      simp only [Act.put, sA, sZ, sS]
      refine tk 3 39 (v := .int .i64 (j2 : Int)) rfl rfl (fun W hW => Kaf rfl rfl) ?_
      simp only [Act.put, sA, sZ, sS]
      refine tk 4 40 (v := .pointer (some ⟨b, of + j2 * 7, none⟩)) rfl rfl (fun W hW => Kak rfl rfl rfl (hia W)) ?_
      simp only [Act.put, sA, sZ, sS]
      refine tk 5 41 (v := .pointer (some ⟨b, of + j2 * 7, none⟩)) rfl rfl (fun W hW => Kae rfl rfl (hf0 W)) ?_
      simp only [Act.put, sA, sZ, sS]
      refine tk 6 42 (v := .string (strB key)) rfl rfl (fun W hW => Kah rfl rfl (Kaj (w := W) Tryz.underlying9 rfl (hW.1 0 _ hk0))) ?_
      simp only [Act.put, sA, sZ, sS]
      refine tk 7 43 (v := .int .i64 (key.length : Int)) rfl rfl (fun W hW => exec_lenQ rfl rfl) ?_
      simp only [Act.put, sA, sZ, sS]
      refine tk 8 44 (v := .int .i64 ((nn + 1 + key.length : Nat) : Int)) rfl rfl (fun W hW => Kat rfl rfl rfl (add_big (by omega) W)) ?_
      simp only [Act.put, sA, sZ, sS]
      refine tk 9 45 (v := .slice (some ⟨b, of, none⟩) ps.length cp) rfl rfl (fun W hW => Kaf rfl rfl) ?_
      simp only [Act.put, sA, sZ, sS]
      refine tk 10 46 (v := .int .i64 (j2 : Int)) rfl rfl (fun W hW => Kaf rfl rfl) ?_
      simp only [Act.put, sA, sZ, sS]
      refine tk 11 47 (v := .pointer (some ⟨b, of + j2 * 7, none⟩)) rfl rfl (fun W hW => Kak rfl rfl rfl (hia W)) ?_
      simp only [Act.put, sA, sZ, sS]
      refine tk 12 48 (v := .pointer (some ⟨b, of + j2 * 7 + 1, none⟩)) rfl rfl (fun W hW => Kae rfl rfl (hf1 W)) ?_
      simp only [Act.put, sA, sZ, sS]
      refine tk 13 49 (v := .agg y) rfl rfl (fun W hW => Kah rfl rfl (hlv W hW)) ?_
      simp only [Act.put, sA, sZ, sS]
      refine Kbi 14 50 rfl rfl (by kernel_rfl) rfl (Ka0 [.agg y, .int .i64 3000] rfl rfl Tryz.func19 (by kernel_rfl) (by kernel_rfl)) ?_
      refine (hcall _ hS.2).mono ?_
      rintro e w7 ⟨⟨r, rfl, hr⟩, hb7⟩
      have hS7 : (∀ (k : Nat) (u : Value), cs[k]? = some u → w7.cell? ⟨b, of + j2 * 7 + k, none⟩ = some u) ∧ Below w.heap.size w w7 := ⟨fun k u hu => Kag hb7 (ltOf (hS.1 k u hu)) (hS.1 k u hu), Kaa hS.2 hb7⟩
      have hrb := hr.2.2
      refine ⟨_, rfl, .inr hS7, ?_⟩
      simp only [Act.put, sA, sZ, sS]
      refine tk 15 51 (v := .int .i64 ((nn + 1 + key.length + r : Nat) : Int)) rfl rfl (fun W hW => Kat rfl rfl rfl (add_big (by omega) W)) ?_
      simp only [Act.put, sA, sZ, sS]
      refine tk 16 5 (v := .int .i64 ((nn + 1 + key.length + r : Nat) : Int)) rfl rfl (fun W hW => Kbl rfl rfl) ?_
      simp only [Act.put, sA, sZ, sS]
      refine done (by kernel_rfl) ?_ _
      have HB := yh (And.intro hS7.2 (And.intro hr (And.intro hst htp)))
      have hnew : nn + 1 + key.length + r ≤ 1125899906842624 := by omega
      have HN := yh (show (nn + 1 + key.length + r ≤ 3000 → 1 + totLs ls + ((ps.take (j2 + 1)).map totP).sum ≤ nn + 1 + key.length + r) from fun h => by
       have h1 := HQ.out.1 (by omega)
       have h2 := hr.1
       have h3 := hr.2.1
       rw [hst, htp]
       by_cases h4 : 3000 < totV val
       ·have := h3 h4; omega
       ·have := h2 (by omega); omega)
      clear hia hf0 hf1 hS0 hk0 hlv hcall hkl hst htp hS hS7 hb7 hr hrb HX HQ
      generalize nn + 1 + key.length + r = nx at *
      go_wp2
      go_roundw
      case rel => exact ⟨j2 + 1, nx, hlt3, by go_num, rfl, hnew, yh ⟨HN.out, HB.out.1⟩⟩
      case measure => simp [intOf]; omega
     ·have hle1 : ¬ (nn : Int) ≤ 3000 := by omega
      have hle0 : decide ((nn : Int) ≤ 3000) = false := by simpa using hle1
      have HF2 := yh (And.intro hle HQ.out.2)
      clear HQ
      go_wp2
      go_ret
      exact ⟨nn, rfl, ⟨fun h => absurd h HF2.out.1, hnb2⟩, HF2.out.2⟩
    ·obtain rfl : j2 = ps.length := by omega
     have HF2 := yh HQ.out
     clear HQ
     go_wp2
     go_ret
     refine ⟨nn, rfl, ⟨fun h => ?_, hnb2⟩, HF2.out.2⟩
     have := HF2.out.1 h
     rw [List.take_length] at this
     exact this
theorem rds_nil {W : World} : RdS W none 0 [] := ⟨Nat.le_refl _, ⟨by simp, by omega⟩, (fun _ => rfl), (fun s hs => by cases hs), fun ad h => by cases h⟩
def Docs {α : Type} (w W : World) (q : Nat) (r : α × Rs) (ok : α → Value → World → Prop) (e : Ending) (W' : World) : Prop :=
 ∃ v, e = .returned v ∧ ok r.1 v W' ∧ DSt 40 w W' q r.2.1 r.2.2 ∧ RTo q W W'
theorem dN_at {j a : Nat} {l : List UInt8} (h : j < l.length) (hi : j < 10) : dN j a (l.drop j) = if (l[j]).toNat < 128 then some ((a + (l[j]).toNat % 128 * 2 ^ (7 * j)) % 18446744073709551616, l.drop (j + 1), (decide (j = 0) || decide ((l[j]).toNat ≠ 0)) && (decide (j < 9) || decide ((l[j]).toNat < 2))) else dN (j + 1) ((a + (l[j]).toNat % 128 * 2 ^ (7 * j)) % 18446744073709551616) (l.drop (j + 1)) := by
 rw [List.drop_eq_getElem_cons h, dN, if_neg (by omega)]
theorem dN_end {j a : Nat} {l : List UInt8} (h : l.length ≤ j ∨ 10 ≤ j) : dN j a (l.drop j) = none := by
 rcases h with h | h
 ·rw [List.drop_eq_nil_of_le h, dN]
 ·cases l.drop j with
  | nil => rw [dN]
  | cons c r => rw [dN, if_pos h]
theorem Kc5 {l r : List UInt8} {bad ok : Bool} {n : Nat} (h : dN 0 0 l = some (n, r, ok)) : docN (l, bad) = (n, r, bad || !ok) := by unfold docN; simp only; rw [h]
theorem docN_none {l : List UInt8} {bad : Bool} (h : dN 0 0 l = none) : docN (l, bad) = (0, l, true) := by unfold docN; simp only; rw [h]
theorem step_u64 {a c j : Nat} (h : a < 18446744073709551616) : IntKind.u64.wrap ((a : Int) + IntKind.u64.wrap (((c : Int) % 128) * 2 ^ (7 * j))) = (((a + c % 128 * 2 ^ (7 * j)) % 18446744073709551616 : Nat) : Int) := by
 have e : ((c : Int) % 128) * 2 ^ (7 * j) = ((c % 128 * 2 ^ (7 * j) : Nat) : Int) := by push_cast; rfl
 rw [e, IntKind.wrap_u64, IntKind.wrap_u64]
 omega
theorem rd_at {W : World} {p : Option Addr} {c : Nat} {l : List UInt8} (h : RdB W (.slice p l.length c) l) (hl : 0 < l.length) : ∃ b o, p = some ⟨b, o, none⟩ ∧ ∀ j (hj : j < l.length), W.cell? ⟨b, o + j, none⟩ = some (.int .u8 ((l[j]).toNat : Int)) := by
 obtain ⟨a1, cap, heq, ⟨hn, hm, hz⟩, hcell⟩ := h
 cases heq
 cases p with
 | none => have := hz rfl; omega
 | some ad =>
   obtain ⟨hs, hc⟩ := hcell ad rfl
   obtain ⟨b, o, sp⟩ := ad
   have hs := hs (fun e => by rw [e] at hl; simp at hl)
   simp only at hs; subst hs
   exact ⟨b, o, rfl, fun j hj => hc j l[j] (List.getElem?_eq_getElem hj)⟩
theorem Kd5 {W : World} {p : Option Addr} {n c : Nat} {l : List UInt8} (h : RdB W (.slice p n c) l) : (n : Int) ≤ 9223372036854775807 := by
 obtain ⟨a1, cap, heq, ⟨hn, hm, hz⟩, _⟩ := h
 cases heq; unfold maxLen at hm; omega
theorem Kdy {w W : World} {q : Nat} {l : List UInt8} {bad : Bool} (h : DSt 40 w W q l bad) :
 Calls Tryz.prog 60 #[.pointer (some ⟨q, 0, none⟩)] W (Docs w W q (docN (l, bad)) fun n v _ => v = .int .u64 (n : Int)) := by
 obtain ⟨p, c, h1, h2⟩ := h.box
 have z1 := Kd5 h2
 have hq0 := Kab (o := 0) h1 rfl
 have hq1 := Kab (o := 1) h1 rfl
 have hf1 := Kaq (o := 1) h1
 have hf0 := Kaq (o := 0) h1
 have H := yh (And.intro h (And.intro h1 h2))
 clear h h1 h2
 go_enter Tryz.func60, Tryz.ntmps60
 go_wp2
 go_loopw [3, 4] (fun n s wr => ∃ j a : Nat, j ≤ 10 ∧ j ≤ l.length ∧ a < 18446744073709551616 ∧ n = .int .u64 (a : Int) ∧ s = .int .i64 (j : Int) ∧ wr = W ∧ Hid (dN j a (l.drop j) = dN 0 0 l)) (fun _ s _ => 20 - (intOf s).toNat)
 case atStart => exact ⟨0, 0, by omega, by omega, by omega, rfl, rfl, rfl, yh rfl⟩
 case round =>
  obtain ⟨j, a, hj, hjl, ha, rfl, rfl, hwr, HD⟩ := hrel
  have hw := hwr.symm
  subst hw
  by_cases hlt : j < l.length
  ·by_cases ht : j < 10
   ·have hd := HD.out
    rw [dN_at hlt ht] at hd
    obtain ⟨b, o, rfl, hc⟩ := rd_at (H.out.2.2.below H.out.1.b) (by omega)
    have hlz : (j : Int) < (l.length : Int) := by omega
    have hlz : (j : Int) < (l.length : Int) := by omega
    have hlz : (j : Int) < (l.length : Int) := by omega
    have hlz : (j : Int) < (l.length : Int) := by omega
    have hlz : (j : Int) < (l.length : Int) := by omega
    have hlz : (j : Int) < (l.length : Int) := by omega
    have hlz : (j : Int) < (l.length : Int) := by omega
    have hcj := hc j hlt
    have hcv := (l[j]).toNat_lt
    have hst := step_u64 (a := a) (c := (l[j]).toNat) (j := j) ha
    generalize (l[j]).toNat = cv at *
    clear hc
    by_cases hlow : cv < 128
    ·have l1 : (cv : Int) < 128 := by omega
     rw [if_pos hlow] at hd
     have hcase : j = 0 ∨ (j ≠ 0 ∧ cv = 0) ∨ (j ≠ 0 ∧ cv ≠ 0 ∧ j < 9) ∨ (j = 9 ∧ cv ≠ 0 ∧ cv < 2) ∨ (j = 9 ∧ cv ≠ 0 ∧ 2 ≤ cv) := by omega
     cases bad <;> rcases hcase with hc1 | ⟨hc1, hc2⟩ | ⟨hc1, hc2, hc3⟩ | ⟨hc1, hc2, hc3⟩ | ⟨hc1, hc2, hc3⟩
     ·obtain rfl : j = 0 := hc1
      rw [Nat.add_zero] at hcj
      have hdn : dN 0 0 l = some ((a + cv % 128 * 2 ^ (7 * 0)) % 18446744073709551616, l.drop (0 + 1), true) := by
       rw [← hd]
       first
        | done
        | (congr 3; done)
        | (congr 3; rfl)
        | (congr 3; simp only [Bool.and_eq_true, Bool.or_eq_true, decide_eq_true_eq, Bool.and_eq_false_iff, Bool.or_eq_false_iff, decide_eq_false_iff_not]; omega)
      have HN := yh (Kc5 (bad := false) hdn)
      obtain ⟨p1, c1, p', c', k1, k2, k3, k4, k5⟩ := H.out.1.rest (k := 0 + 1) (by omega)
      rw [H.out.2.1] at k1
      cases k1
      have hst1 := Kbn (p := p') (n := l.length - (0 + 1)) (c := c') hq0 hf0
      have HSL := yh (fun W' => (Kas Tryz.underlying26 _ _ _ _ W').trans (k3 W'))
      have HST := yh hst1
      obtain ⟨p2, c2, m1, m2⟩ := k4.box
      have hq2 := Kab (o := 1) m1 rfl
      have hf2 := Kaq (o := 1) m1
      have HF := yh (And.intro (k4.set false) k5)
      clear hd hdn k2 k3 k4 k5 m1 m2 hst1
      go_wp2_with (first
       | ((with_reducible apply Ka2); exact HSL.out _; exact rfl; exact rfl; exact rfl; exact rfl)
       | ((with_reducible apply Kac); exact HST.out; exact rfl; exact rfl; generalize hW1 : World.setCell _ _ _ = W1 at *; clear hW1))
      go_ret
      refine ⟨_, rfl, ?_⟩
      rw [HN.out]
      exact ⟨by first | rfl | (push_cast; rfl) | (simp; simp only [IntKind.wrap_u64]; done) | (simp; simp only [IntKind.wrap_u64]; omega), HF.out.1.1, HF.out.2.trans HF.out.1.2⟩
     ·obtain rfl : cv = 0 := hc2
      have j0 : ((j : Int) == 0) = false := by rw [beq_eq_false_iff_ne]; omega
      have hdn : dN 0 0 l = some ((a + 0 % 128 * 2 ^ (7 * j)) % 18446744073709551616, l.drop (j + 1), false) := by
       rw [← hd]
       first
        | done
        | (congr 3; done)
        | (congr 3; rfl)
        | (congr 3; simp only [Bool.and_eq_true, Bool.or_eq_true, decide_eq_true_eq, Bool.and_eq_false_iff, Bool.or_eq_false_iff, decide_eq_false_iff_not]; omega)
      have ez : (a + 0 % 128 * 2 ^ (7 * j)) % 18446744073709551616 = a := by rw [Nat.zero_mod, Nat.zero_mul, Nat.add_zero, Nat.mod_eq_of_lt ha]
      rw [ez] at hdn
      have HN := yh (Kc5 (bad := false) hdn)
      obtain ⟨p1, c1, p', c', k1, k2, k3, k4, k5⟩ := H.out.1.rest (k := j + 1) (by omega)
      rw [H.out.2.1] at k1
      cases k1
      have hst1 := Kbn (p := p') (n := l.length - (j + 1)) (c := c') hq0 hf0
      have HSL := yh (fun W' => (Kas Tryz.underlying26 _ _ _ _ W').trans (k3 W'))
      have HST := yh hst1
      obtain ⟨p2, c2, m1, m2⟩ := k4.box
      have hq2 := Kab (o := 1) m1 rfl
      have hf2 := Kaq (o := 1) m1
      have HF := yh (And.intro (k4.set true) k5)
      clear hd hdn k2 k3 k4 k5 m1 m2 hst1
      go_wp2_with (first
       | ((with_reducible apply Ka2); exact HSL.out _; exact rfl; exact rfl; exact rfl; exact rfl)
       | ((with_reducible apply Kac); exact HST.out; exact rfl; exact rfl; generalize hW1 : World.setCell _ _ _ = W1 at *; clear hW1))
      go_ret
      refine ⟨_, rfl, ?_⟩
      rw [HN.out]
      exact ⟨by first | rfl | (push_cast; rfl) | (simp; simp only [IntKind.wrap_u64]; done) | (simp; simp only [IntKind.wrap_u64]; omega), HF.out.1.1, HF.out.2.trans HF.out.1.2⟩
     ·have c0 : ((cv : Int) != 0) = true := by rw [bne_iff_ne]; omega
      have j0 : ((j : Int) == 0) = false := by rw [beq_eq_false_iff_ne]; omega
      have j9 : (j : Int) < 9 := by omega
      have hdn : dN 0 0 l = some ((a + cv % 128 * 2 ^ (7 * j)) % 18446744073709551616, l.drop (j + 1), true) := by
       rw [← hd]
       first
        | done
        | (congr 3; done)
        | (congr 3; rfl)
        | (congr 3; simp only [Bool.and_eq_true, Bool.or_eq_true, decide_eq_true_eq, Bool.and_eq_false_iff, Bool.or_eq_false_iff, decide_eq_false_iff_not]; omega)
      have HN := yh (Kc5 (bad := false) hdn)
      obtain ⟨p1, c1, p', c', k1, k2, k3, k4, k5⟩ := H.out.1.rest (k := j + 1) (by omega)
      rw [H.out.2.1] at k1
      cases k1
      have hst1 := Kbn (p := p') (n := l.length - (j + 1)) (c := c') hq0 hf0
      have HSL := yh (fun W' => (Kas Tryz.underlying26 _ _ _ _ W').trans (k3 W'))
      have HST := yh hst1
      obtain ⟨p2, c2, m1, m2⟩ := k4.box
      have hq2 := Kab (o := 1) m1 rfl
      have hf2 := Kaq (o := 1) m1
      have HF := yh (And.intro (k4.set false) k5)
      clear hd hdn k2 k3 k4 k5 m1 m2 hst1
      go_wp2_with (first
       | ((with_reducible apply Ka2); exact HSL.out _; exact rfl; exact rfl; exact rfl; exact rfl)
       | ((with_reducible apply Kac); exact HST.out; exact rfl; exact rfl; generalize hW1 : World.setCell _ _ _ = W1 at *; clear hW1))
      go_ret
      refine ⟨_, rfl, ?_⟩
      rw [HN.out]
      exact ⟨by first | rfl | (push_cast; rfl) | (simp; simp only [IntKind.wrap_u64]; done) | (simp; simp only [IntKind.wrap_u64]; omega), HF.out.1.1, HF.out.2.trans HF.out.1.2⟩
     ·have c0 : ((cv : Int) != 0) = true := by rw [bne_iff_ne]; omega
      obtain rfl : j = 9 := hc1
      have c9 : (cv : Int) < 2 := by omega
      have hdn : dN 0 0 l = some ((a + cv % 128 * 2 ^ (7 * 9)) % 18446744073709551616, l.drop (9 + 1), true) := by
       rw [← hd]
       first
        | done
        | (congr 3; done)
        | (congr 3; rfl)
        | (congr 3; simp only [Bool.and_eq_true, Bool.or_eq_true, decide_eq_true_eq, Bool.and_eq_false_iff, Bool.or_eq_false_iff, decide_eq_false_iff_not]; omega)
      have HN := yh (Kc5 (bad := false) hdn)
      obtain ⟨p1, c1, p', c', k1, k2, k3, k4, k5⟩ := H.out.1.rest (k := 9 + 1) (by omega)
      rw [H.out.2.1] at k1
      cases k1
      have hst1 := Kbn (p := p') (n := l.length - (9 + 1)) (c := c') hq0 hf0
      have HSL := yh (fun W' => (Kas Tryz.underlying26 _ _ _ _ W').trans (k3 W'))
      have HST := yh hst1
      obtain ⟨p2, c2, m1, m2⟩ := k4.box
      have hq2 := Kab (o := 1) m1 rfl
      have hf2 := Kaq (o := 1) m1
      have HF := yh (And.intro (k4.set false) k5)
      clear hd hdn k2 k3 k4 k5 m1 m2 hst1
      go_wp2_with (first
       | ((with_reducible apply Ka2); exact HSL.out _; exact rfl; exact rfl; exact rfl; exact rfl)
       | ((with_reducible apply Kac); exact HST.out; exact rfl; exact rfl; generalize hW1 : World.setCell _ _ _ = W1 at *; clear hW1))
      go_ret
      refine ⟨_, rfl, ?_⟩
      rw [HN.out]
      exact ⟨by first | rfl | (push_cast; rfl) | (simp; simp only [IntKind.wrap_u64]; done) | (simp; simp only [IntKind.wrap_u64]; omega), HF.out.1.1, HF.out.2.trans HF.out.1.2⟩
     ·have c0 : ((cv : Int) != 0) = true := by rw [bne_iff_ne]; omega
      obtain rfl : j = 9 := hc1
      have c9 : ¬ (cv : Int) < 2 := by omega
      have hdn : dN 0 0 l = some ((a + cv % 128 * 2 ^ (7 * 9)) % 18446744073709551616, l.drop (9 + 1), false) := by
       rw [← hd]
       first
        | done
        | (congr 3; done)
        | (congr 3; rfl)
        | (congr 3; simp only [Bool.and_eq_true, Bool.or_eq_true, decide_eq_true_eq, Bool.and_eq_false_iff, Bool.or_eq_false_iff, decide_eq_false_iff_not]; omega)
      have HN := yh (Kc5 (bad := false) hdn)
      obtain ⟨p1, c1, p', c', k1, k2, k3, k4, k5⟩ := H.out.1.rest (k := 9 + 1) (by omega)
      rw [H.out.2.1] at k1
      cases k1
      have hst1 := Kbn (p := p') (n := l.length - (9 + 1)) (c := c') hq0 hf0
      have HSL := yh (fun W' => (Kas Tryz.underlying26 _ _ _ _ W').trans (k3 W'))
      have HST := yh hst1
      obtain ⟨p2, c2, m1, m2⟩ := k4.box
      have hq2 := Kab (o := 1) m1 rfl
      have hf2 := Kaq (o := 1) m1
      have HF := yh (And.intro (k4.set true) k5)
      clear hd hdn k2 k3 k4 k5 m1 m2 hst1
      go_wp2_with (first
       | ((with_reducible apply Ka2); exact HSL.out _; exact rfl; exact rfl; exact rfl; exact rfl)
       | ((with_reducible apply Kac); exact HST.out; exact rfl; exact rfl; generalize hW1 : World.setCell _ _ _ = W1 at *; clear hW1))
      go_ret
      refine ⟨_, rfl, ?_⟩
      rw [HN.out]
      exact ⟨by first | rfl | (push_cast; rfl) | (simp; simp only [IntKind.wrap_u64]; done) | (simp; simp only [IntKind.wrap_u64]; omega), HF.out.1.1, HF.out.2.trans HF.out.1.2⟩
     ·obtain rfl : j = 0 := hc1
      rw [Nat.add_zero] at hcj
      have hdn : dN 0 0 l = some ((a + cv % 128 * 2 ^ (7 * 0)) % 18446744073709551616, l.drop (0 + 1), true) := by
       rw [← hd]
       first
        | done
        | (congr 3; done)
        | (congr 3; rfl)
        | (congr 3; simp only [Bool.and_eq_true, Bool.or_eq_true, decide_eq_true_eq, Bool.and_eq_false_iff, Bool.or_eq_false_iff, decide_eq_false_iff_not]; omega)
      have HN := yh (Kc5 (bad := true) hdn)
      obtain ⟨p1, c1, p', c', k1, k2, k3, k4, k5⟩ := H.out.1.rest (k := 0 + 1) (by omega)
      rw [H.out.2.1] at k1
      cases k1
      have hst1 := Kbn (p := p') (n := l.length - (0 + 1)) (c := c') hq0 hf0
      have HSL := yh (fun W' => (Kas Tryz.underlying26 _ _ _ _ W').trans (k3 W'))
      have HST := yh hst1
      obtain ⟨p2, c2, m1, m2⟩ := k4.box
      have hq2 := Kab (o := 1) m1 rfl
      have hf2 := Kaq (o := 1) m1
      have HF := yh (And.intro (k4.set true) k5)
      clear hd hdn k2 k3 k4 k5 m1 m2 hst1
      go_wp2_with (first
       | ((with_reducible apply Ka2); exact HSL.out _; exact rfl; exact rfl; exact rfl; exact rfl)
       | ((with_reducible apply Kac); exact HST.out; exact rfl; exact rfl; generalize hW1 : World.setCell _ _ _ = W1 at *; clear hW1))
      go_ret
      refine ⟨_, rfl, ?_⟩
      rw [HN.out]
      exact ⟨by first | rfl | (push_cast; rfl) | (simp; simp only [IntKind.wrap_u64]; done) | (simp; simp only [IntKind.wrap_u64]; omega), HF.out.1.1, HF.out.2.trans HF.out.1.2⟩
     ·obtain rfl : cv = 0 := hc2
      have j0 : ((j : Int) == 0) = false := by rw [beq_eq_false_iff_ne]; omega
      have hdn : dN 0 0 l = some ((a + 0 % 128 * 2 ^ (7 * j)) % 18446744073709551616, l.drop (j + 1), false) := by
       rw [← hd]
       first
        | done
        | (congr 3; done)
        | (congr 3; rfl)
        | (congr 3; simp only [Bool.and_eq_true, Bool.or_eq_true, decide_eq_true_eq, Bool.and_eq_false_iff, Bool.or_eq_false_iff, decide_eq_false_iff_not]; omega)
      have ez : (a + 0 % 128 * 2 ^ (7 * j)) % 18446744073709551616 = a := by rw [Nat.zero_mod, Nat.zero_mul, Nat.add_zero, Nat.mod_eq_of_lt ha]
      rw [ez] at hdn
      have HN := yh (Kc5 (bad := true) hdn)
      obtain ⟨p1, c1, p', c', k1, k2, k3, k4, k5⟩ := H.out.1.rest (k := j + 1) (by omega)
      rw [H.out.2.1] at k1
      cases k1
      have hst1 := Kbn (p := p') (n := l.length - (j + 1)) (c := c') hq0 hf0
      have HSL := yh (fun W' => (Kas Tryz.underlying26 _ _ _ _ W').trans (k3 W'))
      have HST := yh hst1
      obtain ⟨p2, c2, m1, m2⟩ := k4.box
      have hq2 := Kab (o := 1) m1 rfl
      have hf2 := Kaq (o := 1) m1
      have HF := yh (And.intro (k4.set true) k5)
      clear hd hdn k2 k3 k4 k5 m1 m2 hst1
      go_wp2_with (first
       | ((with_reducible apply Ka2); exact HSL.out _; exact rfl; exact rfl; exact rfl; exact rfl)
       | ((with_reducible apply Kac); exact HST.out; exact rfl; exact rfl; generalize hW1 : World.setCell _ _ _ = W1 at *; clear hW1))
      go_ret
      refine ⟨_, rfl, ?_⟩
      rw [HN.out]
      exact ⟨by first | rfl | (push_cast; rfl) | (simp; simp only [IntKind.wrap_u64]; done) | (simp; simp only [IntKind.wrap_u64]; omega), HF.out.1.1, HF.out.2.trans HF.out.1.2⟩
     ·have c0 : ((cv : Int) != 0) = true := by rw [bne_iff_ne]; omega
      have j0 : ((j : Int) == 0) = false := by rw [beq_eq_false_iff_ne]; omega
      have j9 : (j : Int) < 9 := by omega
      have hdn : dN 0 0 l = some ((a + cv % 128 * 2 ^ (7 * j)) % 18446744073709551616, l.drop (j + 1), true) := by
       rw [← hd]
       first
        | done
        | (congr 3; done)
        | (congr 3; rfl)
        | (congr 3; simp only [Bool.and_eq_true, Bool.or_eq_true, decide_eq_true_eq, Bool.and_eq_false_iff, Bool.or_eq_false_iff, decide_eq_false_iff_not]; omega)
      have HN := yh (Kc5 (bad := true) hdn)
      obtain ⟨p1, c1, p', c', k1, k2, k3, k4, k5⟩ := H.out.1.rest (k := j + 1) (by omega)
      rw [H.out.2.1] at k1
      cases k1
      have hst1 := Kbn (p := p') (n := l.length - (j + 1)) (c := c') hq0 hf0
      have HSL := yh (fun W' => (Kas Tryz.underlying26 _ _ _ _ W').trans (k3 W'))
      have HST := yh hst1
      obtain ⟨p2, c2, m1, m2⟩ := k4.box
      have hq2 := Kab (o := 1) m1 rfl
      have hf2 := Kaq (o := 1) m1
      have HF := yh (And.intro (k4.set true) k5)
      clear hd hdn k2 k3 k4 k5 m1 m2 hst1
      go_wp2_with (first
       | ((with_reducible apply Ka2); exact HSL.out _; exact rfl; exact rfl; exact rfl; exact rfl)
       | ((with_reducible apply Kac); exact HST.out; exact rfl; exact rfl; generalize hW1 : World.setCell _ _ _ = W1 at *; clear hW1))
      go_ret
      refine ⟨_, rfl, ?_⟩
      rw [HN.out]
      exact ⟨by first | rfl | (push_cast; rfl) | (simp; simp only [IntKind.wrap_u64]; done) | (simp; simp only [IntKind.wrap_u64]; omega), HF.out.1.1, HF.out.2.trans HF.out.1.2⟩
     ·have c0 : ((cv : Int) != 0) = true := by rw [bne_iff_ne]; omega
      obtain rfl : j = 9 := hc1
      have c9 : (cv : Int) < 2 := by omega
      have hdn : dN 0 0 l = some ((a + cv % 128 * 2 ^ (7 * 9)) % 18446744073709551616, l.drop (9 + 1), true) := by
       rw [← hd]
       first
        | done
        | (congr 3; done)
        | (congr 3; rfl)
        | (congr 3; simp only [Bool.and_eq_true, Bool.or_eq_true, decide_eq_true_eq, Bool.and_eq_false_iff, Bool.or_eq_false_iff, decide_eq_false_iff_not]; omega)
      have HN := yh (Kc5 (bad := true) hdn)
      obtain ⟨p1, c1, p', c', k1, k2, k3, k4, k5⟩ := H.out.1.rest (k := 9 + 1) (by omega)
      rw [H.out.2.1] at k1
      cases k1
      have hst1 := Kbn (p := p') (n := l.length - (9 + 1)) (c := c') hq0 hf0
      have HSL := yh (fun W' => (Kas Tryz.underlying26 _ _ _ _ W').trans (k3 W'))
      have HST := yh hst1
      obtain ⟨p2, c2, m1, m2⟩ := k4.box
      have hq2 := Kab (o := 1) m1 rfl
      have hf2 := Kaq (o := 1) m1
      have HF := yh (And.intro (k4.set true) k5)
      clear hd hdn k2 k3 k4 k5 m1 m2 hst1
      go_wp2_with (first
       | ((with_reducible apply Ka2); exact HSL.out _; exact rfl; exact rfl; exact rfl; exact rfl)
       | ((with_reducible apply Kac); exact HST.out; exact rfl; exact rfl; generalize hW1 : World.setCell _ _ _ = W1 at *; clear hW1))
      go_ret
      refine ⟨_, rfl, ?_⟩
      rw [HN.out]
      exact ⟨by first | rfl | (push_cast; rfl) | (simp; simp only [IntKind.wrap_u64]; done) | (simp; simp only [IntKind.wrap_u64]; omega), HF.out.1.1, HF.out.2.trans HF.out.1.2⟩
     ·have c0 : ((cv : Int) != 0) = true := by rw [bne_iff_ne]; omega
      obtain rfl : j = 9 := hc1
      have c9 : ¬ (cv : Int) < 2 := by omega
      have hdn : dN 0 0 l = some ((a + cv % 128 * 2 ^ (7 * 9)) % 18446744073709551616, l.drop (9 + 1), false) := by
       rw [← hd]
       first
        | done
        | (congr 3; done)
        | (congr 3; rfl)
        | (congr 3; simp only [Bool.and_eq_true, Bool.or_eq_true, decide_eq_true_eq, Bool.and_eq_false_iff, Bool.or_eq_false_iff, decide_eq_false_iff_not]; omega)
      have HN := yh (Kc5 (bad := true) hdn)
      obtain ⟨p1, c1, p', c', k1, k2, k3, k4, k5⟩ := H.out.1.rest (k := 9 + 1) (by omega)
      rw [H.out.2.1] at k1
      cases k1
      have hst1 := Kbn (p := p') (n := l.length - (9 + 1)) (c := c') hq0 hf0
      have HSL := yh (fun W' => (Kas Tryz.underlying26 _ _ _ _ W').trans (k3 W'))
      have HST := yh hst1
      obtain ⟨p2, c2, m1, m2⟩ := k4.box
      have hq2 := Kab (o := 1) m1 rfl
      have hf2 := Kaq (o := 1) m1
      have HF := yh (And.intro (k4.set true) k5)
      clear hd hdn k2 k3 k4 k5 m1 m2 hst1
      go_wp2_with (first
       | ((with_reducible apply Ka2); exact HSL.out _; exact rfl; exact rfl; exact rfl; exact rfl)
       | ((with_reducible apply Kac); exact HST.out; exact rfl; exact rfl; generalize hW1 : World.setCell _ _ _ = W1 at *; clear hW1))
      go_ret
      refine ⟨_, rfl, ?_⟩
      rw [HN.out]
      exact ⟨by first | rfl | (push_cast; rfl) | (simp; simp only [IntKind.wrap_u64]; done) | (simp; simp only [IntKind.wrap_u64]; omega), HF.out.1.1, HF.out.2.trans HF.out.1.2⟩
    ·have l1 : ¬ (cv : Int) < 128 := by omega
     rw [if_neg hlow] at hd
     have hj1 : j + 1 ≤ l.length := hlt
     have hj2 : j + 1 ≤ 10 := ht
     have hm : (a + cv % 128 * 2 ^ (7 * j)) % 18446744073709551616 < 18446744073709551616 := Nat.mod_lt _ (by decide)
     generalize (a + cv % 128 * 2 ^ (7 * j)) % 18446744073709551616 = a' at *
     have HN := yh hd
     clear hd HD
     go_wp2
     go_roundw
     case rel => exact ⟨j + 1, a', hj2, hj1, hm, rfl, by go_num, (by first | trivial | rfl), HN⟩
     case measure => simp [intOf]; omega
   ·have hd := HD.out
    rw [dN_end (.inr (by omega))] at hd
    obtain rfl : j = 10 := by omega
    have HN := yh (docN_none (bad := bad) hd.symm)
    have hS := H.out.1.set true
    have HS := yh hS
    clear hd HD hS
    go_wp2
    go_ret
    refine ⟨_, rfl, ?_⟩
    rw [HN.out]
    exact ⟨rfl, HS.out⟩
  ·have hd := HD.out
   rw [dN_end (.inl (by omega))] at hd
   obtain rfl : j = l.length := by omega
   have HN := yh (docN_none (bad := bad) hd.symm)
   have hS := H.out.1.set true
   have HS := yh hS
   clear hd HD hS
   go_wp2
   go_ret
   refine ⟨_, rfl, ?_⟩
   rw [HN.out]
   exact ⟨rfl, HS.out⟩
theorem Out.rd {w : World} {b : List UInt8} {err : Int} {e : Ending} {W' : World} (h : Out w b err e W') : ∃ p c, e = .returned (.tuple #[.slice p b.length c, .int .i64 err]) ∧ RdB W' (.slice p b.length c) b ∧ Below w.heap.size w W' := by
 obtain ⟨o, rfl, ho, hb⟩ := h
 obtain ⟨p, c, rfl, hr⟩ := own_rdB ho
 exact ⟨p, c, rfl, hr, hb⟩
theorem readW_dec {α : Type} {d : Dec α} {ok : α → Bool} {b : List UInt8} {x : α} (h : readW d ok b = some x) : d b = some (x, []) ∧ ok x = true := by
 unfold readW at h
 split at h
 ·rename_i y hd
  split at h
  ·rename_i hk
   cases h
   exact ⟨hd, hk⟩
  ·cases h
 ·cases h
def Lies (g : Nat) (T : TypeId) (x : Array Value) (W : World) : Prop := W.heap[g]? = some (.cells x T (0, 0))
theorem Lies.below {g : Nat} {T : TypeId} {x : Array Value} {W W' : World} (h : Lies g T x W) (b : Below W.heap.size W W') : Lies g T x W' := Kap b (Array.getElem?_eq_some_iff.1 h).1 h
theorem Lies.get {g : Nat} {x : Array Value} {W : World} (h : Lies g 25 x W) (hs : x.size = 4) : (loadVar 25 ⟨g, 0, none⟩).run Tryz.prog W = .ok (.agg x) W := StT.get Kbz hs h
theorem he2 (W : World) : (binOp .eql 3 (.int .i64 2) (.int .i64 0)).run Tryz.prog W = .ok (.bool false) W := by simp [go_sem]
theorem Kd1 {w W : World} {q : Nat} {l : List UInt8} {bad : Bool} (h : DSt 40 w W q l bad) :
 Calls Tryz.prog 57 #[.pointer (some ⟨q, 0, none⟩)] W (Docs w W q (Ka3 (l, bad)) fun n v _ => v = .int .i64 (n : Int)) := by
 have hn := Kdy h
 have hr := Kck.rng (l, bad)
 unfold Ka3
 generalize docN (l, bad) = r at *
 obtain ⟨n, l', b'⟩ := r
 have hr' : n < 18446744073709551616 := hr
 have HN := yh hn
 clear h hn hr
 simp only
 by_cases hc : l'.length < n
 ·have hci : ((l'.length : Int)) < (n : Int) := by omega
  rw [if_pos hc]
  go_enter Tryz.func57, Tryz.ntmps57
  go_wp2_with (go_at_call 60
               (
                refine HN.out.mono ?_
                rintro e W1 ⟨v, rfl, rfl, hD, hT⟩
                replace hD : DSt 40 w W1 q l' b' := hD
                obtain ⟨p, c, h1, h2⟩ := hD.box
                have z1 := Kd5 h2
                have q0 := Kab (o := 0) h1 rfl
                have q1 := Kab (o := 1) h1 rfl
                have f1 := Kaq (o := 1) h1
                have HF := yh (And.intro (hD.set true) hT)
                clear hD hT h1 h2))
  go_ret
  exact ⟨_, rfl, rfl, HF.out.1.1, HF.out.2.trans HF.out.1.2⟩
 ·have hci : ¬ ((l'.length : Int)) < (n : Int) := by omega
  rw [if_neg hc]
  go_enter Tryz.func57, Tryz.ntmps57
  go_wp2_with (go_at_call 60
               (
                refine HN.out.mono ?_
                rintro e W1 ⟨v, rfl, rfl, hD, hT⟩
                replace hD : DSt 40 w W1 q l' b' := hD
                obtain ⟨p, c, h1, h2⟩ := hD.box
                have z1 := Kd5 h2
                have z2 : (n : Int) ≤ 9223372036854775807 := by omega
                have q0 := Kab (o := 0) h1 rfl
                have HF := yh (And.intro hD hT)
                clear hD hT h1 h2))
  go_ret
  exact ⟨_, rfl, rfl, HF.out.1, HF.out.2⟩
theorem unzz_odd {n : Nat} (h : n % 2 = 1) : unzz n = -((n / 2 : Nat) : Int) - 1 := by unfold unzz; rw [if_pos h]
theorem unzz_even {n : Nat} (h : ¬ n % 2 = 1) : unzz n = ((n / 2 : Nat) : Int) := by unfold unzz; rw [if_neg h]
theorem dsign_any {w W : World} {q : Nat} {l : List UInt8} {bad : Bool} (h : DSt 40 w W q l bad) :
 Calls Tryz.prog 73 #[.pointer (some ⟨q, 0, none⟩)] W (Docs w W q (Kau (l, bad)) fun n v _ => v = .int .i64 n) := by
 have hn := Kdy h
 have hr := Kck.rng (l, bad)
 unfold Kau
 generalize docN (l, bad) = r at *
 obtain ⟨n, l', b'⟩ := r
 have hr' : n < 18446744073709551616 := hr
 have HN := yh hn
 clear h hn hr
 simp only
 by_cases hc : n % 2 = 1
 ·have hci : ((n : Int) % 2) = 1 := by omega
  have HE := yh (unzz_odd hc)
  clear hc
  go_enter Tryz.func73, Tryz.ntmps73
  go_wp2_with (go_at_call 60; refine HN.out.mono ?_; rintro e W1 ⟨v, rfl, rfl, hD, hT⟩; have HF := yh (And.intro hD hT); clear hD hT)
  go_ret
  refine ⟨_, rfl, ?_, HF.out⟩
  show Value.int .i64 _ = Value.int .i64 (unzz n)
  rw [HE.out]
  congr 1
 ·have hci : ((n : Int) % 2) = 0 := by omega
  have HE := yh (unzz_even hc)
  clear hc
  go_enter Tryz.func73, Tryz.ntmps73
  go_wp2_with (go_at_call 60; refine HN.out.mono ?_; rintro e W1 ⟨v, rfl, rfl, hD, hT⟩; have HF := yh (And.intro hD hT); clear hD hT)
  go_ret
  refine ⟨_, rfl, ?_, HF.out⟩
  show Value.int .i64 _ = Value.int .i64 (unzz n)
  rw [HE.out]
  congr 1
theorem dtxt_any {w W : World} {q : Nat} {l : List UInt8} {bad : Bool} (h : DSt 40 w W q l bad) :
 Calls Tryz.prog 74 #[.pointer (some ⟨q, 0, none⟩)] W (Docs w W q (Ka7 (l, bad)) fun s v _ => v = .string (strB s)) := by
 have hn := Kd1 h
 have hr := Ke4 (l, bad)
 unfold Ka7
 generalize Ka3 (l, bad) = r at *
 obtain ⟨n, l', b'⟩ := r
 have hnr : n ≤ l'.length := hr
 have HN := yh hn
 clear h hn hr
 simp only
 go_enter Tryz.func74, Tryz.ntmps74
 go_wp2_with (first
  | (go_at_call 57
     (
      refine HN.out.mono ?_
      rintro e W1 ⟨v, rfl, rfl, hD, hT⟩
      obtain ⟨p1, c1, p2, c2, hbx, hrd, hsl, hst, hto⟩ := hD.rest hnr
      obtain ⟨a3, hs3, hrd3, _⟩ := sub_rdB hrd none (some (n : Int)) 0 n (by simp) (by simp) (by simp) (by simp) (Nat.zero_le _) hnr
      simp only [Nat.sub_zero, List.drop_zero, Option.map_none, Option.map_some] at hs3 hrd3
      have hcq := Kab (o := 0) hbx rfl
      have HS1 := yh hs3
      have HCV := yh (bytes_str hrd3)
      have HS2 := yh (fun W' => (Kas Tryz.underlying26 _ _ _ _ W').trans (hsl W'))
      have HST := yh (Kbn (p := p2) (n := l'.length - n) (c := c2) hcq (Kaq (o := 0) hbx))
      have HF := yh (And.intro hst (hT.trans hto))
      clear hD hT hbx hrd hsl hst hto hs3 hrd3))
  | ((with_reducible apply Ka2); exact HS1.out _; exact rfl; exact rfl; exact rfl; exact rfl)
  | ((with_reducible apply Kbv); exact HCV.out; exact rfl)
  | ((with_reducible apply Ka2); exact HS2.out _; exact rfl; exact rfl; exact rfl; exact rfl)
  | ((with_reducible apply Kac); exact HST.out; exact rfl; exact rfl))
 go_ret
 exact ⟨_, rfl, rfl, HF.out⟩
theorem DSt.other {T : TypeId} {w W W' : World} {q : Nat} {l : List UInt8} {bad : Bool} (h : DSt T w W q l bad) (hb : Below w.heap.size w W') (hx : W'.heap[q]? = W.heap[q]?) : DSt T w W' q l bad := by
 obtain ⟨p, c, h1, h2⟩ := h.box
 exact ⟨hb, h.base, p, c, hx.trans h1, h2⟩
section
variable {T : TypeId} {K : Nat} {z cs : Array Value} {w W W' W'' : World} {q B : Nat} {l : List UInt8} {bad : Bool}
theorem BX.finD (hT : StT Tryz.prog T K) (h : BX T W q z B cs W') (hs : cs.size = K) (hz : z.size = K) (h1 : ∀ u ∈ cs.toList, u.oneCell' = true) (g : DSt 40 w W' q l bad) :
 (loadVar T ⟨B, 0, none⟩).run Tryz.prog W' = .ok (.agg cs) W' ∧ (storeVar T ⟨W.heap.size, 0, none⟩ (.agg cs)).run Tryz.prog W' = .ok () (W'.setRow W.heap.size cs) ∧
 (loadVar T ⟨W.heap.size, 0, none⟩).run Tryz.prog (W'.setRow W.heap.size cs) = .ok (.agg cs) (W'.setRow W.heap.size cs) ∧ DSt 40 w (W'.setRow W.heap.size cs) q l bad ∧ RTo q W (W'.setRow W.heap.size cs) ∧
 (∀ b, b ≠ W.heap.size → (W'.setRow W.heap.size cs).heap[b]? = W'.heap[b]?) := by
 have ho : ∀ b, b ≠ W.heap.size → (W'.setRow W.heap.size cs).heap[b]? = W'.heap[b]? := fun b hb => setRow_other W' _ b cs hb
 have hq := h.ql
 have hbase := g.base
 have hsz : (W'.setRow W.heap.size cs).heap.size = W'.heap.size := by simp
 have hB : Below w.heap.size w (W'.setRow W.heap.size cs) := Kcn g.b (by omega) cs
 exact ⟨hT.get hs h.p3, hT.put hs h1 h.p2 hz, hT.get hs (setRow_heap W' _ z cs _ _ h.p2), g.other hB (ho q (by omega)), ⟨by rw [hsz]; exact h.tr.size, fun b hb hqb => (ho b (by omega)).trans (h.tr.keep b hb hqb)⟩, ho⟩
theorem BX.setD (h : BX T W q z B cs W') (g : DSt 40 w W' q l bad) (i : Nat) (u : Value) : DSt 40 w (W'.setCell ⟨B, i, none⟩ u) q l bad :=
 g.other (Kbt g.b (by have := g.base; have := h.lo; have := h.ql; omega) u) (Below.heap_setCell _ _ _ _ (by show q ≠ B; have := h.lo; have := h.ql; omega))
end
section
variable {α : Type} {E : World → (Nat → Prop) → α → Array Value → Prop} {K : Nat} {Pg : Program} {t T : TypeId} {w w' W W1 : World} {P P' : Nat → Prop} {l m : List α}
theorem GIn.stepo (hE : EL E K) (hG : GT Pg t T K) {P P' : Nat → Prop} {ov : Value} {v : α} {x : Array Value} (h : GIn E t K P W ov m) (hb : ∀ b, P b → b < W.heap.size → W1.heap[b]? = W.heap[b]?) (hsz : W.heap.size ≤ W1.heap.size) (hP : ∀ b, b < W.heap.size → P b → P' b) (hnew : ∀ b, W1.heap.size ≤ b → P' b)
 (hx : E W1 (fun b => W.heap.size ≤ b ∧ P' b) v x) (hm : m.length ≤ 1000000) (ty : TypeId) :
 ∃ v' W2, (Builtin.append_ #[T, T] ty #[ov, .slice (some ⟨W1.heap.size, 0, none⟩) 1 1]).run Pg (W1.alloc (.cells x t)) = .ok v' W2 ∧ GIn E t K P' W2 v' (m ++ [v]) ∧ Touch (fun b => ov.ownBlock = some b) (W1.alloc (.cells x t)) W2 ∧ (v'.ownBlock = ov.ownBlock ∨ v'.ownBlock = some (W1.heap.size + 1)) := by
 have ha : Below W1.heap.size W1 (W1.alloc (.cells x t)) := Kad _
 have hlt : ∀ g, ov.ownBlock = some g → g < W.heap.size := fun g hg => (h.lt g hg).1
 obtain ⟨xs, h1, h2⟩ := h.kept (P' := P') hE (W' := W1.alloc (.cells x t)) (fun b hp hlt => (ha.block b (by omega)).trans (hb b hp hlt)) hP
 have hx' : E (W1.alloc (.cells x t)) (fun b => W.heap.size ≤ b ∧ P' b) v x := hE.keep (fun b _ hb => ha.block b hb) hx
 have hs1 : (W1.alloc (.cells x t)).heap.size = W1.heap.size + 1 := by simp
 obtain ⟨v', W2, a1, a2, a3, a4, a5⟩ := hG.app h1.1 (hE.size hx) (hE.ones hx) (heap_alloc_new W1 _) hm ty
 refine ⟨v', W2, a1, ⟨xs ++ [x], ⟨?_, fun g hg => ?_⟩, ?_⟩, a3, by rw [hs1] at a4; exact a4⟩
 ·rw [List.flatMap_append, List.length_append]
  simpa using a2
 ·rcases a4 with e | e
  ·exact h1.2 g (e.symm.trans hg)
  ·rw [e] at hg
   cases hg
   exact hnew _ (by omega)
 ·have hs : GOwns E (W1.alloc (.cells x t)) (fun b => P' b ∧ ov.ownBlock ≠ some b ∧ b < (W1.alloc (.cells x t)).heap.size) (m ++ [v]) (xs ++ [x]) :=
   (h2.imp hE fun b hb hp => ⟨hp.1, hp.2, hb⟩).snoc (hE.imp (fun b hb hp => ⟨hp.2, fun e => by have := hlt b e; omega, hb⟩) hx')
  refine (hs.keep hE (w' := W2) fun b hp hb => a3.block b hb hp.2.1).imp hE fun b _ hp => ⟨hp.1, ?_⟩
  rcases a4 with e | e
  ·rw [e]; exact hp.2.1
  ·rw [e]; intro e2; cases e2; have := hp.2.2; omega
end
structure DX (T : TypeId) (w W : World) (q : Nat) (z : Array Value) (B : Nat) (cs : Array Value) (Wb : World) (l : List UInt8) (bad : Bool) (W' : World) : Prop where
 bx : BX T W q z B cs W'
 ds : DSt 40 w W' q l bad
 keep : ∀ b, b < Wb.heap.size → b ≠ q → b ≠ B → W'.heap[b]? = Wb.heap[b]?
 sz : Wb.heap.size ≤ W'.heap.size
 lo : B < Wb.heap.size
section
variable {T : TypeId} {z cs : Array Value} {w W W' W1 W2 Wb : World} {q B i : Nat} {l l' : List UInt8} {bad bad' : Bool} {α : Type} {E : World → (Nat → Prop) → α → Array Value → Prop} {t Tr : TypeId} {K : Nat} {m : List α} {v : α} {x : Array Value} {ov : Value} {P : Nat → Prop}
theorem DX.start (h : BX T W q z B cs Wb) (g : DSt 40 w Wb q l bad) : DX T w W q z B cs Wb l bad Wb := ⟨h, g, fun _ _ _ _ => rfl, Nat.le_refl _, h.lt⟩
theorem DX.step (h : DX T w W q z B cs Wb l bad W') (t1 : RTo q W' W1) (d1 : DSt 40 w W1 q l' bad') : DX T w W q z B cs Wb l' bad' W1 :=
 ⟨h.bx.step t1, d1, fun b hb hq hB => (t1.keep b (Nat.lt_of_lt_of_le hb h.sz) hq).trans (h.keep b hb hq hB), Nat.le_trans h.sz t1.size, h.lo⟩
theorem DX.below (h : DX T w W q z B cs Wb l bad W') (g : Below W'.heap.size W' W1) : DX T w W q z B cs Wb l bad W1 := h.step (RTo.of_below g) (h.ds.below g)
theorem DX.push (h : DX T w W q z B cs Wb l bad W2) (hE : EL E K) (hG : GT Tryz.prog t Tr K) (hPw : ∀ b, P b → Wb.heap.size ≤ b) (hPn : ∀ b, W2.heap.size ≤ b → P b) (row : GIn E t K P W' ov m) (hsz : W'.heap.size ≤ W2.heap.size) (hkeep : ∀ b, P b → b < W'.heap.size → W2.heap[b]? = W'.heap[b]?) (hov : cs[i]? = some ov)
 (hx : E W2 (fun b => W'.heap.size ≤ b ∧ P b) v x) (hm : m.length ≤ 1000000) (ty : TypeId) :
 ∃ p c W3, (Builtin.append_ #[Tr, Tr] ty #[ov, .slice (some ⟨W2.heap.size, 0, none⟩) 1 1]).run Tryz.prog (W2.alloc (.cells x t)) = .ok (.slice p (m.length + 1) c) W3 ∧ W3.cell? ⟨B, i, none⟩ = some ov ∧ W3.frozen? ⟨B, i, none⟩ = false ∧
  DX T w W q z B (cs.setIfInBounds i (.slice p (m.length + 1) c)) Wb l bad (W3.setCell ⟨B, i, none⟩ (.slice p (m.length + 1) c)) ∧ GIn E t K P (W3.setCell ⟨B, i, none⟩ (.slice p (m.length + 1) c)) (.slice p (m.length + 1) c) (m ++ [v]) ∧
  (∀ b, b < W2.heap.size → b ≠ B → ov.ownBlock ≠ some b → (W3.setCell ⟨B, i, none⟩ (.slice p (m.length + 1) c)).heap[b]? = W2.heap[b]?) ∧ (∀ g, (Value.slice p (m.length + 1) c).ownBlock = some g → ov.ownBlock = some g ∨ W2.heap.size ≤ g) := by
 obtain ⟨v', W3, a1, a2, a3, a4⟩ := row.stepo hE hG (P' := P) (W1 := W2) hkeep hsz (fun b _ h => h) hPn hx hm ty
 obtain ⟨p, c, rfl⟩ := a2.slice
 have el : (m ++ [v]).length = m.length + 1 := by simp
 rw [el] at a1 a2 a4
 have hlow : ∀ b, ov.ownBlock = some b → Wb.heap.size ≤ b := fun b e => hPw b (row.lt b e).2
 have hbn := Kad (w := W2) (.cells x t)
 have hB2 : B < W2.heap.size := Nat.lt_of_lt_of_le h.lo h.sz
 have hq := h.bx.ql
 have hlo := h.bx.lo
 have hloB := h.lo
 have hW3 : ∀ b, b < W2.heap.size → ov.ownBlock ≠ some b → W3.heap[b]? = W2.heap[b]? := fun b hb ho => (a3.block b (Nat.lt_of_lt_of_le hb hbn.size) ho).trans (hbn.block b hb)
 have hBx : W3.heap[B]? = some (.cells cs T (0, 0)) := (hW3 B hB2 fun e => by have := hlow B e; omega).trans h.bx.p3
 have hcell : W3.cell? ⟨B, i, none⟩ = some ov := Kab (o := i) hBx hov
 have hs3 : W2.heap.size ≤ W3.heap.size := by have := a3.size; simp only [World.size_alloc] at this; omega
 have hset : ∀ b, b ≠ B → (W3.setCell ⟨B, i, none⟩ (.slice p (m.length + 1) c)).heap[b]? = W3.heap[b]? := fun b hb => Below.heap_setCell W3 ⟨B, i, none⟩ _ b hb
 have hss : (W3.setCell ⟨B, i, none⟩ (.slice p (m.length + 1) c)).heap.size = W3.heap.size := by simp [World.setCell]
 have hB3 : Below w.heap.size w W3 := a3.below (Kaa h.ds.b hbn) (fun b hb e => by have := hlow b e; have := h.ds.base; omega) (by have := h.ds.b.size; have := hbn.size; omega)
 refine ⟨p, c, W3, a1, hcell, Kaq (o := i) hBx, ⟨?_, ?_, fun b hb hbq hbB => ?_, by rw [hss]; have := h.sz; omega, h.lo⟩, ?_, fun b hb hbB ho => (hset b hbB).trans (hW3 b hb ho), fun g hg => ?_⟩
 ·have h2 : BX T W q z B cs W3 := ⟨(hW3 _ (by omega) fun e => by have := hlow _ e; omega).trans h.bx.p2, hBx, h.bx.lo, h.bx.ql, ⟨by have := h.bx.tr.size; omega, fun b hb hbq => (hW3 b (by have := h.bx.tr.size; omega) fun e => by have := hlow _ e; omega).trans (h.bx.tr.keep b hb hbq)⟩⟩
  exact h2.set i _
 ·exact h.ds.other (Kbt hB3 (by have := h.ds.base; omega) _) ((hset q (by omega)).trans (hW3 q (by omega) fun e => by have := hlow _ e; omega))
 ·exact (hset b hbB).trans ((hW3 b (by have := h.sz; omega) fun e => by have := hlow _ e; omega).trans (h.keep b hb hbq hbB))
 ·exact a2.kept hE (fun b hp _ => hset b (by have := hPw b hp; omega)) (fun b _ h => h)
 ·rcases a4 with e | e
  ·exact .inl (e.symm.trans hg)
  ·rw [e] at hg; cases hg; exact .inr (by omega)
end
abbrev zV : V := .mk 0 false 0 [] [] []
theorem docVal_no {d : Nat} {l : List UInt8} {bad : Bool} (h : l = [] ∨ d = 0 ∨ bad = true) : Ka9 d (l, bad) = (zV, l, true) := by
 cases d with
 | zero => rw [Ka9]
 | succ d =>
   cases l with
   | nil => rw [Ka9]
   | cons c r =>
     rcases h with h | h | h
     ·cases h
     ·omega
     ·subst h; rw [Ka9, if_pos rfl]
theorem docVal_cons {d : Nat} {l : List UInt8} (h : 0 < l.length) : Ka9 (d + 1) (l, false) =
 if (l[0]).toNat = 0 then (.mk 0 false 0 [] [] [], l.drop 1, false)
  else if (l[0]).toNat = 1 then (.mk 1 ((docN (l.drop 1, false)).1 == 1) 0 [] [] [], (docN (l.drop 1, false)).2.1, (docN (l.drop 1, false)).2.2 || decide (1 < (docN (l.drop 1, false)).1))
  else if (l[0]).toNat = 2 then (.mk 2 false (Kau (l.drop 1, false)).1 [] [] [], (Kau (l.drop 1, false)).2)
  else if (l[0]).toNat = 3 then (.mk 3 false 0 (Ka7 (l.drop 1, false)).1 [] [], (Ka7 (l.drop 1, false)).2)
  else if (l[0]).toNat = 4 then (.mk 4 false 0 [] [] (Kbg (Ka9 d) (l.drop 1, false)).1, (Kbg (Ka9 d) (l.drop 1, false)).2)
  else if (l[0]).toNat = 5 then (.mk 5 false 0 [] ((Kbg (Kcr Ka7 (Ka9 d)) (l.drop 1, false)).1.map Prod.fst) ((Kbg (Kcr Ka7 (Ka9 d)) (l.drop 1, false)).1.map Prod.snd), (Kbg (Kcr Ka7 (Ka9 d)) (l.drop 1, false)).2)
  else if (l[0]).toNat = 6 ∨ (l[0]).toNat = 7 then (.mk ((l[0]).toNat : Int) false (Kdv (l.drop 1, false)).1 [] [] [], (Kdv (l.drop 1, false)).2)
  else (.mk ((l[0]).toNat : Int) false 0 [] [] [], l.drop 1, true) := by
 cases l with
 | nil => simp at h
 | cons c r => rw [Ka9, if_neg (by simp)]; rfl
theorem vfin {w W W' : World} {q B : Nat} {cs : Array Value} {l : List UInt8} {bad : Bool} {v : V} (hx : BX 48 W q #[.int .i64 0, .bool false, .int .i64 0, .string ⟨#[]⟩, .slice none 0 0, .slice none 0 0] B cs W') (g : DSt 40 w W' q l bad) (ho : VOwn W' (fun b => B < b) v cs) :
 (loadVar 48 ⟨B, 0, none⟩).run Tryz.prog W' = .ok (.agg cs) W' ∧ (storeVar 48 ⟨W.heap.size, 0, none⟩ (.agg cs)).run Tryz.prog W' = .ok () (W'.setRow W.heap.size cs) ∧
 (loadVar 48 ⟨W.heap.size, 0, none⟩).run Tryz.prog (W'.setRow W.heap.size cs) = .ok (.agg cs) (W'.setRow W.heap.size cs) ∧
 ∀ (r : V × Rs), r = (v, l, bad) → Docs w W q r (okVal W) (.returned (.agg cs)) (W'.setRow W.heap.size cs) := by
 obtain ⟨f1, f2, f3, f4, f5, f6⟩ := hx.finD Kbk ho.size6 rfl ho.ones g
 refine ⟨f1, f2, f3, fun r hr => ?_⟩
 subst hr
 refine ⟨_, rfl, ⟨cs, rfl, ?_⟩, f4, f5⟩
 have hlo := hx.lo
 exact (ho.keep (w' := W'.setRow W.heap.size cs) fun b hb _ => f6 b (by omega)).imp fun b _ hb => by omega
def DValR (w : World) (d : Nat) : Prop := ∀ (W : World) (q : Nat) (l : List UInt8) (bad : Bool), DSt 40 w W q l bad → l.length ≤ 1000000 → Calls Tryz.prog 24 #[.pointer (some ⟨q, 0, none⟩), .int .i64 (d : Int)] W (Docs w W q (Ka9 d (l, bad)) (okVal W))
theorem dval_no {w W : World} {q d : Nat} {l : List UInt8} {bad : Bool} (h : DSt 40 w W q l bad) (hd : d ≤ 64) (hno : l = [] ∨ d = 0 ∨ bad = true) : Calls Tryz.prog 24 #[.pointer (some ⟨q, 0, none⟩), .int .i64 (d : Int)] W (Docs w W q (Ka9 d (l, bad)) (okVal W)) := by
 have hz : ∀ (X : World), (storeVar 48 ⟨X.heap.size, 0, none⟩ (.agg #[.int .i64 0, .bool false, .int .i64 0, .string ⟨#[]⟩, .slice none 0 0, .slice none 0 0])).run Tryz.prog (X.alloc (.cells #[.int .i64 0, .bool false, .int .i64 0, .string ⟨#[]⟩, .slice none 0 0, .slice none 0 0] 48)) = .ok () (X.alloc (.cells #[.int .i64 0, .bool false, .int .i64 0, .string ⟨#[]⟩, .slice none 0 0, .slice none 0 0] 48)) := fun X => Kbk.fresh rfl (by simp [Value.oneCell']) _ rfl
 have hb : Below W.heap.size W ((W.alloc (.cells #[.int .i64 0, .bool false, .int .i64 0, .string ⟨#[]⟩, .slice none 0 0, .slice none 0 0] 48)).alloc (.cells #[.int .i64 0, .bool false, .int .i64 0, .string ⟨#[]⟩, .slice none 0 0, .slice none 0 0] 48)) := (Kad _).alloc (by simp) _
 have h0 : BX 48 W q #[.int .i64 0, .bool false, .int .i64 0, .string ⟨#[]⟩, .slice none 0 0, .slice none 0 0] (W.alloc (.cells #[.int .i64 0, .bool false, .int .i64 0, .string ⟨#[]⟩, .slice none 0 0, .slice none 0 0] 48)).heap.size #[.int .i64 0, .bool false, .int .i64 0, .string ⟨#[]⟩, .slice none 0 0, .slice none 0 0] ((W.alloc (.cells #[.int .i64 0, .bool false, .int .i64 0, .string ⟨#[]⟩, .slice none 0 0, .slice none 0 0] 48)).alloc (.cells #[.int .i64 0, .bool false, .int .i64 0, .string ⟨#[]⟩, .slice none 0 0, .slice none 0 0] 48)) := BX.start h.lt (RTo.refl _ _)
 have d0 := h.below hb
 have hzz := hz (W.alloc (.cells #[.int .i64 0, .bool false, .int .i64 0, .string ⟨#[]⟩, .slice none 0 0, .slice none 0 0] 48))
 simp only [World.size_alloc] at h0 hzz
 by_cases hl : l = []
 ·subst hl
  obtain ⟨p, c, q1, q2⟩ := d0.box
  have hf1 := Kaq (o := 1) q1
  have zl := Kd5 q2
  have c0 := Kab (o := 0) q1 rfl
  have c1 := Kab (o := 1) q1 rfl
  have dS := d0.set true
  have hx1 := h0.step dS.2
  have g1 := vfin (v := zV) hx1 dS.1 (Kbx _ _ 0 false 0 [])
  have HZ := yh hzz
  have HL5 := yh g1.1
  have HS4 := yh g1.2.1
  have HLD := yh g1.2.2.1
  have HF := yh (g1.2.2.2 _ (docVal_no hno))
  clear h hz hb h0 d0 hzz q1 q2 dS hx1 g1 hno
  go_enter Tryz.func24, Tryz.ntmps24
  go_wp2_with (first
   | ((with_reducible apply Kac); exact HZ.out; exact rfl; exact rfl; clear HZ)
   | ((with_reducible apply Kal); exact HL5.out; exact rfl)
   | ((with_reducible apply Kac); exact HS4.out; exact rfl; exact rfl))
  refine bodyPost_ret (Kai rfl _ _ ⟨W.heap.size, 0, none⟩ _ rfl HLD.out) rfl ?_
  exact HF.out
 have hlp : ((l.length : Int) == 0) = false := by rw [beq_eq_false_iff_ne]; have := List.length_pos_iff.2 hl; omega
 by_cases hd0 : d = 0
 ·subst hd0
  clear hl
  obtain ⟨p, c, q1, q2⟩ := d0.box
  have hf1 := Kaq (o := 1) q1
  have zl := Kd5 q2
  have c0 := Kab (o := 0) q1 rfl
  have c1 := Kab (o := 1) q1 rfl
  have dS := d0.set true
  have hx1 := h0.step dS.2
  have g1 := vfin (v := zV) hx1 dS.1 (Kbx _ _ 0 false 0 [])
  have HZ := yh hzz
  have HL5 := yh g1.1
  have HS4 := yh g1.2.1
  have HLD := yh g1.2.2.1
  have HF := yh (g1.2.2.2 _ (docVal_no hno))
  clear h hz hb h0 d0 hzz q1 q2 dS hx1 g1 hno
  go_enter Tryz.func24, Tryz.ntmps24
  go_wp2_with (first
   | ((with_reducible apply Kac); exact HZ.out; exact rfl; exact rfl; clear HZ)
   | ((with_reducible apply Kal); exact HL5.out; exact rfl)
   | ((with_reducible apply Kac); exact HS4.out; exact rfl; exact rfl))
  refine bodyPost_ret (Kai rfl _ _ ⟨W.heap.size, 0, none⟩ _ rfl HLD.out) rfl ?_
  exact HF.out
 have hdp : ¬ (d : Int) ≤ 0 := by omega
 have hdb : decide ((d : Int) ≤ 0) = false := decide_eq_false hdp
 obtain rfl : bad = true := by rcases hno with h1 | h1 | h1; exact absurd h1 hl; exact absurd h1 hd0; exact h1
 clear hl hd0
 obtain ⟨p, c, q1, q2⟩ := d0.box
 have hf1 := Kaq (o := 1) q1
 have zl := Kd5 q2
 have c0 := Kab (o := 0) q1 rfl
 have c1 := Kab (o := 1) q1 rfl
 have dS := d0.set true
 have hx1 := h0.step dS.2
 have g1 := vfin (v := zV) hx1 dS.1 (Kbx _ _ 0 false 0 [])
 have HZ := yh hzz
 have HL5 := yh g1.1
 have HS4 := yh g1.2.1
 have HLD := yh g1.2.2.1
 have HF := yh (g1.2.2.2 _ (docVal_no hno))
 clear h hz hb h0 d0 hzz q1 q2 dS hx1 g1 hno
 go_enter Tryz.func24, Tryz.ntmps24
 go_wp2_with (first
  | ((with_reducible apply Kac); exact HZ.out; exact rfl; exact rfl; clear HZ)
  | ((with_reducible apply Kal); exact HL5.out; exact rfl)
  | ((with_reducible apply Kac); exact HS4.out; exact rfl; exact rfl))
 refine bodyPost_ret (Kai rfl _ _ ⟨W.heap.size, 0, none⟩ _ rfl HLD.out) rfl ?_
 exact HF.out
theorem put_kindD {w : World} {ad : Addr} {n : Int} {u : Value} (hc : w.cell? ad = some u) (hf : w.frozen? ad = false) : (storeVar 44 ad (.int .i64 n)).run Tryz.prog w = .ok () (w.setCell ad (.int .i64 n)) := by
 simp [storeVar, go_sem, hc, hf]
theorem dv_byte {w W : World} {q : Nat} {l : List UInt8} {K : Int} (h : DSt 40 w W q l false) (hlen : 0 < l.length) (hK : ((l[0]).toNat : Int) = K) : ∃ bb oo c p' c', (l.length : Int) ≤ 9223372036854775807 ∧ ((W.alloc (.cells #[.int .i64 0, .bool false, .int .i64 0, .string ⟨#[]⟩, .slice none 0 0, .slice none 0 0] 48)).alloc (.cells #[.int .i64 0, .bool false, .int .i64 0, .string ⟨#[]⟩, .slice none 0 0, .slice none 0 0] 48)).cell? ⟨q, 0, none⟩ = some (.slice (some ⟨bb, oo, none⟩) l.length c) ∧ ((W.alloc (.cells #[.int .i64 0, .bool false, .int .i64 0, .string ⟨#[]⟩, .slice none 0 0, .slice none 0 0] 48)).alloc (.cells #[.int .i64 0, .bool false, .int .i64 0, .string ⟨#[]⟩, .slice none 0 0, .slice none 0 0] 48)).cell? ⟨q, 1, none⟩ = some (.bool false) ∧
 ((W.alloc (.cells #[.int .i64 0, .bool false, .int .i64 0, .string ⟨#[]⟩, .slice none 0 0, .slice none 0 0] 48)).alloc (.cells #[.int .i64 0, .bool false, .int .i64 0, .string ⟨#[]⟩, .slice none 0 0, .slice none 0 0] 48)).cell? ⟨W.heap.size + 1, 0, none⟩ = some (.int .i64 0) ∧ ((W.alloc (.cells #[.int .i64 0, .bool false, .int .i64 0, .string ⟨#[]⟩, .slice none 0 0, .slice none 0 0] 48)).alloc (.cells #[.int .i64 0, .bool false, .int .i64 0, .string ⟨#[]⟩, .slice none 0 0, .slice none 0 0] 48)).cell? ⟨bb, oo, none⟩ = some (.int .u8 K) ∧ (((W.alloc (.cells #[.int .i64 0, .bool false, .int .i64 0, .string ⟨#[]⟩, .slice none 0 0, .slice none 0 0] 48)).alloc (.cells #[.int .i64 0, .bool false, .int .i64 0, .string ⟨#[]⟩, .slice none 0 0, .slice none 0 0] 48)).setCell ⟨W.heap.size + 1, 0, none⟩ (.int .i64 K)).cell? ⟨q, 0, none⟩ = some (.slice (some ⟨bb, oo, none⟩) l.length c) ∧ (storeVar 48 ⟨W.heap.size + 1, 0, none⟩ (.agg #[.int .i64 0, .bool false, .int .i64 0, .string ⟨#[]⟩, .slice none 0 0, .slice none 0 0])).run Tryz.prog ((W.alloc (.cells #[.int .i64 0, .bool false, .int .i64 0, .string ⟨#[]⟩, .slice none 0 0, .slice none 0 0] 48)).alloc (.cells #[.int .i64 0, .bool false, .int .i64 0, .string ⟨#[]⟩, .slice none 0 0, .slice none 0 0] 48)) = .ok () ((W.alloc (.cells #[.int .i64 0, .bool false, .int .i64 0, .string ⟨#[]⟩, .slice none 0 0, .slice none 0 0] 48)).alloc (.cells #[.int .i64 0, .bool false, .int .i64 0, .string ⟨#[]⟩, .slice none 0 0, .slice none 0 0] 48)) ∧
 (storeVar 44 ⟨W.heap.size + 1, 0, none⟩ (.int .i64 K)).run Tryz.prog ((W.alloc (.cells #[.int .i64 0, .bool false, .int .i64 0, .string ⟨#[]⟩, .slice none 0 0, .slice none 0 0] 48)).alloc (.cells #[.int .i64 0, .bool false, .int .i64 0, .string ⟨#[]⟩, .slice none 0 0, .slice none 0 0] 48)) = .ok () (((W.alloc (.cells #[.int .i64 0, .bool false, .int .i64 0, .string ⟨#[]⟩, .slice none 0 0, .slice none 0 0] 48)).alloc (.cells #[.int .i64 0, .bool false, .int .i64 0, .string ⟨#[]⟩, .slice none 0 0, .slice none 0 0] 48)).setCell ⟨W.heap.size + 1, 0, none⟩ (.int .i64 K)) ∧ (storeVar 26 ⟨q, 0, none⟩ (.slice p' (l.length - 1) c')).run Tryz.prog (((W.alloc (.cells #[.int .i64 0, .bool false, .int .i64 0, .string ⟨#[]⟩, .slice none 0 0, .slice none 0 0] 48)).alloc (.cells #[.int .i64 0, .bool false, .int .i64 0, .string ⟨#[]⟩, .slice none 0 0, .slice none 0 0] 48)).setCell ⟨W.heap.size + 1, 0, none⟩ (.int .i64 K)) = .ok () ((((W.alloc (.cells #[.int .i64 0, .bool false, .int .i64 0, .string ⟨#[]⟩, .slice none 0 0, .slice none 0 0] 48)).alloc (.cells #[.int .i64 0, .bool false, .int .i64 0, .string ⟨#[]⟩, .slice none 0 0, .slice none 0 0] 48)).setCell ⟨W.heap.size + 1, 0, none⟩ (.int .i64 K)).setCell ⟨q, 0, none⟩ (.slice p' (l.length - 1) c')) ∧
 (∀ W', (Instr.sliceAt 26 (.slice (some ⟨bb, oo, none⟩) l.length c) (some (.int .i64 1)) none none).run Tryz.prog W' = .ok (.slice p' (l.length - 1) c') W') ∧ BX 48 W q #[.int .i64 0, .bool false, .int .i64 0, .string ⟨#[]⟩, .slice none 0 0, .slice none 0 0] (W.heap.size + 1) #[.int .i64 K, .bool false, .int .i64 0, .string ⟨#[]⟩, .slice none 0 0, .slice none 0 0] ((((W.alloc (.cells #[.int .i64 0, .bool false, .int .i64 0, .string ⟨#[]⟩, .slice none 0 0, .slice none 0 0] 48)).alloc (.cells #[.int .i64 0, .bool false, .int .i64 0, .string ⟨#[]⟩, .slice none 0 0, .slice none 0 0] 48)).setCell ⟨W.heap.size + 1, 0, none⟩ (.int .i64 K)).setCell ⟨q, 0, none⟩ (.slice p' (l.length - 1) c')) ∧
 DSt 40 w ((((W.alloc (.cells #[.int .i64 0, .bool false, .int .i64 0, .string ⟨#[]⟩, .slice none 0 0, .slice none 0 0] 48)).alloc (.cells #[.int .i64 0, .bool false, .int .i64 0, .string ⟨#[]⟩, .slice none 0 0, .slice none 0 0] 48)).setCell ⟨W.heap.size + 1, 0, none⟩ (.int .i64 K)).setCell ⟨q, 0, none⟩ (.slice p' (l.length - 1) c')) q (l.drop 1) false := by
 have hz : ∀ (X : World), (storeVar 48 ⟨X.heap.size, 0, none⟩ (.agg #[.int .i64 0, .bool false, .int .i64 0, .string ⟨#[]⟩, .slice none 0 0, .slice none 0 0])).run Tryz.prog (X.alloc (.cells #[.int .i64 0, .bool false, .int .i64 0, .string ⟨#[]⟩, .slice none 0 0, .slice none 0 0] 48)) = .ok () (X.alloc (.cells #[.int .i64 0, .bool false, .int .i64 0, .string ⟨#[]⟩, .slice none 0 0, .slice none 0 0] 48)) := fun X => Kbk.fresh rfl (by simp [Value.oneCell']) _ rfl
 have hb : Below W.heap.size W ((W.alloc (.cells #[.int .i64 0, .bool false, .int .i64 0, .string ⟨#[]⟩, .slice none 0 0, .slice none 0 0] 48)).alloc (.cells #[.int .i64 0, .bool false, .int .i64 0, .string ⟨#[]⟩, .slice none 0 0, .slice none 0 0] 48)) := (Kad _).alloc (by simp) _
 have h0 : BX 48 W q #[.int .i64 0, .bool false, .int .i64 0, .string ⟨#[]⟩, .slice none 0 0, .slice none 0 0] (W.alloc (.cells #[.int .i64 0, .bool false, .int .i64 0, .string ⟨#[]⟩, .slice none 0 0, .slice none 0 0] 48)).heap.size #[.int .i64 0, .bool false, .int .i64 0, .string ⟨#[]⟩, .slice none 0 0, .slice none 0 0] ((W.alloc (.cells #[.int .i64 0, .bool false, .int .i64 0, .string ⟨#[]⟩, .slice none 0 0, .slice none 0 0] 48)).alloc (.cells #[.int .i64 0, .bool false, .int .i64 0, .string ⟨#[]⟩, .slice none 0 0, .slice none 0 0] 48)) := BX.start h.lt (RTo.refl _ _)
 have d0 := h.below hb
 have hzz := hz (W.alloc (.cells #[.int .i64 0, .bool false, .int .i64 0, .string ⟨#[]⟩, .slice none 0 0, .slice none 0 0] 48))
 simp only [World.size_alloc] at h0 hzz
 have d1 := h0.setD d0 0 (.int .i64 K)
 obtain ⟨p, c, q1, q2⟩ := d0.box
 obtain ⟨p1, c1, p', c', k1, k2, k3, k4, k5⟩ := d1.rest (k := 1) hlen
 have hqB : q ≠ W.heap.size + 1 := by have := h0.lo; have := h0.ql; omega
 have q3 : (((W.alloc (.cells #[.int .i64 0, .bool false, .int .i64 0, .string ⟨#[]⟩, .slice none 0 0, .slice none 0 0] 48)).alloc (.cells #[.int .i64 0, .bool false, .int .i64 0, .string ⟨#[]⟩, .slice none 0 0, .slice none 0 0] 48)).setCell ⟨W.heap.size + 1, 0, none⟩ (.int .i64 K)).heap[q]? = some (.cells #[.slice p l.length c, .bool false] 40 (0, 0)) := (Below.heap_setCell _ ⟨W.heap.size + 1, 0, none⟩ _ q hqB).trans q1
 rw [q3] at k1
 cases k1
 have b0 := Kab (o := 0) h0.p3 rfl
 obtain ⟨bb, oo, rfl, hbyte⟩ := rd_first q2 hlen
 rw [hK] at hbyte
 have hx1 : BX 48 W q #[.int .i64 0, .bool false, .int .i64 0, .string ⟨#[]⟩, .slice none 0 0, .slice none 0 0] (W.heap.size + 1) #[.int .i64 K, .bool false, .int .i64 0, .string ⟨#[]⟩, .slice none 0 0, .slice none 0 0] (((W.alloc (.cells #[.int .i64 0, .bool false, .int .i64 0, .string ⟨#[]⟩, .slice none 0 0, .slice none 0 0] 48)).alloc (.cells #[.int .i64 0, .bool false, .int .i64 0, .string ⟨#[]⟩, .slice none 0 0, .slice none 0 0] 48)).setCell ⟨W.heap.size + 1, 0, none⟩ (.int .i64 K)) := by simpa using h0.set 0 (.int .i64 K)
 exact ⟨bb, oo, c, p', c', Kd5 q2, Kab (o := 0) q1 rfl, Kab (o := 1) q1 rfl, b0, Kag d0.b (ltOf hbyte) hbyte, Kab (o := 0) q3 rfl, hzz, put_kindD b0 (Kaq (o := 0) h0.p3), Kbn (Kab (o := 0) q3 rfl) (Kaq (o := 0) q3), fun W' => (Kas Tryz.underlying26 _ _ _ _ W').trans (k3 W'), hx1.step k5, k4⟩
theorem dval_flat {w W : World} {q d : Nat} {l : List UInt8} (h : DSt 40 w W q l false) (hd : d + 1 ≤ 64) (hlen : 0 < l.length) (h4 : (l[0]).toNat ≠ 4) (h5 : (l[0]).toNat ≠ 5) : Calls Tryz.prog 24 #[.pointer (some ⟨q, 0, none⟩), .int .i64 ((d + 1 : Nat) : Int)] W (Docs w W q (Ka9 (d + 1) (l, false)) (okVal W)) := by
 have hlp : ((l.length : Int) == 0) = false := by rw [beq_eq_false_iff_ne]; omega
 have hdp : ¬ ((d + 1 : Nat) : Int) ≤ 0 := by omega
 have hdb : decide (((d + 1 : Nat) : Int) ≤ 0) = false := decide_eq_false hdp
 rw [docVal_cons hlen]
 have hcl := (l[0]).toNat_lt
 generalize hdd : d + 1 = dd at *
 clear hdd
 generalize hc0 : (l[0]).toNat = c0 at *
 have hcase : c0 = 0 ∨ c0 = 1 ∨ c0 = 2 ∨ c0 = 3 ∨ c0 = 6 ∨ c0 = 7 ∨ 8 ≤ c0 := by omega
 rcases hcase with rfl | rfl | rfl | rfl | rfl | rfl | hc8
 ·obtain ⟨bb, oo, c, p', c', zl, r0, r1, b0, hbyw, r01, hzz, hst0, hst1, hsl, hx2, hd2⟩ := dv_byte (K := 0) h hlen (by rw [hc0] <;> rfl)
  have b02 := Kab (o := 0) hx2.p3 rfl
  have HZ := yh hzz
  have HST0 := yh hst0
  have HST1 := yh hst1
  have HSL := yh hsl
  have HX2 := yh hx2
  have HD2 := yh hd2
  clear h hzz hst0 hst1 hsl hx2 hd2
  rw [if_pos rfl]
  have g1 := vfin (v := (V.mk 0 false 0 [] [] [])) HX2.out HD2.out (Kbx _ _ _ _ _ _)
  have HL5 := yh g1.1
  have HS4 := yh g1.2.1
  have HLD := yh g1.2.2.1
  have HF := yh (g1.2.2.2)
  clear g1
  clear h4 h5
  go_enter Tryz.func24, Tryz.ntmps24
  go_wp2_with (first
   | ((with_reducible apply Kac); exact HZ.out; exact rfl; exact rfl; clear HZ)
   | ((with_reducible apply Kac); exact HST0.out; exact rfl; exact rfl; clear HST0; generalize hW1 : World.setCell _ _ _ = W1 at *; clear hW1)
   | ((with_reducible apply Ka2); exact HSL.out _; exact rfl; exact rfl; exact rfl; exact rfl; clear HSL)
   | ((with_reducible apply Kac); exact HST1.out; exact rfl; exact rfl; clear HST1; generalize hW2 : World.setCell _ _ _ = W2 at *; clear hW2)
   | ((with_reducible apply Kal); exact HL5.out; exact rfl)
   | ((with_reducible apply Kac); exact HS4.out; exact rfl; exact rfl))
  refine bodyPost_ret (Kai rfl _ _ ⟨W.heap.size, 0, none⟩ _ rfl HLD.out) rfl ?_
  exact HF.out _ (by first | rfl | simp)
 ·obtain ⟨bb, oo, c, p', c', zl, r0, r1, b0, hbyw, r01, hzz, hst0, hst1, hsl, hx2, hd2⟩ := dv_byte (K := 1) h hlen (by rw [hc0] <;> rfl)
  have b02 := Kab (o := 0) hx2.p3 rfl
  have HZ := yh hzz
  have HST0 := yh hst0
  have HST1 := yh hst1
  have HSL := yh hsl
  have HX2 := yh hx2
  have HD2 := yh hd2
  clear h hzz hst0 hst1 hsl hx2 hd2
  rw [if_neg (by decide), if_pos rfl]
  have hN := Kdy HD2.out
  generalize docN (l.drop 1, false) = r at *
  obtain ⟨n, l3, b3⟩ := r
  have HN := yh hN
  clear hN h4 h5
  have hn3 : n = 0 ∨ n = 1 ∨ 2 ≤ n := by omega
  cases b3 <;> rcases hn3 with rfl | rfl | hn2
  ·go_enter Tryz.func24, Tryz.ntmps24
   go_wp2_with (first
    | ((with_reducible apply Kac); exact HZ.out; exact rfl; exact rfl; clear HZ)
    | ((with_reducible apply Kac); exact HST0.out; exact rfl; exact rfl; clear HST0; generalize hW1 : World.setCell _ _ _ = W1 at *; clear hW1)
    | ((with_reducible apply Ka2); exact HSL.out _; exact rfl; exact rfl; exact rfl; exact rfl; clear HSL)
    | ((with_reducible apply Kac); exact HST1.out; exact rfl; exact rfl; clear HST1; generalize hW2 : World.setCell _ _ _ = W2 at *; clear hW2)
    | (go_at_call 60
       (
        refine HN.out.mono ?_
        rintro e W3 ⟨v3, rfl, rfl, hD, hT⟩
        replace hD : DSt 40 w W3 q l3 false := hD
        have hx3 := HX2.out.step hT
        have hx4 := hx3.set 1 (.bool false)
        simp only [List.setIfInBounds_toArray, List.set_cons_zero, List.set_cons_succ] at hx4
        have HSP := yh (Kcm (n := false) (Kab (o := 1) hx3.p3 rfl) (Kaq (o := 1) hx3.p3))
        have hD4 := hx3.setD hD 1 (.bool false)
        obtain ⟨pz, cz, m1, m2⟩ := hD4.box
        have r5 := Kab (o := 1) m1 rfl
        have HSQ := yh (Kcm (n := false) r5 (Kaq (o := 1) m1))
        have hD5 := hD4.set false
        have hx5 := hx4.step hD5.2
        have g1 := vfin (v := (V.mk 1 false 0 [] [] [])) hx5 hD5.1 (Kbx _ _ _ _ _ _)
        have HL5 := yh g1.1
        have HS4 := yh g1.2.1
        have HLD := yh g1.2.2.1
        have HF := yh (g1.2.2.2)
        clear g1
        clear hD hT hx3 hx4 hx5 hD4 hD5 m1 m2))
    | ((with_reducible apply Kac); exact HSP.out; exact rfl; exact rfl; clear HSP; generalize hW4 : World.setCell _ _ _ = W4 at *; clear hW4)
    | ((with_reducible apply Kac); exact HSQ.out; exact rfl; exact rfl; clear HSQ)
    | ((with_reducible apply Kal); exact HL5.out; exact rfl)
    | ((with_reducible apply Kac); exact HS4.out; exact rfl; exact rfl))
   refine bodyPost_ret (Kai rfl _ _ ⟨W.heap.size, 0, none⟩ _ rfl HLD.out) rfl ?_
   exact HF.out _ (by simp; try omega)
  ·go_enter Tryz.func24, Tryz.ntmps24
   go_wp2_with (first
    | ((with_reducible apply Kac); exact HZ.out; exact rfl; exact rfl; clear HZ)
    | ((with_reducible apply Kac); exact HST0.out; exact rfl; exact rfl; clear HST0; generalize hW1 : World.setCell _ _ _ = W1 at *; clear hW1)
    | ((with_reducible apply Ka2); exact HSL.out _; exact rfl; exact rfl; exact rfl; exact rfl; clear HSL)
    | ((with_reducible apply Kac); exact HST1.out; exact rfl; exact rfl; clear HST1; generalize hW2 : World.setCell _ _ _ = W2 at *; clear hW2)
    | (go_at_call 60
       (
        refine HN.out.mono ?_
        rintro e W3 ⟨v3, rfl, rfl, hD, hT⟩
        replace hD : DSt 40 w W3 q l3 false := hD
        have hx3 := HX2.out.step hT
        have hx4 := hx3.set 1 (.bool true)
        simp only [List.setIfInBounds_toArray, List.set_cons_zero, List.set_cons_succ] at hx4
        have HSP := yh (Kcm (n := true) (Kab (o := 1) hx3.p3 rfl) (Kaq (o := 1) hx3.p3))
        have hD4 := hx3.setD hD 1 (.bool true)
        obtain ⟨pz, cz, m1, m2⟩ := hD4.box
        have r5 := Kab (o := 1) m1 rfl
        have HSQ := yh (Kcm (n := false) r5 (Kaq (o := 1) m1))
        have hD5 := hD4.set false
        have hx5 := hx4.step hD5.2
        have g1 := vfin (v := (V.mk 1 true 0 [] [] [])) hx5 hD5.1 (Kbx _ _ _ _ _ _)
        have HL5 := yh g1.1
        have HS4 := yh g1.2.1
        have HLD := yh g1.2.2.1
        have HF := yh (g1.2.2.2)
        clear g1
        clear hD hT hx3 hx4 hx5 hD4 hD5 m1 m2))
    | ((with_reducible apply Kac); exact HSP.out; exact rfl; exact rfl; clear HSP; generalize hW4 : World.setCell _ _ _ = W4 at *; clear hW4)
    | ((with_reducible apply Kac); exact HSQ.out; exact rfl; exact rfl; clear HSQ)
    | ((with_reducible apply Kal); exact HL5.out; exact rfl)
    | ((with_reducible apply Kac); exact HS4.out; exact rfl; exact rfl))
   refine bodyPost_ret (Kai rfl _ _ ⟨W.heap.size, 0, none⟩ _ rfl HLD.out) rfl ?_
   exact HF.out _ (by simp; try omega)
  ·have n1 : ((n : Int) == 1) = false := by rw [beq_eq_false_iff_ne]; omega
   have n2 : (1 : Int) < (n : Int) := by omega
   have n3 : (n == 1) = false := by rw [beq_eq_false_iff_ne]; omega
   have n4 : decide (1 < n) = true := decide_eq_true (by omega)
   clear hn2
   go_enter Tryz.func24, Tryz.ntmps24
   go_wp2_with (first
    | ((with_reducible apply Kac); exact HZ.out; exact rfl; exact rfl; clear HZ)
    | ((with_reducible apply Kac); exact HST0.out; exact rfl; exact rfl; clear HST0; generalize hW1 : World.setCell _ _ _ = W1 at *; clear hW1)
    | ((with_reducible apply Ka2); exact HSL.out _; exact rfl; exact rfl; exact rfl; exact rfl; clear HSL)
    | ((with_reducible apply Kac); exact HST1.out; exact rfl; exact rfl; clear HST1; generalize hW2 : World.setCell _ _ _ = W2 at *; clear hW2)
    | (go_at_call 60
       (
        refine HN.out.mono ?_
        rintro e W3 ⟨v3, rfl, rfl, hD, hT⟩
        replace hD : DSt 40 w W3 q l3 false := hD
        have hx3 := HX2.out.step hT
        have hx4 := hx3.set 1 (.bool false)
        simp only [List.setIfInBounds_toArray, List.set_cons_zero, List.set_cons_succ] at hx4
        have HSP := yh (Kcm (n := false) (Kab (o := 1) hx3.p3 rfl) (Kaq (o := 1) hx3.p3))
        have hD4 := hx3.setD hD 1 (.bool false)
        obtain ⟨pz, cz, m1, m2⟩ := hD4.box
        have r5 := Kab (o := 1) m1 rfl
        have HSQ := yh (Kcm (n := true) r5 (Kaq (o := 1) m1))
        have hD5 := hD4.set true
        have hx5 := hx4.step hD5.2
        have g1 := vfin (v := (V.mk 1 false 0 [] [] [])) hx5 hD5.1 (Kbx _ _ _ _ _ _)
        have HL5 := yh g1.1
        have HS4 := yh g1.2.1
        have HLD := yh g1.2.2.1
        have HF := yh (g1.2.2.2)
        clear g1
        clear hD hT hx3 hx4 hx5 hD4 hD5 m1 m2))
    | ((with_reducible apply Kac); exact HSP.out; exact rfl; exact rfl; clear HSP; generalize hW4 : World.setCell _ _ _ = W4 at *; clear hW4)
    | ((with_reducible apply Kac); exact HSQ.out; exact rfl; exact rfl; clear HSQ)
    | ((with_reducible apply Kal); exact HL5.out; exact rfl)
    | ((with_reducible apply Kac); exact HS4.out; exact rfl; exact rfl))
   refine bodyPost_ret (Kai rfl _ _ ⟨W.heap.size, 0, none⟩ _ rfl HLD.out) rfl ?_
   exact HF.out _ (by simp; try omega)
  ·go_enter Tryz.func24, Tryz.ntmps24
   go_wp2_with (first
    | ((with_reducible apply Kac); exact HZ.out; exact rfl; exact rfl; clear HZ)
    | ((with_reducible apply Kac); exact HST0.out; exact rfl; exact rfl; clear HST0; generalize hW1 : World.setCell _ _ _ = W1 at *; clear hW1)
    | ((with_reducible apply Ka2); exact HSL.out _; exact rfl; exact rfl; exact rfl; exact rfl; clear HSL)
    | ((with_reducible apply Kac); exact HST1.out; exact rfl; exact rfl; clear HST1; generalize hW2 : World.setCell _ _ _ = W2 at *; clear hW2)
    | (go_at_call 60
       (
        refine HN.out.mono ?_
        rintro e W3 ⟨v3, rfl, rfl, hD, hT⟩
        replace hD : DSt 40 w W3 q l3 true := hD
        have hx3 := HX2.out.step hT
        have hx4 := hx3.set 1 (.bool false)
        simp only [List.setIfInBounds_toArray, List.set_cons_zero, List.set_cons_succ] at hx4
        have HSP := yh (Kcm (n := false) (Kab (o := 1) hx3.p3 rfl) (Kaq (o := 1) hx3.p3))
        have hD4 := hx3.setD hD 1 (.bool false)
        obtain ⟨pz, cz, m1, m2⟩ := hD4.box
        have r5 := Kab (o := 1) m1 rfl
        have HSQ := yh (Kcm (n := true) r5 (Kaq (o := 1) m1))
        have hD5 := hD4.set true
        have hx5 := hx4.step hD5.2
        have g1 := vfin (v := (V.mk 1 false 0 [] [] [])) hx5 hD5.1 (Kbx _ _ _ _ _ _)
        have HL5 := yh g1.1
        have HS4 := yh g1.2.1
        have HLD := yh g1.2.2.1
        have HF := yh (g1.2.2.2)
        clear g1
        clear hD hT hx3 hx4 hx5 hD4 hD5 m1 m2))
    | ((with_reducible apply Kac); exact HSP.out; exact rfl; exact rfl; clear HSP; generalize hW4 : World.setCell _ _ _ = W4 at *; clear hW4)
    | ((with_reducible apply Kac); exact HSQ.out; exact rfl; exact rfl; clear HSQ)
    | ((with_reducible apply Kal); exact HL5.out; exact rfl)
    | ((with_reducible apply Kac); exact HS4.out; exact rfl; exact rfl))
   refine bodyPost_ret (Kai rfl _ _ ⟨W.heap.size, 0, none⟩ _ rfl HLD.out) rfl ?_
   exact HF.out _ (by simp; try omega)
  ·go_enter Tryz.func24, Tryz.ntmps24
   go_wp2_with (first
    | ((with_reducible apply Kac); exact HZ.out; exact rfl; exact rfl; clear HZ)
    | ((with_reducible apply Kac); exact HST0.out; exact rfl; exact rfl; clear HST0; generalize hW1 : World.setCell _ _ _ = W1 at *; clear hW1)
    | ((with_reducible apply Ka2); exact HSL.out _; exact rfl; exact rfl; exact rfl; exact rfl; clear HSL)
    | ((with_reducible apply Kac); exact HST1.out; exact rfl; exact rfl; clear HST1; generalize hW2 : World.setCell _ _ _ = W2 at *; clear hW2)
    | (go_at_call 60
       (
        refine HN.out.mono ?_
        rintro e W3 ⟨v3, rfl, rfl, hD, hT⟩
        replace hD : DSt 40 w W3 q l3 true := hD
        have hx3 := HX2.out.step hT
        have hx4 := hx3.set 1 (.bool true)
        simp only [List.setIfInBounds_toArray, List.set_cons_zero, List.set_cons_succ] at hx4
        have HSP := yh (Kcm (n := true) (Kab (o := 1) hx3.p3 rfl) (Kaq (o := 1) hx3.p3))
        have hD4 := hx3.setD hD 1 (.bool true)
        obtain ⟨pz, cz, m1, m2⟩ := hD4.box
        have r5 := Kab (o := 1) m1 rfl
        have HSQ := yh (Kcm (n := true) r5 (Kaq (o := 1) m1))
        have hD5 := hD4.set true
        have hx5 := hx4.step hD5.2
        have g1 := vfin (v := (V.mk 1 true 0 [] [] [])) hx5 hD5.1 (Kbx _ _ _ _ _ _)
        have HL5 := yh g1.1
        have HS4 := yh g1.2.1
        have HLD := yh g1.2.2.1
        have HF := yh (g1.2.2.2)
        clear g1
        clear hD hT hx3 hx4 hx5 hD4 hD5 m1 m2))
    | ((with_reducible apply Kac); exact HSP.out; exact rfl; exact rfl; clear HSP; generalize hW4 : World.setCell _ _ _ = W4 at *; clear hW4)
    | ((with_reducible apply Kac); exact HSQ.out; exact rfl; exact rfl; clear HSQ)
    | ((with_reducible apply Kal); exact HL5.out; exact rfl)
    | ((with_reducible apply Kac); exact HS4.out; exact rfl; exact rfl))
   refine bodyPost_ret (Kai rfl _ _ ⟨W.heap.size, 0, none⟩ _ rfl HLD.out) rfl ?_
   exact HF.out _ (by simp; try omega)
  ·have n1 : ((n : Int) == 1) = false := by rw [beq_eq_false_iff_ne]; omega
   have n2 : (1 : Int) < (n : Int) := by omega
   have n3 : (n == 1) = false := by rw [beq_eq_false_iff_ne]; omega
   have n4 : decide (1 < n) = true := decide_eq_true (by omega)
   clear hn2
   go_enter Tryz.func24, Tryz.ntmps24
   go_wp2_with (first
    | ((with_reducible apply Kac); exact HZ.out; exact rfl; exact rfl; clear HZ)
    | ((with_reducible apply Kac); exact HST0.out; exact rfl; exact rfl; clear HST0; generalize hW1 : World.setCell _ _ _ = W1 at *; clear hW1)
    | ((with_reducible apply Ka2); exact HSL.out _; exact rfl; exact rfl; exact rfl; exact rfl; clear HSL)
    | ((with_reducible apply Kac); exact HST1.out; exact rfl; exact rfl; clear HST1; generalize hW2 : World.setCell _ _ _ = W2 at *; clear hW2)
    | (go_at_call 60
       (
        refine HN.out.mono ?_
        rintro e W3 ⟨v3, rfl, rfl, hD, hT⟩
        replace hD : DSt 40 w W3 q l3 true := hD
        have hx3 := HX2.out.step hT
        have hx4 := hx3.set 1 (.bool false)
        simp only [List.setIfInBounds_toArray, List.set_cons_zero, List.set_cons_succ] at hx4
        have HSP := yh (Kcm (n := false) (Kab (o := 1) hx3.p3 rfl) (Kaq (o := 1) hx3.p3))
        have hD4 := hx3.setD hD 1 (.bool false)
        obtain ⟨pz, cz, m1, m2⟩ := hD4.box
        have r5 := Kab (o := 1) m1 rfl
        have HSQ := yh (Kcm (n := true) r5 (Kaq (o := 1) m1))
        have hD5 := hD4.set true
        have hx5 := hx4.step hD5.2
        have g1 := vfin (v := (V.mk 1 false 0 [] [] [])) hx5 hD5.1 (Kbx _ _ _ _ _ _)
        have HL5 := yh g1.1
        have HS4 := yh g1.2.1
        have HLD := yh g1.2.2.1
        have HF := yh (g1.2.2.2)
        clear g1
        clear hD hT hx3 hx4 hx5 hD4 hD5 m1 m2))
    | ((with_reducible apply Kac); exact HSP.out; exact rfl; exact rfl; clear HSP; generalize hW4 : World.setCell _ _ _ = W4 at *; clear hW4)
    | ((with_reducible apply Kac); exact HSQ.out; exact rfl; exact rfl; clear HSQ)
    | ((with_reducible apply Kal); exact HL5.out; exact rfl)
    | ((with_reducible apply Kac); exact HS4.out; exact rfl; exact rfl))
   refine bodyPost_ret (Kai rfl _ _ ⟨W.heap.size, 0, none⟩ _ rfl HLD.out) rfl ?_
   exact HF.out _ (by simp; try omega)
 ·obtain ⟨bb, oo, c, p', c', zl, r0, r1, b0, hbyw, r01, hzz, hst0, hst1, hsl, hx2, hd2⟩ := dv_byte (K := 2) h hlen (by rw [hc0] <;> rfl)
  have b02 := Kab (o := 0) hx2.p3 rfl
  have HZ := yh hzz
  have HST0 := yh hst0
  have HST1 := yh hst1
  have HSL := yh hsl
  have HX2 := yh hx2
  have HD2 := yh hd2
  clear h hzz hst0 hst1 hsl hx2 hd2
  rw [if_neg (by decide)]
  rw [if_neg (by decide)]
  rw [if_pos rfl]
  have hN := dsign_any HD2.out
  generalize Kau (l.drop 1, false) = r at *
  obtain ⟨n, l3, b3⟩ := r
  have HN := yh hN
  clear hN h4 h5
  go_enter Tryz.func24, Tryz.ntmps24
  go_wp2_with (first
   | ((with_reducible apply Kac); exact HZ.out; exact rfl; exact rfl; clear HZ)
   | ((with_reducible apply Kac); exact HST0.out; exact rfl; exact rfl; clear HST0; generalize hW1 : World.setCell _ _ _ = W1 at *; clear hW1)
   | ((with_reducible apply Ka2); exact HSL.out _; exact rfl; exact rfl; exact rfl; exact rfl; clear HSL)
   | ((with_reducible apply Kac); exact HST1.out; exact rfl; exact rfl; clear HST1; generalize hW2 : World.setCell _ _ _ = W2 at *; clear hW2)
   | (go_at_call 73
      (
       refine HN.out.mono ?_
       rintro e W3 ⟨v3, rfl, rfl, hD, hT⟩
       replace hD : DSt 40 w W3 q l3 b3 := hD
       have hx3 := HX2.out.step hT
       have hx4 := hx3.set 2 (.int .i64 n)
       simp only [List.setIfInBounds_toArray, List.set_cons_zero, List.set_cons_succ] at hx4
       have HSP := yh (Kcd (n := n) (Kab (o := 2) hx3.p3 rfl) (Kaq (o := 2) hx3.p3))
       have g1 := vfin (v := (V.mk 2 false n [] [] [])) hx4 (hx3.setD hD 2 _) (Kbx _ _ _ _ _ _)
       have HL5 := yh g1.1
       have HS4 := yh g1.2.1
       have HLD := yh g1.2.2.1
       have HF := yh (g1.2.2.2)
       clear g1
       clear hD hT hx3 hx4))
   | ((with_reducible apply Kbv); exact HCV.out _; exact rfl)
   | ((with_reducible apply Kac); exact HSP.out; exact rfl; exact rfl; clear HSP)
   | ((with_reducible apply Kal); exact HL5.out; exact rfl)
   | ((with_reducible apply Kac); exact HS4.out; exact rfl; exact rfl))
  refine bodyPost_ret (Kai rfl _ _ ⟨W.heap.size, 0, none⟩ _ rfl HLD.out) rfl ?_
  exact HF.out _ (by first | rfl | simp)
 ·obtain ⟨bb, oo, c, p', c', zl, r0, r1, b0, hbyw, r01, hzz, hst0, hst1, hsl, hx2, hd2⟩ := dv_byte (K := 3) h hlen (by rw [hc0] <;> rfl)
  have b02 := Kab (o := 0) hx2.p3 rfl
  have HZ := yh hzz
  have HST0 := yh hst0
  have HST1 := yh hst1
  have HSL := yh hsl
  have HX2 := yh hx2
  have HD2 := yh hd2
  clear h hzz hst0 hst1 hsl hx2 hd2
  rw [if_neg (by decide)]
  rw [if_neg (by decide)]
  rw [if_neg (by decide)]
  rw [if_pos rfl]
  have hN := dtxt_any HD2.out
  generalize Ka7 (l.drop 1, false) = r at *
  obtain ⟨n, l3, b3⟩ := r
  have HN := yh hN
  clear hN h4 h5
  go_enter Tryz.func24, Tryz.ntmps24
  go_wp2_with (first
   | ((with_reducible apply Kac); exact HZ.out; exact rfl; exact rfl; clear HZ)
   | ((with_reducible apply Kac); exact HST0.out; exact rfl; exact rfl; clear HST0; generalize hW1 : World.setCell _ _ _ = W1 at *; clear hW1)
   | ((with_reducible apply Ka2); exact HSL.out _; exact rfl; exact rfl; exact rfl; exact rfl; clear HSL)
   | ((with_reducible apply Kac); exact HST1.out; exact rfl; exact rfl; clear HST1; generalize hW2 : World.setCell _ _ _ = W2 at *; clear hW2)
   | (go_at_call 74
      (
       refine HN.out.mono ?_
       rintro e W3 ⟨v3, rfl, rfl, hD, hT⟩
       replace hD : DSt 40 w W3 q l3 b3 := hD
       have hx3 := HX2.out.step hT
       have hx4 := hx3.set 3 (.string (strB n))
       simp only [List.setIfInBounds_toArray, List.set_cons_zero, List.set_cons_succ] at hx4
       have HSP := yh (put_str (s := strB n) (Kab (o := 3) hx3.p3 rfl) (Kaq (o := 3) hx3.p3))
       have g1 := vfin (v := (V.mk 3 false 0 n [] [])) hx4 (hx3.setD hD 3 _) (Kbx _ _ _ _ _ _)
       have HL5 := yh g1.1
       have HS4 := yh g1.2.1
       have HLD := yh g1.2.2.1
       have HF := yh (g1.2.2.2)
       clear g1
       clear hD hT hx3 hx4))
   | ((with_reducible apply Kbv); exact HCV.out _; exact rfl)
   | ((with_reducible apply Kac); exact HSP.out; exact rfl; exact rfl; clear HSP)
   | ((with_reducible apply Kal); exact HL5.out; exact rfl)
   | ((with_reducible apply Kac); exact HS4.out; exact rfl; exact rfl))
  refine bodyPost_ret (Kai rfl _ _ ⟨W.heap.size, 0, none⟩ _ rfl HLD.out) rfl ?_
  exact HF.out _ (by first | rfl | simp)
 ·obtain ⟨bb, oo, c, p', c', zl, r0, r1, b0, hbyw, r01, hzz, hst0, hst1, hsl, hx2, hd2⟩ := dv_byte (K := 6) h hlen (by rw [hc0] <;> rfl)
  have b02 := Kab (o := 0) hx2.p3 rfl
  have HZ := yh hzz
  have HST0 := yh hst0
  have HST1 := yh hst1
  have HSL := yh hsl
  have HX2 := yh hx2
  have HD2 := yh hd2
  clear h hzz hst0 hst1 hsl hx2 hd2
  rw [if_neg (by decide)]
  rw [if_neg (by decide)]
  rw [if_neg (by decide)]
  rw [if_neg (by decide)]
  rw [if_neg (by decide)]
  rw [if_neg (by decide)]
  rw [if_pos (by decide)]
  unfold Kdv
  have hnl := Kck.rng (l.drop 1, false)
  have hN := Kdy HD2.out
  generalize docN (l.drop 1, false) = r at *
  obtain ⟨n, l3, b3⟩ := r
  have HN := yh hN
  have hn64 : n < 18446744073709551616 := hnl
  have HCV := yh (fun W' : World => Kc8 hn64 W')
  clear hnl
  clear hN h4 h5
  go_enter Tryz.func24, Tryz.ntmps24
  go_wp2_with (first
   | ((with_reducible apply Kac); exact HZ.out; exact rfl; exact rfl; clear HZ)
   | ((with_reducible apply Kac); exact HST0.out; exact rfl; exact rfl; clear HST0; generalize hW1 : World.setCell _ _ _ = W1 at *; clear hW1)
   | ((with_reducible apply Ka2); exact HSL.out _; exact rfl; exact rfl; exact rfl; exact rfl; clear HSL)
   | ((with_reducible apply Kac); exact HST1.out; exact rfl; exact rfl; clear HST1; generalize hW2 : World.setCell _ _ _ = W2 at *; clear hW2)
   | (go_at_call 60
      (
       refine HN.out.mono ?_
       rintro e W3 ⟨v3, rfl, rfl, hD, hT⟩
       replace hD : DSt 40 w W3 q l3 b3 := hD
       have hx3 := HX2.out.step hT
       have hx4 := hx3.set 2 (.int .i64 (toI n))
       simp only [List.setIfInBounds_toArray, List.set_cons_zero, List.set_cons_succ] at hx4
       have HSP := yh (Kcd (n := toI n) (Kab (o := 2) hx3.p3 rfl) (Kaq (o := 2) hx3.p3))
       have g1 := vfin (v := (V.mk 6 false (toI n) [] [] [])) hx4 (hx3.setD hD 2 _) (Kbx _ _ _ _ _ _)
       have HL5 := yh g1.1
       have HS4 := yh g1.2.1
       have HLD := yh g1.2.2.1
       have HF := yh (g1.2.2.2)
       clear g1
       clear hD hT hx3 hx4))
   | ((with_reducible apply Kbv); exact HCV.out _; exact rfl)
   | ((with_reducible apply Kac); exact HSP.out; exact rfl; exact rfl; clear HSP)
   | ((with_reducible apply Kal); exact HL5.out; exact rfl)
   | ((with_reducible apply Kac); exact HS4.out; exact rfl; exact rfl))
  refine bodyPost_ret (Kai rfl _ _ ⟨W.heap.size, 0, none⟩ _ rfl HLD.out) rfl ?_
  exact HF.out _ (by first | rfl | simp)
 ·obtain ⟨bb, oo, c, p', c', zl, r0, r1, b0, hbyw, r01, hzz, hst0, hst1, hsl, hx2, hd2⟩ := dv_byte (K := 7) h hlen (by rw [hc0] <;> rfl)
  have b02 := Kab (o := 0) hx2.p3 rfl
  have HZ := yh hzz
  have HST0 := yh hst0
  have HST1 := yh hst1
  have HSL := yh hsl
  have HX2 := yh hx2
  have HD2 := yh hd2
  clear h hzz hst0 hst1 hsl hx2 hd2
  rw [if_neg (by decide)]
  rw [if_neg (by decide)]
  rw [if_neg (by decide)]
  rw [if_neg (by decide)]
  rw [if_neg (by decide)]
  rw [if_neg (by decide)]
  rw [if_pos (by decide)]
  unfold Kdv
  have hnl := Kck.rng (l.drop 1, false)
  have hN := Kdy HD2.out
  generalize docN (l.drop 1, false) = r at *
  obtain ⟨n, l3, b3⟩ := r
  have HN := yh hN
  have hn64 : n < 18446744073709551616 := hnl
  have HCV := yh (fun W' : World => Kc8 hn64 W')
  clear hnl
  clear hN h4 h5
  go_enter Tryz.func24, Tryz.ntmps24
  go_wp2_with (first
   | ((with_reducible apply Kac); exact HZ.out; exact rfl; exact rfl; clear HZ)
   | ((with_reducible apply Kac); exact HST0.out; exact rfl; exact rfl; clear HST0; generalize hW1 : World.setCell _ _ _ = W1 at *; clear hW1)
   | ((with_reducible apply Ka2); exact HSL.out _; exact rfl; exact rfl; exact rfl; exact rfl; clear HSL)
   | ((with_reducible apply Kac); exact HST1.out; exact rfl; exact rfl; clear HST1; generalize hW2 : World.setCell _ _ _ = W2 at *; clear hW2)
   | (go_at_call 60
      (
       refine HN.out.mono ?_
       rintro e W3 ⟨v3, rfl, rfl, hD, hT⟩
       replace hD : DSt 40 w W3 q l3 b3 := hD
       have hx3 := HX2.out.step hT
       have hx4 := hx3.set 2 (.int .i64 (toI n))
       simp only [List.setIfInBounds_toArray, List.set_cons_zero, List.set_cons_succ] at hx4
       have HSP := yh (Kcd (n := toI n) (Kab (o := 2) hx3.p3 rfl) (Kaq (o := 2) hx3.p3))
       have g1 := vfin (v := (V.mk 7 false (toI n) [] [] [])) hx4 (hx3.setD hD 2 _) (Kbx _ _ _ _ _ _)
       have HL5 := yh g1.1
       have HS4 := yh g1.2.1
       have HLD := yh g1.2.2.1
       have HF := yh (g1.2.2.2)
       clear g1
       clear hD hT hx3 hx4))
   | ((with_reducible apply Kbv); exact HCV.out _; exact rfl)
   | ((with_reducible apply Kac); exact HSP.out; exact rfl; exact rfl; clear HSP)
   | ((with_reducible apply Kal); exact HL5.out; exact rfl)
   | ((with_reducible apply Kac); exact HS4.out; exact rfl; exact rfl))
  refine bodyPost_ret (Kai rfl _ _ ⟨W.heap.size, 0, none⟩ _ rfl HLD.out) rfl ?_
  exact HF.out _ (by first | rfl | simp)
 ·obtain ⟨bb, oo, c, p', c', zl, r0, r1, b0, hbyw, r01, hzz, hst0, hst1, hsl, hx2, hd2⟩ := dv_byte (K := (c0 : Int)) h hlen (by rw [hc0] <;> rfl)
  have b02 := Kab (o := 0) hx2.p3 rfl
  have HZ := yh hzz
  have HST0 := yh hst0
  have HST1 := yh hst1
  have HSL := yh hsl
  have HX2 := yh hx2
  have HD2 := yh hd2
  clear h hzz hst0 hst1 hsl hx2 hd2
  rw [if_neg (by omega), if_neg (by omega), if_neg (by omega), if_neg (by omega), if_neg (by omega), if_neg (by omega), if_neg (by omega)]
  have f0 : ((c0 : Int) == 0) = false := by rw [beq_eq_false_iff_ne]; omega
  have f1 : ((c0 : Int) == 1) = false := by rw [beq_eq_false_iff_ne]; omega
  have f2 : ((c0 : Int) == 2) = false := by rw [beq_eq_false_iff_ne]; omega
  have f3 : ((c0 : Int) == 3) = false := by rw [beq_eq_false_iff_ne]; omega
  have f4 : ((c0 : Int) == 4) = false := by rw [beq_eq_false_iff_ne]; omega
  have f5 : ((c0 : Int) == 5) = false := by rw [beq_eq_false_iff_ne]; omega
  have f6 : ((c0 : Int) == 6) = false := by rw [beq_eq_false_iff_ne]; omega
  have f7 : ((c0 : Int) == 7) = false := by rw [beq_eq_false_iff_ne]; omega
  have hc256 : (c0 : Int) < 256 := by omega
  have hw1 : IntKind.i64.wrap (c0 : Int) = (c0 : Int) := by simp only [IntKind.wrap, IntKind.signed, IntKind.bits]; simp; omega
  have hw2 : wrap64 (c0 : Int) = (c0 : Int) := by unfold wrap64; omega
  clear h4 h5 hc8 hcl
  obtain ⟨pz, cz, m1, m2⟩ := HD2.out.box
  have r5 := Kab (o := 1) m1 rfl
  have HSQ := yh (Kcm (n := true) r5 (Kaq (o := 1) m1))
  have hD5 := HD2.out.set true
  have hx5 := HX2.out.step hD5.2
  have g1 := vfin (v := (V.mk (c0 : Int) false 0 [] [] [])) hx5 hD5.1 (Kbx _ _ _ _ _ _)
  have HL5 := yh g1.1
  have HS4 := yh g1.2.1
  have HLD := yh g1.2.2.1
  have HF := yh (g1.2.2.2)
  clear g1
  clear hD5 hx5 m1 m2
  go_enter Tryz.func24, Tryz.ntmps24
  go_wp2_with (first
   | ((with_reducible apply Kac); exact HZ.out; exact rfl; exact rfl; clear HZ)
   | ((with_reducible apply Kac); exact HST0.out; exact rfl; exact rfl; clear HST0; generalize hW1 : World.setCell _ _ _ = W1 at *; clear hW1)
   | ((with_reducible apply Ka2); exact HSL.out _; exact rfl; exact rfl; exact rfl; exact rfl; clear HSL)
   | ((with_reducible apply Kac); exact HST1.out; exact rfl; exact rfl; clear HST1; generalize hW2 : World.setCell _ _ _ = W2 at *; clear hW2)
   | ((with_reducible apply Kac); exact HSQ.out; exact rfl; exact rfl; clear HSQ)
   | ((with_reducible apply Kal); exact HL5.out; exact rfl)
   | ((with_reducible apply Kac); exact HS4.out; exact rfl; exact rfl))
  refine bodyPost_ret (Kai rfl _ _ ⟨W.heap.size, 0, none⟩ _ rfl HLD.out) rfl ?_
  exact HF.out _ (by first | rfl | simp)
theorem own_list {W : World} {n B : Nat} {ov : Value} {ls : List V} (hB : B < n) (h : GIn VOwn 48 6 (fun b => n ≤ b) W ov ls) : VOwn W (fun b => B < b) (.mk 4 false 0 [] [] ls) #[.int .i64 4, .bool false, .int .i64 0, .string ⟨#[]⟩, .slice none 0 0, ov] := by
 have h1 : GOwn (fun w P (a : V) x => VOwn w P (id a) x) 48 6 W (fun b => B < b) ov ls := (h.own Kdl).imp Kdl fun b _ hb => by omega
 have h2 := h1.low
 rw [List.map_id] at h2
 exact VOwn.mk' (v := .mk 4 false 0 [] [] ls) ⟨⟨by simp [V.keys], .inl ⟨rfl, rfl⟩⟩, fun g hg => by simp [Value.ownBlock] at hg⟩ h2
theorem dval_list {w W : World} {q d : Nat} {l : List UInt8} (hv : DValR w d) (h : DSt 40 w W q l false) (hd : d + 1 ≤ 64) (hll : l.length ≤ 1000000) (hlen : 0 < l.length) (hc0 : (l[0]).toNat = 4) : Calls Tryz.prog 24 #[.pointer (some ⟨q, 0, none⟩), .int .i64 ((d + 1 : Nat) : Int)] W (Docs w W q (Ka9 (d + 1) (l, false)) (okVal W)) := by
 have hlp : ((l.length : Int) == 0) = false := by rw [beq_eq_false_iff_ne]; omega
 have hdp : ¬ ((d + 1 : Nat) : Int) ≤ 0 := by omega
 have hdb : decide (((d + 1 : Nat) : Int) ≤ 0) = false := decide_eq_false hdp
 have hdm : ((d + 1 : Nat) : Int) - 1 = (d : Int) := by omega
 have hds : d ≤ 64 := by omega
 rw [docVal_cons hlen, if_neg (by rw [hc0]; decide), if_neg (by rw [hc0]; decide), if_neg (by rw [hc0]; decide), if_neg (by rw [hc0]; decide), if_pos hc0]
 have HV := yh hv
 clear hv
 generalize hdd : ((d + 1 : Nat) : Int) = di at *
 clear hdd hd
 have hz : ∀ (X : World), (storeVar 48 ⟨X.heap.size, 0, none⟩ (.agg #[.int .i64 0, .bool false, .int .i64 0, .string ⟨#[]⟩, .slice none 0 0, .slice none 0 0])).run Tryz.prog (X.alloc (.cells #[.int .i64 0, .bool false, .int .i64 0, .string ⟨#[]⟩, .slice none 0 0, .slice none 0 0] 48)) = .ok () (X.alloc (.cells #[.int .i64 0, .bool false, .int .i64 0, .string ⟨#[]⟩, .slice none 0 0, .slice none 0 0] 48)) := fun X => Kbk.fresh rfl (by simp [Value.oneCell']) _ rfl
 have hb : Below W.heap.size W ((W.alloc (.cells #[.int .i64 0, .bool false, .int .i64 0, .string ⟨#[]⟩, .slice none 0 0, .slice none 0 0] 48)).alloc (.cells #[.int .i64 0, .bool false, .int .i64 0, .string ⟨#[]⟩, .slice none 0 0, .slice none 0 0] 48)) := (Kad _).alloc (by simp) _
 have h0 : BX 48 W q #[.int .i64 0, .bool false, .int .i64 0, .string ⟨#[]⟩, .slice none 0 0, .slice none 0 0] (W.alloc (.cells #[.int .i64 0, .bool false, .int .i64 0, .string ⟨#[]⟩, .slice none 0 0, .slice none 0 0] 48)).heap.size #[.int .i64 0, .bool false, .int .i64 0, .string ⟨#[]⟩, .slice none 0 0, .slice none 0 0] ((W.alloc (.cells #[.int .i64 0, .bool false, .int .i64 0, .string ⟨#[]⟩, .slice none 0 0, .slice none 0 0] 48)).alloc (.cells #[.int .i64 0, .bool false, .int .i64 0, .string ⟨#[]⟩, .slice none 0 0, .slice none 0 0] 48)) := BX.start h.lt (RTo.refl _ _)
 have d0 := h.below hb
 have hzz := hz (W.alloc (.cells #[.int .i64 0, .bool false, .int .i64 0, .string ⟨#[]⟩, .slice none 0 0, .slice none 0 0] 48))
 simp only [World.size_alloc] at h0 hzz
 have d1 := h0.setD d0 0 (.int .i64 4)
 obtain ⟨p, c, q1, q2⟩ := d0.box
 obtain ⟨p1, c1, p', c', k1, k2, k3, k4, k5⟩ := d1.rest (k := 1) hlen
 have hqB : q ≠ W.heap.size + 1 := by have := h0.lo; have := h0.ql; omega
 have q3 : (((W.alloc (.cells #[.int .i64 0, .bool false, .int .i64 0, .string ⟨#[]⟩, .slice none 0 0, .slice none 0 0] 48)).alloc (.cells #[.int .i64 0, .bool false, .int .i64 0, .string ⟨#[]⟩, .slice none 0 0, .slice none 0 0] 48)).setCell ⟨W.heap.size + 1, 0, none⟩ (.int .i64 4)).heap[q]? = some (.cells #[.slice p l.length c, .bool false] 40 (0, 0)) := (Below.heap_setCell _ ⟨W.heap.size + 1, 0, none⟩ _ q hqB).trans q1
 rw [q3] at k1
 cases k1
 have zl := Kd5 q2
 have r0 := Kab (o := 0) q1 rfl
 have r1 := Kab (o := 1) q1 rfl
 have b0 := Kab (o := 0) h0.p3 rfl
 have hst0 := put_kindD b0 (Kaq (o := 0) h0.p3) (n := 4)
 obtain ⟨bb, oo, rfl, hbyte⟩ := rd_first q2 hlen
 have hbyw : ((W.alloc (.cells #[.int .i64 0, .bool false, .int .i64 0, .string ⟨#[]⟩, .slice none 0 0, .slice none 0 0] 48)).alloc (.cells #[.int .i64 0, .bool false, .int .i64 0, .string ⟨#[]⟩, .slice none 0 0, .slice none 0 0] 48)).cell? ⟨bb, oo, none⟩ = some (.int .u8 4) := by rw [hc0] at hbyte; exact Kag d0.b (ltOf hbyte) hbyte
 clear hbyte
 have r01 := Kab (o := 0) q3 rfl
 have hst1 := Kbn (p := p') (n := l.length - 1) (c := c') r01 (Kaq (o := 0) q3)
 have hx1 : BX 48 W q #[.int .i64 0, .bool false, .int .i64 0, .string ⟨#[]⟩, .slice none 0 0, .slice none 0 0] (W.heap.size + 1) #[.int .i64 4, .bool false, .int .i64 0, .string ⟨#[]⟩, .slice none 0 0, .slice none 0 0] (((W.alloc (.cells #[.int .i64 0, .bool false, .int .i64 0, .string ⟨#[]⟩, .slice none 0 0, .slice none 0 0] 48)).alloc (.cells #[.int .i64 0, .bool false, .int .i64 0, .string ⟨#[]⟩, .slice none 0 0, .slice none 0 0] 48)).setCell ⟨W.heap.size + 1, 0, none⟩ (.int .i64 4)) := by simpa using h0.set 0 (.int .i64 4)
 have hx2 := hx1.step k5
 have b02 := Kab (o := 0) hx2.p3 rfl
 have hsl := fun W' => (Kas Tryz.underlying26 _ _ _ _ W').trans (k3 W')
 have HZ := yh hzz
 have HST0 := yh hst0
 have HST1 := yh hst1
 have HSL := yh hsl
 have HX2 := yh hx2
 have HD2 := yh k4
 clear h hz hb h0 d0 hzz d1 q1 q2 k2 k3 k4 k5 q3 hqB hst0 hst1 hx1 hx2 hsl
 have hN := Kd1 HD2.out
 have hcl := Ke4 (l.drop 1, false)
 have hcs := Kcs.less (l.drop 1, false)
 unfold Kbg
 generalize Ka3 (l.drop 1, false) = r at *
 obtain ⟨n, l3, b3⟩ := r
 have hn1 : n ≤ 1000000 := by simp only [List.length_drop] at hcl hcs; omega
 have hl3 : l3.length ≤ l.length := by simp only [List.length_drop] at hcs; omega
 have HN := yh hN
 clear hN hcl hcs hc0
 go_enter Tryz.func24, Tryz.ntmps24
 go_wp2_with (first
  | ((with_reducible apply Kac); exact HZ.out; exact rfl; exact rfl; clear HZ)
  | ((with_reducible apply Kac); exact HST0.out; exact rfl; exact rfl; clear HST0; generalize hW1 : World.setCell _ _ _ = W1 at *; clear hW1)
  | ((with_reducible apply Ka2); exact HSL.out _; exact rfl; exact rfl; exact rfl; exact rfl; clear HSL)
  | ((with_reducible apply Kac); exact HST1.out; exact rfl; exact rfl; clear HST1; generalize hW2 : World.setCell _ _ _ = W2 at *; clear hW2)
  | (go_at_call 57
     (
      refine HN.out.mono ?_
      rintro e W3 ⟨v3, rfl, rfl, hD, hT⟩
      replace hD : DSt 40 w W3 q l3 b3 := hD
      have HX3 := yh (And.intro (HX2.out.step hT) hD)
      clear hD hT HN HX2 HD2)))
 go_loopw [8] (fun i wr => ∃ j : Nat, j ≤ n ∧ i = .int .i64 (j : Int) ∧ Hid (∃ (ls : List V) (l' : List UInt8) (b' : Bool) (ov : Value), ls.length = j ∧ LoopAt (Ka9 d) n (l3, b3) ls (l', b') ∧ l'.length ≤ l.length ∧ DX 48 w W q #[.int .i64 0, .bool false, .int .i64 0, .string ⟨#[]⟩, .slice none 0 0, .slice none 0 0] (W.heap.size + 1) #[.int .i64 4, .bool false, .int .i64 0, .string ⟨#[]⟩, .slice none 0 0, ov] W3 l' b' wr ∧ GIn VOwn 48 6 (fun b => W3.heap.size ≤ b) wr ov ls)) (fun i _ => n - (intOf i).toNat)
 case atStart => exact ⟨0, Nat.zero_le _, rfl, yh ⟨[], l3, b3, .slice none 0 0, rfl, LoopAt.start _ _ _, hl3, DX.start HX3.out.1 HX3.out.2, GIn.start⟩⟩
 case round =>
  obtain ⟨j, hj, rfl, HI⟩ := hrel
  obtain ⟨ls, l', b', ov, hlj, hloop, hl', hdx, hg⟩ := HI.out
  clear HI
  obtain ⟨po, co, rfl⟩ := hg.slice
  obtain ⟨pz, cz, m1, m2⟩ := hdx.ds.box
  have r1 := Kab (o := 1) m1 rfl
  have p0 := Kab (o := 0) hdx.bx.p3 rfl
  by_cases hlt : j < n
  ·have hji : (j : Int) < (n : Int) := by omega
   cases b'
   ·have hstep := hloop.step (by omega) rfl
    have hcall := HV.out wr q l' false hdx.ds (by omega)
    have hless := (ds_val d).less (l', false)
    generalize Ka9 d (l', false) = r4 at *
    obtain ⟨v4, l4, b4⟩ := r4
    have hless' : l4.length ≤ l.length := Nat.le_trans hless hl'
    have hm : ls.length ≤ 1000000 := by omega
    have hlt1 : j + 1 ≤ n := hlt
    have HC := yh hcall
    have HQ := yh (And.intro hdx (And.intro hg (And.intro hstep (And.intro hless' hlj))))
    clear hcall hdx hg hstep hless hloop m1 m2 hlj
    go_wp2_with (first
     | (go_at_call 24
        (
         refine HC.out.mono ?_
         rintro e W4 ⟨v, rfl, ⟨cs, rfl, hown⟩, hD, hT⟩
         replace hD : DSt 40 w W4 q l4 b4 := hD
         replace hown : VOwn W4 (fun b => wr.heap.size ≤ b) v4 cs := hown
         obtain ⟨hdx, hg, hstep, hless', hlj⟩ := HQ.out
         have hs := hown.size6
         have hones := hown.ones
         have hdx4 := hdx.step hT hD
         have hbn := Kad (w := W4) (.cells cs 48)
         have hdx5 := hdx4.below hbn
         have hqW : q < W3.heap.size := by have := hdx.bx.ql; have := hdx.bx.lo; have := hdx.lo; omega
         have hw3 := hdx.sz
         have hw4 := hT.size
         have hown5 : VOwn (W4.alloc (.cells cs 48)) (fun b => wr.heap.size ≤ b ∧ W3.heap.size ≤ b) v4 cs := (hown.keep fun b _ hb => hbn.block b hb).imp fun b _ hb => ⟨hb, by omega⟩
         obtain ⟨p6, c6, W6, a1, a2, a3, hdx6, hg6, _, _⟩ := hdx5.push (i := 5) (P := fun b => W3.heap.size ≤ b) Kdl gt_val (fun b h => h) (fun b h => by simp only [World.size_alloc] at h; omega) hg (by simp only [World.size_alloc]; omega) (fun b hp hb => (hbn.block b (by omega)).trans (hT.keep b hb (by omega))) rfl hown5 hm 46
         have hbs := Kam (P := Tryz.prog) (w := W4.alloc (.cells cs 48)) (v := .agg cs) Tryz.underlying46 Tryz.sizeOf48 Tryz.zeroValue48 hs (by omega) (by omega)
         have p5 := Kab (o := 5) hdx5.bx.p3 rfl
         have HS := yh (StT.fresh Kbk hs hones (W := W4))
         have HL := yh (StT.get Kbk hs (heap_alloc_new W4 (.cells cs 48)))
         have HB := yh hbs
         have HA := yh a1
         have HST := yh (put_vas (p := p6) (n := ls.length + 1) (c := c6) a2 a3)
         have HR := yh (And.intro hdx6 hg6)
         clear hown hD hT hdx hg hstep hlj hs hones hdx4 hbn hdx5 hqW hw3 hw4 hown5 a1 a2 a3 hdx6 hg6 hbs HC))
     | ((with_reducible apply Kac); exact HS.out _ rfl; exact rfl; exact rfl; clear HS)
     | ((with_reducible apply Kal); exact HL.out; exact rfl; clear HL)
     | ((with_reducible apply Kci); exact HB.out; exact rfl; clear HB)
     | ((with_reducible apply Kar); exact HA.out; exact rfl; exact rfl; clear HA)
     | ((with_reducible apply Kac); exact HST.out; exact rfl; exact rfl; clear HST))
    go_roundw
    case rel => exact ⟨j + 1, hlt1, by go_num, yh ⟨ls ++ [v4], l4, b4, _, by rw [List.length_append]; simp only [List.length_cons, List.length_nil]; have := HQ.out.2.2.2.2; omega, HQ.out.2.2.1, HQ.out.2.2.2.1, HR.out.1, HR.out.2⟩⟩
    case measure => simp [intOf]; omega
   ·have hstop := hloop.stop (.inl rfl)
    have g1 := vfin (v := V.mk 4 false 0 [] [] ls) hdx.bx hdx.ds (own_list (by have := hdx.lo; omega) hg)
    have HL5 := yh g1.1
    have HS4 := yh g1.2.1
    have HLD := yh g1.2.2.1
    have HF := yh (g1.2.2.2)
    have HDL := yh hstop
    clear g1 hdx hloop hg hstop m1 m2 hlj
    go_wp2_with (first
     | ((with_reducible apply Kal); exact HL5.out; exact rfl)
     | ((with_reducible apply Kac); exact HS4.out; exact rfl; exact rfl))
    refine bodyPost_ret (Kai rfl _ _ ⟨W.heap.size, 0, none⟩ _ rfl HLD.out) rfl ?_
    exact HF.out _ (by rw [HDL.out])
  ·have hji : ¬ (j : Int) < (n : Int) := by omega
   have hstop := hloop.stop (.inr (by omega))
   have g1 := vfin (v := V.mk 4 false 0 [] [] ls) hdx.bx hdx.ds (own_list (by have := hdx.lo; omega) hg)
   have HL5 := yh g1.1
   have HS4 := yh g1.2.1
   have HLD := yh g1.2.2.1
   have HF := yh (g1.2.2.2)
   have HDL := yh hstop
   clear g1 hdx hloop hg hstop m1 m2 hlj
   go_wp2_with (first
    | ((with_reducible apply Kal); exact HL5.out; exact rfl)
    | ((with_reducible apply Kac); exact HS4.out; exact rfl; exact rfl))
   refine bodyPost_ret (Kai rfl _ _ ⟨W.heap.size, 0, none⟩ _ rfl HLD.out) rfl ?_
   exact HF.out _ (by rw [HDL.out])
theorem str_only {W : World} {P : Nat → Prop} {kv : Value} {ks : List (List UInt8)} (h : GIn SOwn 9 1 P W kv ks) : GIn SOwn 9 1 (fun b => kv.ownBlock = some b) W kv ks := by
 obtain ⟨xs, h1, h2⟩ := h
 exact ⟨xs, ⟨h1.1, fun g hg => hg⟩, h2.1, fun j v hj => by obtain ⟨x, a, b⟩ := h2.2 j v hj; exact ⟨x, a, b⟩⟩
theorem str_flat {W : World} {P : Nat → Prop} {ks : List (List UInt8)} {xs : List (Array Value)} (h : GOwns SOwn W P ks xs) : xs.flatMap Array.toList = ks.map strV := by
 have e : xs = ks.map fun s => #[strV s] := by
  refine List.ext_getElem? fun j => ?_
  by_cases hj : j < ks.length
  ·obtain ⟨x, a, b⟩ := h.2 j ks[j] (List.getElem?_eq_getElem hj)
   rw [a, List.getElem?_map, List.getElem?_eq_getElem hj]
   exact congrArg some b
  ·rw [List.getElem?_eq_none (by rw [h.1]; omega), List.getElem?_eq_none (by rw [List.length_map]; omega)]
 rw [e, List.flatMap_map]
 clear e h
 induction ks with
 | nil => rfl
 | cons a r ih => rw [List.flatMap_cons, ih]; rfl
theorem own_map {W : World} {n B : Nat} {P : Nat → Prop} {kv ov : Value} {ks : List (List UInt8)} {ls : List V} (hB : B < n) (hk : GIn SOwn 9 1 (fun b => n ≤ b) W kv ks) (h : GIn VOwn 48 6 (fun b => n ≤ b ∧ P b) W ov ls) : VOwn W (fun b => B < b) (.mk 5 false 0 [] ks ls) #[.int .i64 5, .bool false, .int .i64 0, .string ⟨#[]⟩, kv, ov] := by
 have h1 : GOwn (fun w P (a : V) x => VOwn w P (id a) x) 48 6 W (fun b => B < b) ov ls := (h.own Kdl).imp Kdl fun b _ hb => by have := hb.1; omega
 have h2 := h1.low
 rw [List.map_id] at h2
 obtain ⟨xs, k1, k2⟩ := hk
 rw [str_flat k2] at k1
 exact VOwn.mk' (v := .mk 5 false 0 [] ks ls) ⟨k1.1, fun g hg => by have := k1.2 g hg; omega⟩ h2
section
variable {w W wr W4 W8 Wb : World} {q B : Nat} {z : Array Value} {kv ov : Value} {ks : List (List UInt8)} {ls : List V} {l l4 : List UInt8} {bad b4 : Bool}
theorem dm_key (hdx : DX 48 w W q z B #[.int .i64 5, .bool false, .int .i64 0, .string ⟨#[]⟩, kv, ov] Wb l bad wr) (hk : GIn SOwn 9 1 (fun b => Wb.heap.size ≤ b) wr kv ks) (hg : GIn VOwn 48 6 (fun b => Wb.heap.size ≤ b ∧ kv.ownBlock ≠ some b) wr ov ls) (hT : RTo q wr W4) (hD : DSt 40 w W4 q l4 b4) (hm : ks.length ≤ 1000000) (s : List UInt8) :
 ∃ p c W6 W7, (Builtin.append_ #[45, 45] 45 #[kv, .slice (some ⟨W4.heap.size, 0, none⟩) 1 1]).run Tryz.prog (W4.alloc (.cells #[.string (strB s)] 9)) = .ok (.slice p (ks.length + 1) c) W6 ∧ W6.cell? ⟨B, 4, none⟩ = some kv ∧ (storeVar 45 ⟨B, 4, none⟩ (.slice p (ks.length + 1) c)).run Tryz.prog W6 = .ok () W7 ∧
  DX 48 w W q z B #[.int .i64 5, .bool false, .int .i64 0, .string ⟨#[]⟩, (.slice p (ks.length + 1) c), ov] Wb l4 b4 W7 ∧ GIn SOwn 9 1 (fun b => Wb.heap.size ≤ b) W7 (.slice p (ks.length + 1) c) (ks ++ [s]) ∧ GIn VOwn 48 6 (fun b => Wb.heap.size ≤ b ∧ (Value.slice p (ks.length + 1) c).ownBlock ≠ some b) W7 ov ls := by
 have hq : q < Wb.heap.size := by have := hdx.bx.ql; have := hdx.bx.lo; have := hdx.lo; omega
 have hs := hT.size
 have hw := hdx.sz
 have hlo := hdx.lo
 have hdx4 := hdx.step hT hD
 obtain ⟨p, c, W6, a1, a2, a3, hdx6, hk6, hkeep, hnew⟩ := hdx4.push (i := 4) (P := fun b => Wb.heap.size ≤ b) (x := #[.string (strB s)]) (v := s) el_str gt_str (fun b h => h) (fun b h => by omega) hk hs (fun b hp hb => hT.keep b hb (by omega)) rfl rfl hm 45
 refine ⟨p, c, W6, _, a1, a2, put_strs a2 a3, by simpa using hdx6, hk6, hg.kept Kdl (fun b hb hlt => (hkeep b (by omega) (by have := hb.1; omega) hb.2).trans (hT.keep b hlt (by have := hb.1; omega))) fun b hlt hb => ⟨hb.1, fun e => ?_⟩⟩
 rcases hnew b e with e | e
 ·exact hb.2 e
 ·omega
theorem dm_val {cs : Array Value} {v : V} (hdx : DX 48 w W q z B #[.int .i64 5, .bool false, .int .i64 0, .string ⟨#[]⟩, kv, ov] Wb l bad wr) (hk : GIn SOwn 9 1 (fun b => Wb.heap.size ≤ b) wr kv ks) (hg : GIn VOwn 48 6 (fun b => Wb.heap.size ≤ b ∧ kv.ownBlock ≠ some b) wr ov ls) (hT : RTo q wr W4) (hD : DSt 40 w W4 q l4 b4) (hown : VOwn W4 (fun b => wr.heap.size ≤ b) v cs) (hm : ls.length ≤ 1000000) :
 ∃ p c W6 W7, (Builtin.append_ #[46, 46] 46 #[ov, .slice (some ⟨W4.heap.size + 1, 0, none⟩) 1 1]).run Tryz.prog ((W4.alloc (.cells cs 48)).alloc (.cells cs 48)) = .ok (.slice p (ls.length + 1) c) W6 ∧ (W4.alloc (.cells cs 48)).cell? ⟨B, 5, none⟩ = some ov ∧ (storeVar 46 ⟨B, 5, none⟩ (.slice p (ls.length + 1) c)).run Tryz.prog W6 = .ok () W7 ∧
  DX 48 w W q z B #[.int .i64 5, .bool false, .int .i64 0, .string ⟨#[]⟩, kv, (.slice p (ls.length + 1) c)] Wb l4 b4 W7 ∧ GIn SOwn 9 1 (fun b => Wb.heap.size ≤ b) W7 kv ks ∧ GIn VOwn 48 6 (fun b => Wb.heap.size ≤ b ∧ kv.ownBlock ≠ some b) W7 (.slice p (ls.length + 1) c) (ls ++ [v]) := by
 have hq : q < Wb.heap.size := by have := hdx.bx.ql; have := hdx.bx.lo; have := hdx.lo; omega
 have hs := hT.size
 have hw := hdx.sz
 have hlo := hdx.lo
 have hbn := Kad (w := W4) (.cells cs 48)
 have hs1 : (W4.alloc (.cells cs 48)).heap.size = W4.heap.size + 1 := by simp
 have hdx4 := hdx.step hT hD
 have hdx5 := hdx4.below hbn
 have hown5 : VOwn (W4.alloc (.cells cs 48)) (fun b => wr.heap.size ≤ b ∧ (Wb.heap.size ≤ b ∧ kv.ownBlock ≠ some b)) v cs := (hown.keep fun b _ hb => hbn.block b hb).imp fun b _ hb => ⟨hb, by omega, fun e => by have := (hk.lt b e).1; omega⟩
 obtain ⟨p, c, W6, a1, a2, a3, hdx6, hg6, hkeep, hnew⟩ := hdx5.push (i := 5) (P := fun b => Wb.heap.size ≤ b ∧ kv.ownBlock ≠ some b) Kdl gt_val (fun b h => h.1) (fun b h => ⟨by omega, fun e => by have := (hk.lt b e).1; omega⟩) hg (by omega) (fun b hp hb => (hbn.block b (by omega)).trans (hT.keep b hb (by have := hp.1; omega))) rfl hown5 hm 46
 rw [hs1] at a1
 refine ⟨p, c, W6, _, a1, Kab (o := 5) hdx5.bx.p3 rfl, put_vas a2 a3, by simpa using hdx6, (str_only hk).kept el_str (fun b hb hlt => ?_) fun b _ hb => (hk.lt b hb).2, hg6⟩
 have hbl := (hk.lt b hb).2
 exact (hkeep b (by omega) (by omega) fun e => (hg.lt b e).2.2 hb).trans ((hbn.block b (by omega)).trans (hT.keep b hlt (by omega)))
end
theorem dval_map {w W : World} {q d : Nat} {l : List UInt8} (hv : DValR w d) (h : DSt 40 w W q l false) (hd : d + 1 ≤ 64) (hll : l.length ≤ 1000000) (hlen : 0 < l.length) (hc0 : (l[0]).toNat = 5) : Calls Tryz.prog 24 #[.pointer (some ⟨q, 0, none⟩), .int .i64 ((d + 1 : Nat) : Int)] W (Docs w W q (Ka9 (d + 1) (l, false)) (okVal W)) := by
 have hlp : ((l.length : Int) == 0) = false := by rw [beq_eq_false_iff_ne]; omega
 have hdp : ¬ ((d + 1 : Nat) : Int) ≤ 0 := by omega
 have hdb : decide (((d + 1 : Nat) : Int) ≤ 0) = false := decide_eq_false hdp
 have hdm : ((d + 1 : Nat) : Int) - 1 = (d : Int) := by omega
 have hds : d ≤ 64 := by omega
 rw [docVal_cons hlen, if_neg (by rw [hc0]; decide), if_neg (by rw [hc0]; decide), if_neg (by rw [hc0]; decide), if_neg (by rw [hc0]; decide), if_neg (by rw [hc0]; decide), if_pos hc0]
 have HV := yh hv
 clear hv
 generalize hdd : ((d + 1 : Nat) : Int) = di at *
 clear hdd hd
 have hz : ∀ (X : World), (storeVar 48 ⟨X.heap.size, 0, none⟩ (.agg #[.int .i64 0, .bool false, .int .i64 0, .string ⟨#[]⟩, .slice none 0 0, .slice none 0 0])).run Tryz.prog (X.alloc (.cells #[.int .i64 0, .bool false, .int .i64 0, .string ⟨#[]⟩, .slice none 0 0, .slice none 0 0] 48)) = .ok () (X.alloc (.cells #[.int .i64 0, .bool false, .int .i64 0, .string ⟨#[]⟩, .slice none 0 0, .slice none 0 0] 48)) := fun X => Kbk.fresh rfl (by simp [Value.oneCell']) _ rfl
 have hb : Below W.heap.size W ((W.alloc (.cells #[.int .i64 0, .bool false, .int .i64 0, .string ⟨#[]⟩, .slice none 0 0, .slice none 0 0] 48)).alloc (.cells #[.int .i64 0, .bool false, .int .i64 0, .string ⟨#[]⟩, .slice none 0 0, .slice none 0 0] 48)) := (Kad _).alloc (by simp) _
 have h0 : BX 48 W q #[.int .i64 0, .bool false, .int .i64 0, .string ⟨#[]⟩, .slice none 0 0, .slice none 0 0] (W.alloc (.cells #[.int .i64 0, .bool false, .int .i64 0, .string ⟨#[]⟩, .slice none 0 0, .slice none 0 0] 48)).heap.size #[.int .i64 0, .bool false, .int .i64 0, .string ⟨#[]⟩, .slice none 0 0, .slice none 0 0] ((W.alloc (.cells #[.int .i64 0, .bool false, .int .i64 0, .string ⟨#[]⟩, .slice none 0 0, .slice none 0 0] 48)).alloc (.cells #[.int .i64 0, .bool false, .int .i64 0, .string ⟨#[]⟩, .slice none 0 0, .slice none 0 0] 48)) := BX.start h.lt (RTo.refl _ _)
 have d0 := h.below hb
 have hzz := hz (W.alloc (.cells #[.int .i64 0, .bool false, .int .i64 0, .string ⟨#[]⟩, .slice none 0 0, .slice none 0 0] 48))
 simp only [World.size_alloc] at h0 hzz
 have d1 := h0.setD d0 0 (.int .i64 5)
 obtain ⟨p, c, q1, q2⟩ := d0.box
 obtain ⟨p1, c1, p', c', k1, k2, k3, k4, k5⟩ := d1.rest (k := 1) hlen
 have hqB : q ≠ W.heap.size + 1 := by have := h0.lo; have := h0.ql; omega
 have q3 : (((W.alloc (.cells #[.int .i64 0, .bool false, .int .i64 0, .string ⟨#[]⟩, .slice none 0 0, .slice none 0 0] 48)).alloc (.cells #[.int .i64 0, .bool false, .int .i64 0, .string ⟨#[]⟩, .slice none 0 0, .slice none 0 0] 48)).setCell ⟨W.heap.size + 1, 0, none⟩ (.int .i64 5)).heap[q]? = some (.cells #[.slice p l.length c, .bool false] 40 (0, 0)) := (Below.heap_setCell _ ⟨W.heap.size + 1, 0, none⟩ _ q hqB).trans q1
 rw [q3] at k1
 cases k1
 have zl := Kd5 q2
 have r0 := Kab (o := 0) q1 rfl
 have r1 := Kab (o := 1) q1 rfl
 have b0 := Kab (o := 0) h0.p3 rfl
 have hst0 := put_kindD b0 (Kaq (o := 0) h0.p3) (n := 5)
 obtain ⟨bb, oo, rfl, hbyte⟩ := rd_first q2 hlen
 have hbyw : ((W.alloc (.cells #[.int .i64 0, .bool false, .int .i64 0, .string ⟨#[]⟩, .slice none 0 0, .slice none 0 0] 48)).alloc (.cells #[.int .i64 0, .bool false, .int .i64 0, .string ⟨#[]⟩, .slice none 0 0, .slice none 0 0] 48)).cell? ⟨bb, oo, none⟩ = some (.int .u8 5) := by rw [hc0] at hbyte; exact Kag d0.b (ltOf hbyte) hbyte
 clear hbyte
 have r01 := Kab (o := 0) q3 rfl
 have hst1 := Kbn (p := p') (n := l.length - 1) (c := c') r01 (Kaq (o := 0) q3)
 have hx1 : BX 48 W q #[.int .i64 0, .bool false, .int .i64 0, .string ⟨#[]⟩, .slice none 0 0, .slice none 0 0] (W.heap.size + 1) #[.int .i64 5, .bool false, .int .i64 0, .string ⟨#[]⟩, .slice none 0 0, .slice none 0 0] (((W.alloc (.cells #[.int .i64 0, .bool false, .int .i64 0, .string ⟨#[]⟩, .slice none 0 0, .slice none 0 0] 48)).alloc (.cells #[.int .i64 0, .bool false, .int .i64 0, .string ⟨#[]⟩, .slice none 0 0, .slice none 0 0] 48)).setCell ⟨W.heap.size + 1, 0, none⟩ (.int .i64 5)) := by simpa using h0.set 0 (.int .i64 5)
 have hx2 := hx1.step k5
 have b02 := Kab (o := 0) hx2.p3 rfl
 have hsl := fun W' => (Kas Tryz.underlying26 _ _ _ _ W').trans (k3 W')
 have HZ := yh hzz
 have HST0 := yh hst0
 have HST1 := yh hst1
 have HSL := yh hsl
 have HX2 := yh hx2
 have HD2 := yh k4
 clear h hz hb h0 d0 hzz d1 q1 q2 k2 k3 k4 k5 q3 hqB hst0 hst1 hx1 hx2 hsl
 have hN := Kd1 HD2.out
 have hcl := Ke4 (l.drop 1, false)
 have hcs := Kcs.less (l.drop 1, false)
 unfold Kbg
 generalize Ka3 (l.drop 1, false) = r at *
 obtain ⟨n, l3, b3⟩ := r
 have hn1 : n ≤ 1000000 := by simp only [List.length_drop] at hcl hcs; omega
 have hl3 : l3.length ≤ l.length := by simp only [List.length_drop] at hcs; omega
 have HN := yh hN
 clear hN hcl hcs hc0
 go_enter Tryz.func24, Tryz.ntmps24
 go_wp2_with (first
  | ((with_reducible apply Kac); exact HZ.out; exact rfl; exact rfl; clear HZ)
  | ((with_reducible apply Kac); exact HST0.out; exact rfl; exact rfl; clear HST0; generalize hW1 : World.setCell _ _ _ = W1 at *; clear hW1)
  | ((with_reducible apply Ka2); exact HSL.out _; exact rfl; exact rfl; exact rfl; exact rfl; clear HSL)
  | ((with_reducible apply Kac); exact HST1.out; exact rfl; exact rfl; clear HST1; generalize hW2 : World.setCell _ _ _ = W2 at *; clear hW2)
  | (go_at_call 57
     (
      refine HN.out.mono ?_
      rintro e W3 ⟨v3, rfl, rfl, hD, hT⟩
      replace hD : DSt 40 w W3 q l3 b3 := hD
      have HX3 := yh (And.intro (HX2.out.step hT) hD)
      clear hD hT HN HX2 HD2)))
 go_loopw [8] (fun i wr => ∃ j : Nat, j ≤ n ∧ i = .int .i64 (j : Int) ∧ Hid (∃ (ps : List (List UInt8 × V)) (l' : List UInt8) (b' : Bool) (kv ov : Value), ps.length = j ∧ LoopAt (Kcr Ka7 (Ka9 d)) n (l3, b3) ps (l', b') ∧ l'.length ≤ l.length ∧ DX 48 w W q #[.int .i64 0, .bool false, .int .i64 0, .string ⟨#[]⟩, .slice none 0 0, .slice none 0 0] (W.heap.size + 1) #[.int .i64 5, .bool false, .int .i64 0, .string ⟨#[]⟩, kv, ov] W3 l' b' wr ∧ GIn SOwn 9 1 (fun b => W3.heap.size ≤ b) wr kv (ps.map Prod.fst) ∧ GIn VOwn 48 6 (fun b => W3.heap.size ≤ b ∧ kv.ownBlock ≠ some b) wr ov (ps.map Prod.snd))) (fun i _ => n - (intOf i).toNat)
 case atStart => exact ⟨0, Nat.zero_le _, rfl, yh ⟨[], l3, b3, .slice none 0 0, .slice none 0 0, rfl, LoopAt.start _ _ _, hl3, DX.start HX3.out.1 HX3.out.2, GIn.start, GIn.start⟩⟩
 case round =>
  obtain ⟨j, hj, rfl, HI⟩ := hrel
  obtain ⟨ps, l', b', kv, ov, hlj, hloop, hl', hdx, hk, hg⟩ := HI.out
  clear HI
  obtain ⟨po, co, rfl⟩ := hg.slice
  obtain ⟨pk, ck, rfl⟩ := hk.slice
  obtain ⟨pz, cz, m1, m2⟩ := hdx.ds.box
  have r1 := Kab (o := 1) m1 rfl
  have p0 := Kab (o := 0) hdx.bx.p3 rfl
  by_cases hlt : j < n
  ·have hji : (j : Int) < (n : Int) := by omega
   cases b'
   ·have hstep := hloop.step (by omega) rfl
    have hless := Kep.less (l', false)
    have hless2 := (ds_val d).less (Ka7 (l', false)).2
    have hsq : Kcr Ka7 (Ka9 d) (l', false) = (((Ka7 (l', false)).1, (Ka9 d (Ka7 (l', false)).2).1), (Ka9 d (Ka7 (l', false)).2).2) := rfl
    rw [hsq] at hstep
    have hm1 : (List.map Prod.fst ps).length ≤ 1000000 := by rw [List.length_map]; omega
    have hm2 : (List.map Prod.snd ps).length ≤ 1000000 := by rw [List.length_map]; omega
    have hlt1 : j + 1 ≤ n := hlt
    have hdxd := hdx.below (Below.refl _ wr).drew
    have hkd : GIn SOwn 9 1 (fun b => W3.heap.size ≤ b) wr.drew (.slice pk (List.map Prod.fst ps).length ck) (ps.map Prod.fst) := hk.kept el_str (fun b _ _ => rfl) (fun b _ h => h)
    have hgd : GIn VOwn 48 6 (fun b => W3.heap.size ≤ b ∧ (Value.slice pk (List.map Prod.fst ps).length ck).ownBlock ≠ some b) wr.drew (.slice po (List.map Prod.snd ps).length co) (ps.map Prod.snd) := hg.kept Kdl (fun b _ _ => rfl) (fun b _ h => h)
    have hTX := dtxt_any hdxd.ds
    generalize Ka7 (l', false) = rt at *
    obtain ⟨s, l4, b4⟩ := rt
    have hl4 : l4.length ≤ 1000000 := Nat.le_trans hless (Nat.le_trans hl' hll)
    have hless' : (Ka9 d (l4, b4)).2.1.length ≤ l.length := Nat.le_trans hless2 (Nat.le_trans hless hl')
    have h4 := Kab (o := 4) hdxd.bx.p3 rfl
    have HQ := yh (And.intro hdxd (And.intro hkd (And.intro hgd (And.intro hstep (And.intro hless' (And.intro hlj (And.intro hTX (And.intro hm1 (And.intro hm2 h4)))))))))
    clear hTX hdx hk hg hdxd hkd hgd hstep hless hless2 hless' hloop m1 m2 hlj hsq hm1 hm2 h4
    generalize hks : List.map Prod.fst ps = ks at *
    generalize hls : List.map Prod.snd ps = ls at *
    have HKS := yh (And.intro hks hls)
    clear hks hls
    go_wp2
    refine Kao (fun X => X.cell? ⟨W.heap.size + 1, 4, none⟩ = some (.slice pk ks.length ck)) (by kernel_rfl) HQ.out.2.2.2.2.2.2.2.2.2 (fun hS => ?_)
    refine take 0 109 (v := .pointer (some ⟨W.heap.size + 1, 4, none⟩)) rfl rfl (by kernel_rfl) (by kernel_rfl) (by kernel_rfl) rfl (fun X hX => Kae rfl rfl (Kch _ _ (by decide) X)) (by assumption) ?_
    simp only [Act.put, sA, sZ, sS]
    refine take 1 110 (v := .slice pk ks.length ck) rfl rfl (by kernel_rfl) (by kernel_rfl) (by kernel_rfl) rfl (fun X hX => Kah rfl rfl (Kaj (w := X) Tryz.underlying45 rfl hX)) (by assumption) ?_
    simp only [Act.put, sA, sZ, sS]
    refine take 2 111 (v := .pointer (some ⟨q, 0, none⟩)) rfl rfl (by kernel_rfl) (by kernel_rfl) (by kernel_rfl) rfl (fun X hX => Kaf rfl rfl) (by assumption) ?_
    simp only [Act.put, sA, sZ, sS]
    refine Kbi 3 112 rfl rfl (by kernel_rfl) rfl (Ka0 [.pointer (some ⟨q, 0, none⟩)] rfl rfl Tryz.func74 (by kernel_rfl) (by kernel_rfl)) ?_
    refine HQ.out.2.2.2.2.2.2.1.mono ?_
    rintro e W4 ⟨v3, rfl, rfl, hD, hT⟩
    replace hD : DSt 40 w W4 q l4 b4 := hD
    obtain ⟨hdx, hk, hg, hstep, hless', hlj, _, hm1, hm2, _⟩ := HQ.out
    obtain ⟨p6, c6, W6, W7, a1, a2, a3, hdx7, hk7, hg7⟩ := dm_key hdx hk hg hT hD hm1 s
    have hdx4 := hdx.step hT hD
    have hS4 : W4.cell? ⟨W.heap.size + 1, 4, none⟩ = some (.slice pk ks.length ck) := Kab (o := 4) hdx4.bx.p3 rfl
    have hS5 : (W4.alloc (.cells #[.string (strB s)] 9)).cell? ⟨W.heap.size + 1, 4, none⟩ = some (.slice pk ks.length ck) := Kab (o := 4) (hdx4.below (Kad _)).bx.p3 rfl
    have hbs : (Instr.buildSlice 45 1 #[(0, .string (strB s))]).run Tryz.prog W4 = .ok (.slice (some ⟨W4.heap.size, 0, none⟩) 1 1) (W4.alloc (.cells #[.string (strB s)] 9)) := Kam (P := Tryz.prog) (w := W4) (v := .string (strB s)) Tryz.underlying45 Tryz.sizeOf9 Tryz.zeroValue9 rfl (by omega) (by omega)
    refine ⟨_, rfl, .inr hS4, ?_⟩
    simp only [Act.put, sA, sZ, sS]
    refine Keo 4 113 (v := .slice (some ⟨W4.heap.size, 0, none⟩) 1 1) rfl rfl (by kernel_rfl) rfl (Kda rfl rfl hbs) (.inr hS5) ?_
    simp only [Act.put, sA, sZ, sS]
    refine Keo 5 114 (v := .slice p6 (ks.length + 1) c6) rfl rfl (by kernel_rfl) rfl (Kdf rfl rfl rfl a1) (.inr a2) ?_
    simp only [Act.put, sA, sZ, sS]
    refine take 6 115 (v := .pointer (some ⟨W.heap.size + 1, 4, none⟩)) rfl rfl (by kernel_rfl) (by kernel_rfl) (by kernel_rfl) rfl (fun X hX => Kae rfl rfl (Kch _ _ (by decide) X)) (by assumption) ?_
    simp only [Act.put, sA, sZ, sS]
    refine onlySkip 7 rfl rfl (by kernel_rfl) rfl (Kdp rfl rfl rfl a3) (.inl (by kernel_rfl)) ?_
    refine done (by kernel_rfl) ?_ _
    have hcall := HV.out W7 q l4 b4 hdx7.ds hl4
    generalize Ka9 d (l4, b4) = r4 at *
    obtain ⟨v4, l5, b5⟩ := r4
    have HC := yh hcall
    have HP := yh (And.intro hdx7 (And.intro hk7 (And.intro hg7 hm2)))
    have HE := yh (And.intro hstep (And.intro hless' hlj))
    clear HQ hcall hdx hk hg hstep hless' hlj hm1 hm2 a1 a2 a3 hdx7 hk7 hg7 hdx4 hS4 hS5 hbs hS hD hT
    go_wp2_with (first
     | (go_at_call 24
        (
         refine HC.out.mono ?_
         rintro e W8 ⟨v, rfl, ⟨cs, rfl, hown⟩, hD, hT⟩
         replace hD : DSt 40 w W8 q l5 b5 := hD
         replace hown : VOwn W8 (fun b => W7.heap.size ≤ b) v4 cs := hown
         have hs := hown.size6
         have hones := hown.ones
         obtain ⟨p9, c9, W9, W10, a1, p5, a3, hdx9, hk9, hg9⟩ := dm_val HP.out.1 HP.out.2.1 HP.out.2.2.1 hT hD hown HP.out.2.2.2
         have hbs := Kam (P := Tryz.prog) (w := W8.alloc (.cells cs 48)) (v := .agg cs) Tryz.underlying46 Tryz.sizeOf48 Tryz.zeroValue48 hs (by omega) (by omega)
         simp only [World.size_alloc] at hbs
         have HS := yh (StT.fresh Kbk hs hones (W := W8))
         have HL := yh (StT.get Kbk hs (heap_alloc_new W8 (.cells cs 48)))
         have HB := yh hbs
         have HA := yh a1
         have HST := yh a3
         have HR := yh (And.intro hdx9 (And.intro hk9 hg9))
         clear hown hD hT hs hones a1 a3 hdx9 hk9 hg9 hbs HC HP))
     | ((with_reducible apply Kac); exact HS.out _ rfl; exact rfl; exact rfl; clear HS)
     | ((with_reducible apply Kal); exact HL.out; exact rfl; clear HL)
     | ((with_reducible apply Kci); exact HB.out; exact rfl; clear HB)
     | ((with_reducible apply Kar); exact HA.out; exact rfl; exact rfl; clear HA)
     | ((with_reducible apply Kac); exact HST.out; exact rfl; exact rfl; clear HST))
    go_roundw
    case rel => exact ⟨j + 1, hlt1, by go_num, yh ⟨ps ++ [(s, v4)], l5, b5, _, _, by rw [List.length_append]; simp only [List.length_cons, List.length_nil]; have := HE.out.2.2; omega, HE.out.1, HE.out.2.1, HR.out.1, by rw [List.map_append, HKS.out.1]; exact HR.out.2.1, by rw [List.map_append, HKS.out.2]; exact HR.out.2.2⟩⟩
    case measure => simp [intOf]; omega
   ·have hstop := hloop.stop (.inl rfl)
    have g1 := vfin (v := V.mk 5 false 0 [] (ps.map Prod.fst) (ps.map Prod.snd)) hdx.bx hdx.ds (own_map (by have := hdx.lo; omega) hk hg)
    have HL5 := yh g1.1
    have HS4 := yh g1.2.1
    have HLD := yh g1.2.2.1
    have HF := yh (g1.2.2.2)
    have HDL := yh hstop
    clear g1 hdx hloop hg hk hstop m1 m2 hlj
    generalize (List.map Prod.fst ps).length = nk at *
    generalize (List.map Prod.snd ps).length = no at *
    go_wp2_with (first
     | ((with_reducible apply Kal); exact HL5.out; exact rfl)
     | ((with_reducible apply Kac); exact HS4.out; exact rfl; exact rfl))
    refine bodyPost_ret (Kai rfl _ _ ⟨W.heap.size, 0, none⟩ _ rfl HLD.out) rfl ?_
    exact HF.out _ (by rw [HDL.out])
  ·have hji : ¬ (j : Int) < (n : Int) := by omega
   have hstop := hloop.stop (.inr (by omega))
   have g1 := vfin (v := V.mk 5 false 0 [] (ps.map Prod.fst) (ps.map Prod.snd)) hdx.bx hdx.ds (own_map (by have := hdx.lo; omega) hk hg)
   have HL5 := yh g1.1
   have HS4 := yh g1.2.1
   have HLD := yh g1.2.2.1
   have HF := yh (g1.2.2.2)
   have HDL := yh hstop
   clear g1 hdx hloop hg hk hstop m1 m2 hlj
   generalize (List.map Prod.fst ps).length = nk at *
   generalize (List.map Prod.snd ps).length = no at *
   go_wp2_with (first
    | ((with_reducible apply Kal); exact HL5.out; exact rfl)
    | ((with_reducible apply Kac); exact HS4.out; exact rfl; exact rfl))
   refine bodyPost_ret (Kai rfl _ _ ⟨W.heap.size, 0, none⟩ _ rfl HLD.out) rfl ?_
   exact HF.out _ (by rw [HDL.out])
theorem dval_any (w : World) : ∀ d, d ≤ 64 → DValR w d
 | 0, _ => fun W q l bad h _ => dval_no h (by omega) (.inr (.inl rfl))
 | d + 1, hd => fun W q l bad h hl => by
   have hv := dval_any w d (by omega)
   by_cases hlp : 0 < l.length
   ·cases bad
    ·by_cases h4 : (l[0]).toNat = 4
     ·exact dval_list hv h hd hl hlp h4
     ·by_cases h5 : (l[0]).toNat = 5
      ·exact dval_map hv h hd hl hlp h5
      ·exact dval_flat h hd hlp h4 h5
    ·exact dval_no h hd (.inr (.inr rfl))
   ·obtain rfl : l = [] := List.eq_nil_of_length_eq_zero (by omega)
    exact dval_no h hd (.inl rfl)
theorem six {cs : Array Value} (h : cs.size = 6) : ∃ a b c d e f, cs = #[a, b, c, d, e, f] := by
 obtain ⟨l⟩ := cs
 match l, h with
 | [a, b, c, d, e, f], _ => exact ⟨a, b, c, d, e, f, rfl⟩
theorem docProp_eq (s : Rs) : Kc3 s = (⟨(Ka7 s).1, (Ka9 64 (Ka7 s).2).1⟩, (Ka9 64 (Ka7 s).2).2) := rfl
def okRow {α : Type} (E : World → (Nat → Prop) → α → Array Value → Prop) (t : TypeId) (K : Nat) (W : World) (l : List α) (x : Value) (W' : World) : Prop := GOwn E t K W' (fun b => W.heap.size ≤ b) x l
theorem dp_more {W3 wr W5 : World} {q : Nat} {ov : Value} {ps : List PropD} {s : List UInt8} {v : V} {cs : Array Value} (hg : GIn POwn 136 7 (fun b => W3.heap.size ≤ b) wr ov ps) (hq : q < W3.heap.size) (h3 : W3.heap.size ≤ wr.heap.size) (hT : RTo q wr W5) (hown : VOwn W5 (fun b => wr.heap.size ≤ b) v cs) (hm : ps.length ≤ 1000000) :
 ∃ v' W6, (Builtin.append_ #[68, 68] 68 #[ov, .slice (some ⟨W5.heap.size + 1, 0, none⟩) 1 1]).run Tryz.prog ((W5.alloc (.cells cs 48)).alloc (.cells (#[.string (strB s)] ++ cs) 136)) = .ok v' W6 ∧ GIn POwn 136 7 (fun b => W3.heap.size ≤ b) W6 v' (ps ++ [⟨s, v⟩]) ∧ Touch (fun b => ov.ownBlock = some b) ((W5.alloc (.cells cs 48)).alloc (.cells (#[.string (strB s)] ++ cs) 136)) W6 := by
 have hs := hT.size
 have hbn := Kad (w := W5) (.cells cs 48)
 have hs1 : (W5.alloc (.cells cs 48)).heap.size = W5.heap.size + 1 := by simp
 have hx : POwn (W5.alloc (.cells cs 48)) (fun b => wr.heap.size ≤ b ∧ W3.heap.size ≤ b) ⟨s, v⟩ (#[.string (strB s)] ++ cs) := ⟨cs, rfl, (hown.keep fun b _ hb => hbn.block b hb).imp fun b _ hb => ⟨hb, by omega⟩⟩
 obtain ⟨v', W6, a1, a2, a3, _⟩ := hg.stepo Kb6 gt_prop (P' := fun b => W3.heap.size ≤ b) (W1 := W5.alloc (.cells cs 48)) (fun b hp hb => (hbn.block b (by omega)).trans (hT.keep b hb (by omega))) (by omega) (fun b _ h => h) (fun b h => by omega) hx hm 68
 rw [hs1] at a1
 exact ⟨v', W6, a1, a2, a3⟩
theorem drprops_any {w W : World} {q : Nat} {l : List UInt8} {bad : Bool} (h : DSt 40 w W q l bad) (hll : l.length ≤ 1000000) : Calls Tryz.prog 111 #[.pointer (some ⟨q, 0, none⟩)] W (Docs w W q (Kbg Kc3 (l, bad)) (okRow POwn 136 7 W)) := by
 have hq := h.lt
 have hN := Kd1 h
 have hcl := Ke4 (l, bad)
 have hcs := Kcs.less (l, bad)
 unfold Kbg
 generalize Ka3 (l, bad) = r at *
 obtain ⟨n, l3, b3⟩ := r
 have hl3 : l3.length ≤ l.length := hcs
 have hn1 : n ≤ 1000000 := Nat.le_trans hcl (Nat.le_trans hl3 hll)
 have HN := yh hN
 have HQ0 := yh hq
 clear hN hcl hcs h hq
 go_enter Tryz.func111, Tryz.ntmps111
 go_wp2_with (first
  | (go_at_call 57
     (
      refine HN.out.mono ?_
      rintro e W3 ⟨v3, rfl, rfl, hD, hT⟩
      replace hD : DSt 40 w W3 q l3 b3 := hD
      have HD3 := yh hD
      have hsz := hT.size
      have hq3 : q < W3.heap.size := by have := HQ0.out; omega
      have HT3 : Hid (∀ (W' : World) (ov : Value) {ps : List PropD} {l' : List UInt8} {b' : Bool}, GIn POwn 136 7 (fun b => W3.heap.size ≤ b) W' ov ps → DSt 40 w W' q l' b' → RTo q W3 W' → Kbj Kc3 n (l3, b3) = (ps, l', b') → Docs w W q (Kbj Kc3 n (l3, b3)) (okRow POwn 136 7 W) (.returned ov) W') := yh fun W' ov ps l' b' k1 k2 k3 k4 => by
       rw [k4]
       exact ⟨ov, rfl, (k1.own Kb6).imp Kb6 (fun b _ hb => by omega), k2, hT.trans k3⟩
      have HZ3 := yh (And.intro hsz hq3)
      clear hD hT HN HQ0 hsz hq3)))
 go_loopw [3, 5] (fun ov i wr => ∃ j : Nat, j ≤ n ∧ i = .int .i64 (j : Int) ∧ Hid (∃ (ps : List PropD) (l' : List UInt8) (b' : Bool), ps.length = j ∧ LoopAt Kc3 n (l3, b3) ps (l', b') ∧ l'.length ≤ l.length ∧ DSt 40 w wr q l' b' ∧ RTo q W3 wr ∧ GIn POwn 136 7 (fun b => W3.heap.size ≤ b) wr ov ps)) (fun _ i _ => n - (intOf i).toNat)
 case atStart => exact ⟨0, Nat.zero_le _, rfl, yh ⟨[], l3, b3, rfl, LoopAt.start _ _ _, hl3, HD3.out, RTo.refl _ _, GIn.start⟩⟩
 case round =>
  obtain ⟨j, hj, rfl, HI⟩ := hrel
  obtain ⟨ps, l', b', hlj, hloop, hl', hd, ht, hg⟩ := HI.out
  clear HI
  obtain ⟨po, co, rfl⟩ := hg.slice
  obtain ⟨pz, cz, m1, m2⟩ := hd.box
  have r1 := Kab (o := 1) m1 rfl
  by_cases hlt : j < n
  ·have hji : (j : Int) < (n : Int) := by omega
   cases b'
   ·have hstep := hloop.step (by omega) rfl
    rw [docProp_eq] at hstep
    have hTX := dtxt_any hd
    have hless := Kep.less (l', false)
    have hless2 := (ds_val 64).less (Ka7 (l', false)).2
    have hlt1 : j + 1 ≤ n := hlt
    have hm1 : ps.length ≤ 1000000 := by omega
    generalize Ka7 (l', false) = rt at *
    obtain ⟨s, l4, b4⟩ := rt
    have hl4 : l4.length ≤ 1000000 := Nat.le_trans hless (Nat.le_trans hl' hll)
    have hless' : (Ka9 64 (l4, b4)).2.1.length ≤ l.length := Nat.le_trans hless2 (Nat.le_trans hless hl')
    have HV : Hid (∀ W', DSt 40 w W' q l4 b4 → Calls Tryz.prog 24 #[.pointer (some ⟨q, 0, none⟩), .int .i64 64] W' (Docs w W' q (Ka9 64 (l4, b4)) (okVal W'))) := yh fun W' k => dval_any w 64 (Nat.le_refl _) W' q l4 b4 k hl4
    generalize Ka9 64 (l4, b4) = rv at *
    obtain ⟨v4, l5, b5⟩ := rv
    have HTX := yh hTX
    have HE := yh (And.intro hstep (And.intro hless' hlj))
    have HS := yh (And.intro hg (And.intro ht hm1))
    clear hTX hless hless2 hless' hstep hloop hlj hg hd ht m1 m2 hm1
    go_wp2_with (first
     | (go_at_call 74
        (
         refine HTX.out.mono ?_
         rintro e W4 ⟨v3, rfl, rfl, hD, hT⟩
         replace hD : DSt 40 w W4 q l4 b4 := hD
         have HC := yh (HV.out W4 hD)
         have HT4 := yh hT
         clear hD hT HTX HV))
     | (go_at_call 24
        (
         refine HC.out.mono ?_
         rintro e W5 ⟨v, rfl, ⟨cs, rfl, hown⟩, hD, hT⟩
         replace hD : DSt 40 w W5 q l5 b5 := hD
         replace hown : VOwn W5 (fun b => W4.heap.size ≤ b) v4 cs := hown
         have hs4 := HT4.out.size
         have hT5 := HT4.out.trans hT
         have hown5 : VOwn W5 (fun b => wr.heap.size ≤ b) v4 cs := hown.imp fun b _ hb => by omega
         have hs := hown.size6
         obtain ⟨k0, k1, k2, k3, k4, k5, rfl⟩ := six hs
         have hones := hown.ones
         obtain ⟨v6, W6, a1, a2, a3⟩ := dp_more (s := s) HS.out.1 HZ3.out.2 HS.out.2.1.size hT5 hown5 HS.out.2.2
         have e7 : #[Value.string (strB s)] ++ #[k0, k1, k2, k3, k4, k5] = #[Value.string (strB s), k0, k1, k2, k3, k4, k5] := rfl
         rw [e7] at a1 a3
         have hbs := Kam (P := Tryz.prog) (w := W5.alloc (.cells #[k0, k1, k2, k3, k4, k5] 48)) (v := .agg #[.string (strB s), k0, k1, k2, k3, k4, k5]) Tryz.underlying68 Tryz.sizeOf136 Tryz.zeroValue136 rfl (by omega) (by omega)
         try simp only [World.size_alloc] at hbs
         have HSV := yh (StT.fresh Kbk hs hones (W := W5))
         have HL := yh (StT.get Kbk hs (heap_alloc_new W5 (.cells #[k0, k1, k2, k3, k4, k5] 48)))
         have HB := yh hbs
         have HA := yh a1
         have hlow : ∀ b, (Value.slice po ps.length co).ownBlock = some b → W3.heap.size ≤ b := fun b e => (HS.out.1.lt b e).2
         have hqz := HZ3.out.2
         have hbb : Below W5.heap.size W5 ((W5.alloc (.cells #[k0, k1, k2, k3, k4, k5] 48)).alloc (.cells #[.string (strB s), k0, k1, k2, k3, k4, k5] 136)) := (Kad _).alloc (by simp) _
         have hs6 := a3.size
         have hs5 := hbb.size
         have hD6 : DSt 40 w W6 q l5 b5 := hD.other (a3.below (Kaa hD.b hbb) (fun b hb e => by have := hlow b e; have := hD.base; omega) (by have := hD.b.size; omega)) ((a3.block q (Nat.lt_of_lt_of_le hD.lt hs5) (fun e => by have := hlow q e; omega)).trans (hbb.block q hD.lt))
         have hRT6 : RTo q W3 W6 := ⟨by have := HS.out.2.1.size; have := hT5.size; omega, fun b hb hbq => (a3.block b (by have := HS.out.2.1.size; have := hT5.size; omega) (fun e => by have := hlow b e; omega)).trans ((hbb.block b (by have := HS.out.2.1.size; have := hT5.size; omega)).trans ((HS.out.2.1.trans hT5).keep b hb hbq))⟩
         have HR := yh (And.intro a2 (And.intro trivial (And.intro hD6 hRT6)))
         clear hlow hqz hbb hs6 hs5 hD6 hRT6 e7 hown hown5 hD hT hT5 hs4 hones a1 a2 a3 hbs HC HT4))
     | ((with_reducible apply Kac); exact HSV.out _ rfl; exact rfl; exact rfl; clear HSV)
     | ((with_reducible apply Kal); exact HL.out; exact rfl; clear HL)
     | ((with_reducible apply Kci); exact HB.out; exact rfl; clear HB)
     | ((with_reducible apply Kar); exact HA.out; exact rfl; exact rfl; clear HA))
    go_roundw
    case rel => exact ⟨j + 1, hlt1, by go_num, yh ⟨ps ++ [⟨s, v4⟩], l5, b5, by rw [List.length_append]; simp only [List.length_cons, List.length_nil]; have := HE.out.2.2; omega, HE.out.1, HE.out.2.1, HR.out.2.2.1, HR.out.2.2.2, HR.out.1⟩⟩
    case measure => simp [intOf]; omega
   ·have hstop := hloop.stop (.inl rfl)
    have HF := yh (And.intro hg (And.intro hd (And.intro ht hstop)))
    clear hg hd ht hstop hloop hlj m1 m2
    go_wp2
    go_ret
    exact HT3.out _ _ HF.out.1 HF.out.2.1 HF.out.2.2.1 HF.out.2.2.2
  ·have hji : ¬ (j : Int) < (n : Int) := by omega
   have hstop := hloop.stop (.inr (by omega))
   have HF := yh (And.intro hg (And.intro hd (And.intro ht hstop)))
   clear hg hd ht hstop hloop hlj m1 m2
   go_wp2
   go_ret
   exact HT3.out _ _ HF.out.1 HF.out.2.1 HF.out.2.2.1 HF.out.2.2.2
theorem gfin {α : Type} {E : World → (Nat → Prop) → α → Array Value → Prop} {K : Nat} {T : TypeId} {z : Array Value} {w W W' : World} {q B : Nat} {cs : Array Value} {l : List UInt8} {bad : Bool} {v : α} (hE : EL E K) (hT : StT Tryz.prog T K) (hz : z.size = K) (hx : BX T W q z B cs W') (g : DSt 40 w W' q l bad) (ho : E W' (fun b => W.heap.size < b) v cs) :
 (loadVar T ⟨B, 0, none⟩).run Tryz.prog W' = .ok (.agg cs) W' ∧ (storeVar T ⟨W.heap.size, 0, none⟩ (.agg cs)).run Tryz.prog W' = .ok () (W'.setRow W.heap.size cs) ∧
 (loadVar T ⟨W.heap.size, 0, none⟩).run Tryz.prog (W'.setRow W.heap.size cs) = .ok (.agg cs) (W'.setRow W.heap.size cs) ∧
 ∀ (r : α × Rs), r = (v, l, bad) → Docs w W q r (fun v x W' => ∃ cs, x = .agg cs ∧ E W' (fun b => W.heap.size ≤ b) v cs) (.returned (.agg cs)) (W'.setRow W.heap.size cs) := by
 obtain ⟨f1, f2, f3, f4, f5, f6⟩ := hx.finD hT (hE.size ho) hz (hE.ones ho) g
 refine ⟨f1, f2, f3, fun r hr => ?_⟩
 subst hr
 exact ⟨_, rfl, ⟨cs, rfl, hE.imp (fun b _ hb => by omega) (hE.keep (fun b hb _ => f6 b (by omega)) ho)⟩, f4, f5⟩
theorem drrel_any {w W : World} {q : Nat} {l : List UInt8} {bad : Bool} (h : DSt 40 w W q l bad) (hll : l.length ≤ 1000000) : Calls Tryz.prog 59 #[.pointer (some ⟨q, 0, none⟩)] W (Docs w W q (docRel (l, bad)) (okRel W)) := by
 have hq := h.lt
 have hb := Kad (w := W) (.cells #[.int .i64 0, .int .i64 0, .int .i64 0, .string ⟨#[]⟩, .slice none 0 0] 72)
 have hsz : (W.alloc (.cells #[.int .i64 0, .int .i64 0, .int .i64 0, .string ⟨#[]⟩, .slice none 0 0] 72)).heap.size = W.heap.size + 1 := by simp
 have hd0 := h.below hb
 have e1 : ∃ n l' b', docN (l, bad) = (n, l', b') := ⟨_, _, _, rfl⟩
 obtain ⟨n1, l1, b1, e1⟩ := e1
 have e2 : ∃ n l' b', docN (l1, b1) = (n, l', b') := ⟨_, _, _, rfl⟩
 obtain ⟨n2, l2, b2, e2⟩ := e2
 have e3 : ∃ n l' b', docN (l2, b2) = (n, l', b') := ⟨_, _, _, rfl⟩
 obtain ⟨n3, l3, b3, e3⟩ := e3
 have e4 : ∃ n l' b', Ka7 (l3, b3) = (n, l', b') := ⟨_, _, _, rfl⟩
 obtain ⟨s, l4, b4, e4⟩ := e4
 have e5 : ∃ n l' b', Kbg Kc3 (l4, b4) = (n, l', b') := ⟨_, _, _, rfl⟩
 obtain ⟨ps, l5, b5, e5⟩ := e5
 have hres : docRel (l, bad) = (⟨toI n1, toI n2, toI n3, s, ps⟩, l5, b5) := by
  unfold docRel docMap Kcr Kdv
  simp only [e1, e2, e3, e4, e5]
 have g1 := Kck.less (l, bad)
 have g2 := Kck.less (l1, b1)
 have g3 := Kck.less (l2, b2)
 have g4 := Kep.less (l3, b3)
 have r1 := Kck.rng (l, bad)
 have r2 := Kck.rng (l1, b1)
 have r3 := Kck.rng (l2, b2)
 rw [e1] at g1 r1
 rw [e2] at g2 r2
 rw [e3] at g3 r3
 rw [e4] at g4
 have hl4 : l4.length ≤ 1000000 := Nat.le_trans g4 (Nat.le_trans g3 (Nat.le_trans g2 (Nat.le_trans g1 hll)))
 have HC1 := yh (fun W' : World => Kc8 r1 W')
 have HC2 := yh (fun W' : World => Kc8 r2 W')
 have HC3 := yh (fun W' : World => Kc8 r3 W')
 have HN1 := yh (e1 ▸ Kdy hd0)
 have HN2 := yh (fun W' (k : DSt 40 w W' q l1 b1) => e2 ▸ Kdy k)
 have HN3 := yh (fun W' (k : DSt 40 w W' q l2 b2) => e3 ▸ Kdy k)
 have HN4 := yh (fun W' (k : DSt 40 w W' q l3 b3) => e4 ▸ dtxt_any k)
 have HN5 := yh (fun W' (k : DSt 40 w W' q l4 b4) => e5 ▸ drprops_any k hl4)
 have HB := yh (And.intro hb (And.intro hq hsz))
 rw [hres]
 clear hb hq hsz hd0 h e1 e2 e3 e4 e5 g1 g2 g3 g4 r1 r2 r3 hres
 go_enter Tryz.func59, Tryz.ntmps59
 go_wp2_with (first
  | (go_at_call 60
     (
      refine HN1.out.mono ?_
      rintro e W2 ⟨v3, rfl, rfl, hD, hT⟩
      replace hD : DSt 40 w W2 q l1 b1 := hD
      have hx := BX.start (cs := #[.int .i64 (toI n1), .int .i64 0, .int .i64 0, .string ⟨#[]⟩, .slice none 0 0]) HB.out.2.1 hT
      have hd := hD.below (Kad (w := W2) (.cells #[.int .i64 (toI n1), .int .i64 0, .int .i64 0, .string ⟨#[]⟩, .slice none 0 0] 72))
      have HS := yh (StT.fresh Kdj (show (#[.int .i64 (toI n1), .int .i64 0, .int .i64 0, .string ⟨#[]⟩, .slice none 0 0] : Array Value).size = 5 from rfl) (by simp [Value.oneCell']) (W := W2))
      have HP1 := yh (And.intro hx hd)
      clear hD hT hx hd HN1))
  | ((with_reducible apply Kbv); exact HC1.out _; exact rfl; clear HC1)
  | ((with_reducible apply Kac); exact HS.out _ rfl; exact rfl; exact rfl; clear HS)
  | (go_at_call 60
     (
      refine (HN2.out _ HP1.out.2).mono ?_
      rintro e W1x ⟨v3, rfl, rfl, hD, hT⟩
      replace hD : DSt 40 w W1x q l2 b2 := hD
      have hx3 := HP1.out.1.step hT
      have hx4 := hx3.set 1 (.int .i64 (toI n2))
      simp only [List.setIfInBounds_toArray, List.set_cons_zero, List.set_cons_succ] at hx4
      have HST1 := yh (Kcd (n := toI n2) (Kab (o := 1) hx3.p3 rfl) (Kaq (o := 1) hx3.p3))
      have HP2 := yh (And.intro hx4 (hx3.setD hD 1 (.int .i64 (toI n2))))
      clear hD hT hx3 hx4 HP1 HN2))
  | ((with_reducible apply Kac); exact HST1.out; exact rfl; exact rfl; clear HST1)
  | ((with_reducible apply Kbv); exact HC2.out _; exact rfl; clear HC2)
  | (go_at_call 60
     (
      refine (HN3.out _ HP2.out.2).mono ?_
      rintro e W2x ⟨v3, rfl, rfl, hD, hT⟩
      replace hD : DSt 40 w W2x q l3 b3 := hD
      have hx3 := HP2.out.1.step hT
      have hx4 := hx3.set 2 (.int .i64 (toI n3))
      simp only [List.setIfInBounds_toArray, List.set_cons_zero, List.set_cons_succ] at hx4
      have HST2 := yh (Kcd (n := toI n3) (Kab (o := 2) hx3.p3 rfl) (Kaq (o := 2) hx3.p3))
      have HP3 := yh (And.intro hx4 (hx3.setD hD 2 (.int .i64 (toI n3))))
      clear hD hT hx3 hx4 HP2 HN3))
  | ((with_reducible apply Kac); exact HST2.out; exact rfl; exact rfl; clear HST2)
  | ((with_reducible apply Kbv); exact HC3.out _; exact rfl; clear HC3)
  | (go_at_call 74
     (
      refine (HN4.out _ HP3.out.2).mono ?_
      rintro e W3x ⟨v3, rfl, rfl, hD, hT⟩
      replace hD : DSt 40 w W3x q l4 b4 := hD
      have hx3 := HP3.out.1.step hT
      have hx4 := hx3.set 3 (.string (strB s))
      simp only [List.setIfInBounds_toArray, List.set_cons_zero, List.set_cons_succ] at hx4
      have HST3 := yh (put_str (s := strB s) (Kab (o := 3) hx3.p3 rfl) (Kaq (o := 3) hx3.p3))
      have HP4 := yh (And.intro hx4 (hx3.setD hD 3 (.string (strB s))))
      clear hD hT hx3 hx4 HP3 HN4))
  | ((with_reducible apply Kac); exact HST3.out; exact rfl; exact rfl; clear HST3)
  | (go_at_call 111
     (
      refine (HN5.out _ HP4.out.2).mono ?_
      rintro e W6 ⟨v6, rfl, hown, hD, hT⟩
      replace hD : DSt 40 w W6 q l5 b5 := hD
      obtain ⟨xs, k1, k2⟩ := hown
      obtain ⟨p6, c6, rfl⟩ := Kb4 k1
      have hq2 := HP4.out.1.tr.size
      have hBl := HP4.out.1.lt
      have hx6 := HP4.out.1.step hT
      have hx4 := hx6.set 4 (.slice p6 ps.length c6)
      simp only [List.setIfInBounds_toArray, List.set_cons_zero, List.set_cons_succ] at hx4
      have HST4 := yh (put_props (p := p6) (n := ps.length) (c := c6) (Kab (o := 4) hx6.p3 rfl) (Kaq (o := 4) hx6.p3))
      have hr6 : GOwn POwn 136 7 W6 (fun b => _ ≤ b) (.slice p6 ps.length c6) ps := ⟨xs, k1, k2⟩
      have hr7 := hr6.keep Kb6 (w' := W6.setCell ⟨W2.heap.size, 4, none⟩ (.slice p6 ps.length c6)) fun b hb1 _ => Below.heap_setCell _ ⟨W2.heap.size, 4, none⟩ _ _ (by show b ≠ W2.heap.size; omega)
      have g1 := gfin Kcx Kdj rfl hx4 (hx6.setD hD 4 (.slice p6 ps.length c6)) (v := ⟨toI n1, toI n2, toI n3, s, ps⟩) ⟨_, rfl, hr7.imp Kb6 fun b _ hb1 => by have := hx6.lo; omega⟩
      have HL5 := yh g1.1
      have HS4 := yh g1.2.1
      have HLD := yh g1.2.2.1
      have HF := yh (g1.2.2.2 _ rfl)
      clear g1 hx6 hx4 hr6 hr7 k1 k2 hD hT HP4 HN5 hq2 hBl))
  | ((with_reducible apply Kac); exact HST4.out; exact rfl; exact rfl; clear HST4)
  | ((with_reducible apply Kal); exact HL5.out; exact rfl)
  | ((with_reducible apply Kac); exact HS4.out; exact rfl; exact rfl))
 refine bodyPost_ret (Kai rfl _ _ ⟨W.heap.size, 0, none⟩ _ rfl HLD.out) rfl ?_
 exact HF.out
section
variable {w W wr W4 W6 Wb : World} {q B : Nat} {ov : Value} {ls : List (List UInt8)} {l l4 l5 : List UInt8} {bad b4 b5 : Bool} {n1 nl : Nat} {ps : List PropD} {p6 : Option Addr} {c6 : Nat}
theorem dn_more (hdx : DX 70 w W q #[.int .i64 0, .slice none 0 0, .slice none 0 0] B #[.int .i64 (toI n1), ov, .slice none 0 0] Wb l bad wr) (hk : GIn SOwn 9 1 (fun b => Wb.heap.size ≤ b) wr ov ls) (hT : RTo q wr W4) (hD : DSt 40 w W4 q l4 b4) (hm : ls.length ≤ 1000000) (s : List UInt8) :
 ∃ p c W6 W7, (Builtin.append_ #[45, 45] 45 #[ov, .slice (some ⟨W4.heap.size, 0, none⟩) 1 1]).run Tryz.prog (W4.alloc (.cells #[.string (strB s)] 9)) = .ok (.slice p (ls.length + 1) c) W6 ∧ W4.cell? ⟨B, 1, none⟩ = some ov ∧ (storeVar 45 ⟨B, 1, none⟩ (.slice p (ls.length + 1) c)).run Tryz.prog W6 = .ok () W7 ∧
  DX 70 w W q #[.int .i64 0, .slice none 0 0, .slice none 0 0] B #[.int .i64 (toI n1), (.slice p (ls.length + 1) c), .slice none 0 0] Wb l4 b4 W7 ∧ GIn SOwn 9 1 (fun b => Wb.heap.size ≤ b) W7 (.slice p (ls.length + 1) c) (ls ++ [s]) := by
 have hq : q < Wb.heap.size := by have := hdx.bx.ql; have := hdx.bx.lo; have := hdx.lo; omega
 have hs := hT.size
 have hw := hdx.sz
 have hdx4 := hdx.step hT hD
 obtain ⟨p, c, W6, a1, a2, a3, hdx6, hk6, hkeep, hnew⟩ := hdx4.push (i := 1) (P := fun b => Wb.heap.size ≤ b) (x := #[.string (strB s)]) (v := s) el_str gt_str (fun b h => h) (fun b h => by omega) hk hs (fun b hp hb => hT.keep b hb (by omega)) rfl rfl hm 45
 exact ⟨p, c, W6, _, a1, Kab (o := 1) hdx4.bx.p3 rfl, put_strs a2 a3, by simpa using hdx6, hk6⟩
theorem dn_done (hdx : DX 70 w W q #[.int .i64 0, .slice none 0 0, .slice none 0 0] B #[.int .i64 (toI n1), ov, .slice none 0 0] Wb l bad wr) (hk : GIn SOwn 9 1 (fun b => Wb.heap.size ≤ b) wr ov ls) (hn : nl = ls.length) (hT : RTo q wr W6) (hD : DSt 40 w W6 q l5 b5) (hr : GOwn POwn 136 7 W6 (fun b => wr.heap.size ≤ b) (.slice p6 ps.length c6) ps) :
 NOwn (W6.setCell ⟨B, 2, none⟩ (.slice p6 ps.length c6)) (fun b => W.heap.size < b) ⟨toI n1, ls, ps⟩ #[.int .i64 (toI n1), ov, (.slice p6 ps.length c6)] := by
 have hq : q < Wb.heap.size := by have := hdx.bx.ql; have := hdx.bx.lo; have := hdx.lo; omega
 have hlo := hdx.lo
 have hBW := hdx.bx.lo
 have hw := hdx.sz
 have hset : ∀ b, b ≠ B → (W6.setCell ⟨B, 2, none⟩ (.slice p6 ps.length c6)).heap[b]? = W6.heap[b]? := fun b hb => Below.heap_setCell _ ⟨B, 2, none⟩ _ b hb
 have hk2 := hk.kept el_str (W' := W6.setCell ⟨B, 2, none⟩ (.slice p6 ps.length c6)) (P' := fun b => W.heap.size < b) (fun b hb hlt => (hset b (by omega)).trans (hT.keep b hlt (by omega))) (fun b _ hb => by omega)
 obtain ⟨xs, k1, k2⟩ := hk2
 rw [str_flat k2] at k1
 exact ⟨_, _, rfl, k1, (hr.keep Kb6 (w' := W6.setCell ⟨B, 2, none⟩ (.slice p6 ps.length c6)) fun b hb _ => hset b (by omega)).imp Kb6 fun b _ hb => by omega⟩
end
theorem drnode_any {w W : World} {q : Nat} {l : List UInt8} {bad : Bool} (h : DSt 40 w W q l bad) (hll : l.length ≤ 1000000) : Calls Tryz.prog 58 #[.pointer (some ⟨q, 0, none⟩)] W (Docs w W q (Kdw (l, bad)) (okNode W)) := by
 have hq := h.lt
 have hb := Kad (w := W) (.cells #[.int .i64 0, .slice none 0 0, .slice none 0 0] 70)
 have hd0 := h.below hb
 have e1 : ∃ n l' b', docN (l, bad) = (n, l', b') := ⟨_, _, _, rfl⟩
 obtain ⟨n1, l1, b1, e1⟩ := e1
 have e2 : ∃ n l' b', Ka3 (l1, b1) = (n, l', b') := ⟨_, _, _, rfl⟩
 obtain ⟨n, l3, b3, e2⟩ := e2
 have hres : Kdw (l, bad) = (⟨toI n1, (Kbj Ka7 n (l3, b3)).1, (Kbg Kc3 (Kbj Ka7 n (l3, b3)).2).1⟩, (Kbg Kc3 (Kbj Ka7 n (l3, b3)).2).2) := by
  have e3 : Kbg Ka7 (l1, b1) = Kbj Ka7 n (l3, b3) := by unfold Kbg; rw [e2]
  unfold Kdw docMap Kcr Kdv
  simp only [e1, e3]
 have g1 := Kck.less (l, bad)
 have g2 := Kcs.less (l1, b1)
 have g3 := Ke4 (l1, b1)
 have r1 := Kck.rng (l, bad)
 rw [e1] at g1 r1
 rw [e2] at g2 g3
 have hl3 : l3.length ≤ l.length := Nat.le_trans g2 g1
 have hn1 : n ≤ 1000000 := Nat.le_trans g3 (Nat.le_trans hl3 hll)
 have HC1 := yh (fun W' : World => Kc8 r1 W')
 have HN1 := yh (e1 ▸ Kdy hd0)
 have HN2 := yh (fun W' (k : DSt 40 w W' q l1 b1) => e2 ▸ Kd1 k)
 have HB := yh hq
 have HRES := yh hres
 clear hb hq hd0 h e1 e2 g1 g2 g3 r1 hres
 go_enter Tryz.func58, Tryz.ntmps58
 go_wp2_with (first
  | (go_at_call 60
     (
      refine HN1.out.mono ?_
      rintro e W2 ⟨v3, rfl, rfl, hD, hT⟩
      replace hD : DSt 40 w W2 q l1 b1 := hD
      have hx := BX.start (cs := #[.int .i64 (toI n1), .slice none 0 0, .slice none 0 0]) HB.out hT
      have hd := hD.below (Kad (w := W2) (.cells #[.int .i64 (toI n1), .slice none 0 0, .slice none 0 0] 70))
      have HS := yh (StT.fresh Kb2 (show (#[.int .i64 (toI n1), .slice none 0 0, .slice none 0 0] : Array Value).size = 3 from rfl) (by simp [Value.oneCell']) (W := W2))
      have HP1 := yh (And.intro hx hd)
      clear hD hT hx hd HN1))
  | ((with_reducible apply Kbv); exact HC1.out _; exact rfl; clear HC1)
  | ((with_reducible apply Kac); exact HS.out _ rfl; exact rfl; exact rfl; clear HS)
  | (go_at_call 57
     (
      refine (HN2.out _ HP1.out.2).mono ?_
      rintro e W3 ⟨v3, rfl, rfl, hD, hT⟩
      replace hD : DSt 40 w W3 q l3 b3 := hD
      have HX3 := yh (And.intro (HP1.out.1.step hT) hD)
      clear hD hT HN2 HP1)))
 go_loopw [5] (fun i wr => ∃ j : Nat, j ≤ n ∧ i = .int .i64 (j : Int) ∧ Hid (∃ (ls : List (List UInt8)) (l' : List UInt8) (b' : Bool) (ov : Value), ls.length = j ∧ LoopAt Ka7 n (l3, b3) ls (l', b') ∧ l'.length ≤ l.length ∧ DX 70 w W q #[.int .i64 0, .slice none 0 0, .slice none 0 0] W2.heap.size #[.int .i64 (toI n1), ov, .slice none 0 0] W3 l' b' wr ∧ GIn SOwn 9 1 (fun b => W3.heap.size ≤ b) wr ov ls)) (fun i _ => n - (intOf i).toNat)
 case atStart => exact ⟨0, Nat.zero_le _, rfl, yh ⟨[], l3, b3, .slice none 0 0, rfl, LoopAt.start _ _ _, hl3, DX.start HX3.out.1 HX3.out.2, GIn.start⟩⟩
 case round =>
  obtain ⟨j, hj, rfl, HI⟩ := hrel
  obtain ⟨ls, l', b', ov, hlj, hloop, hl', hdx, hg⟩ := HI.out
  clear HI
  obtain ⟨po, co, rfl⟩ := hg.slice
  obtain ⟨pz, cz, m1, m2⟩ := hdx.ds.box
  have r1 := Kab (o := 1) m1 rfl
  by_cases hlt : j < n
  ·have hji : (j : Int) < (n : Int) := by omega
   cases b'
   ·have hstep := hloop.step (by omega) rfl
    have hTX := dtxt_any hdx.ds
    have hless := Kep.less (l', false)
    have hm1 : ls.length ≤ 1000000 := by omega
    have hlt1 : j + 1 ≤ n := hlt
    generalize Ka7 (l', false) = rt at *
    obtain ⟨s, l4, b4⟩ := rt
    have hless' : l4.length ≤ l.length := Nat.le_trans hless hl'
    have HTX := yh hTX
    have HQ := yh (And.intro hdx (And.intro hg (And.intro hm1 (And.intro hstep (And.intro hless' hlj)))))
    clear hTX hdx hg hm1 hstep hless' hlj hless hloop m1 m2
    go_wp2_with (first
     | (go_at_call 74
        (
         refine HTX.out.mono ?_
         rintro e W4 ⟨v3, rfl, rfl, hD, hT⟩
         replace hD : DSt 40 w W4 q l4 b4 := hD
         obtain ⟨p6, c6, W6, W7, a1, p5, a3, hdx7, hk7⟩ := dn_more HQ.out.1 HQ.out.2.1 hT hD HQ.out.2.2.1 s
         have hbs := Kam (P := Tryz.prog) (w := W4) (v := .string (strB s)) Tryz.underlying45 Tryz.sizeOf9 Tryz.zeroValue9 rfl (by omega) (by omega)
         have HB1 := yh hbs
         have HA := yh a1
         have HST := yh a3
         have HR := yh (And.intro hdx7 hk7)
         clear hbs a1 a3 hdx7 hk7 hD hT HTX))
     | ((with_reducible apply Kci); exact HB1.out; exact rfl; clear HB1)
     | ((with_reducible apply Kar); exact HA.out; exact rfl; exact rfl; clear HA)
     | ((with_reducible apply Kac); exact HST.out; exact rfl; exact rfl; clear HST))
    go_roundw
    case rel => exact ⟨j + 1, hlt1, by go_num, yh ⟨ls ++ [s], l4, b4, _, by rw [List.length_append]; simp only [List.length_cons, List.length_nil]; have := HQ.out.2.2.2.2.2; omega, HQ.out.2.2.2.1, HQ.out.2.2.2.2.1, HR.out.1, HR.out.2⟩⟩
    case measure => simp [intOf]; omega
   ·have hstop := hloop.stop (.inl rfl)
    have HLO := yh hstop
    have hl9 : l'.length ≤ 1000000 := Nat.le_trans hl' hll
    have e5 : ∃ x9 y9 z9, Kbg Kc3 (l', true) = (x9, y9, z9) := ⟨_, _, _, rfl⟩
    obtain ⟨ps, l5, b5, e5⟩ := e5
    have HN5 := yh (e5 ▸ drprops_any hdx.ds hl9)
    have HE5 := yh e5
    have HP4 := yh (And.intro hdx hg)
    clear e5 hstop hloop hdx hg m1 m2 hlj
    generalize hln : ls.length = nl at *
    have HLN := yh hln
    clear hln
    go_wp2_with (first
     | (go_at_call 111
        (
         refine HN5.out.mono ?_
         rintro e W6 ⟨v6, rfl, hown, hD, hT⟩
         replace hD : DSt 40 w W6 q l5 b5 := hD
         obtain ⟨xs, k1, k2⟩ := hown
         obtain ⟨p6, c6, rfl⟩ := Kb4 k1
         have hBl := HP4.out.1.bx.lt
         have hx6 := HP4.out.1.bx.step hT
         have hx4 := hx6.set 2 (.slice p6 ps.length c6)
         simp only [List.setIfInBounds_toArray, List.set_cons_zero, List.set_cons_succ] at hx4
         have HST4 := yh (put_props (p := p6) (n := ps.length) (c := c6) (Kab (o := 2) hx6.p3 rfl) (Kaq (o := 2) hx6.p3))
         have hr6 : GOwn POwn 136 7 W6 (fun b => _ ≤ b) (.slice p6 ps.length c6) ps := ⟨xs, k1, k2⟩
         have hdone := dn_done HP4.out.1 HP4.out.2 HLN.out.symm hT hD hr6
         have g1 := gfin Kbf Kb2 rfl hx4 (hx6.setD hD 2 (.slice p6 ps.length c6)) (v := ⟨toI n1, ls, ps⟩) hdone
         have HL5 := yh g1.1
         have HS4 := yh g1.2.1
         have HLD := yh g1.2.2.1
         have HF := yh g1.2.2.2
         clear g1 hx6 hx4 hr6 hdone k1 k2 hD hT HP4 HN5 hBl))
     | ((with_reducible apply Kac); exact HST4.out; exact rfl; exact rfl; clear HST4)
     | ((with_reducible apply Kal); exact HL5.out; exact rfl)
     | ((with_reducible apply Kac); exact HS4.out; exact rfl; exact rfl))
    refine bodyPost_ret (Kai rfl _ _ ⟨W.heap.size, 0, none⟩ _ rfl HLD.out) rfl ?_
    exact HF.out _ (by rw [HRES.out]; unfold Kbg at *; simp only [HLO.out, HE5.out])
  ·have hji : ¬ (j : Int) < (n : Int) := by omega
   have hstop := hloop.stop (.inr (by omega))
   have HLO := yh hstop
   have hl9 : l'.length ≤ 1000000 := Nat.le_trans hl' hll
   have e5 : ∃ x9 y9 z9, Kbg Kc3 (l', b') = (x9, y9, z9) := ⟨_, _, _, rfl⟩
   obtain ⟨ps, l5, b5, e5⟩ := e5
   have HN5 := yh (e5 ▸ drprops_any hdx.ds hl9)
   have HE5 := yh e5
   have HP4 := yh (And.intro hdx hg)
   clear e5 hstop hloop hdx hg m1 m2 hlj
   generalize hln : ls.length = nl at *
   have HLN := yh hln
   clear hln
   go_wp2_with (first
    | (go_at_call 111
       (
        refine HN5.out.mono ?_
        rintro e W6 ⟨v6, rfl, hown, hD, hT⟩
        replace hD : DSt 40 w W6 q l5 b5 := hD
        obtain ⟨xs, k1, k2⟩ := hown
        obtain ⟨p6, c6, rfl⟩ := Kb4 k1
        have hBl := HP4.out.1.bx.lt
        have hx6 := HP4.out.1.bx.step hT
        have hx4 := hx6.set 2 (.slice p6 ps.length c6)
        simp only [List.setIfInBounds_toArray, List.set_cons_zero, List.set_cons_succ] at hx4
        have HST4 := yh (put_props (p := p6) (n := ps.length) (c := c6) (Kab (o := 2) hx6.p3 rfl) (Kaq (o := 2) hx6.p3))
        have hr6 : GOwn POwn 136 7 W6 (fun b => _ ≤ b) (.slice p6 ps.length c6) ps := ⟨xs, k1, k2⟩
        have hdone := dn_done HP4.out.1 HP4.out.2 HLN.out.symm hT hD hr6
        have g1 := gfin Kbf Kb2 rfl hx4 (hx6.setD hD 2 (.slice p6 ps.length c6)) (v := ⟨toI n1, ls, ps⟩) hdone
        have HL5 := yh g1.1
        have HS4 := yh g1.2.1
        have HLD := yh g1.2.2.1
        have HF := yh g1.2.2.2
        clear g1 hx6 hx4 hr6 hdone k1 k2 hD hT HP4 HN5 hBl))
    | ((with_reducible apply Kac); exact HST4.out; exact rfl; exact rfl; clear HST4)
    | ((with_reducible apply Kal); exact HL5.out; exact rfl)
    | ((with_reducible apply Kac); exact HS4.out; exact rfl; exact rfl))
   refine bodyPost_ret (Kai rfl _ _ ⟨W.heap.size, 0, none⟩ _ rfl HLD.out) rfl ?_
   exact HF.out _ (by rw [HRES.out]; unfold Kbg at *; simp only [HLO.out, HE5.out])
theorem docChange_cons {l : List UInt8} (h : 0 < l.length) : Kav (l, false) =
 if (l[0]).toNat = 0 then (⟨0, 0, 0, (Kdw (l.drop 1, false)).1, rel0⟩, (Kdw (l.drop 1, false)).2)
 else if (l[0]).toNat = 1 then (⟨1, 0, 0, node0, (docRel (l.drop 1, false)).1⟩, (docRel (l.drop 1, false)).2)
 else if (l[0]).toNat = 2 ∨ (l[0]).toNat = 3 then (⟨((l[0]).toNat : Int), (Kau (l.drop 1, false)).1, 0, node0, rel0⟩, (Kau (l.drop 1, false)).2)
 else if (l[0]).toNat = 4 then (⟨4, (Kau (l.drop 1, false)).1, (Kau (Kau (l.drop 1, false)).2).1, node0, rel0⟩, (Kau (Kau (l.drop 1, false)).2).2)
 else (⟨((l[0]).toNat : Int), 0, 0, node0, rel0⟩, l.drop 1, true) := by
 cases l with
 | nil => simp at h
 | cons c r => rw [Kav]; rfl
def CLoopAt (n : Nat) (s0 : Rs) (l : List ChangeD) (s : Rs) : Prop := l.length ≤ n ∧ Ka1 n s0 = (l ++ (Ka1 (n - l.length) s).1, (Ka1 (n - l.length) s).2)
theorem CLoopAt.start (n : Nat) (s : Rs) : CLoopAt n s [] s := ⟨by simp, by simp⟩
theorem CLoopAt.step {n : Nat} {s0 s : Rs} {l : List ChangeD} (h : CLoopAt n s0 l s) (hl : l.length < n) (hb : s.2 = false) (hp : s.1 ≠ []) : CLoopAt n s0 (l ++ [(Kav s).1]) (Kav s).2 := by
 refine ⟨by rw [List.length_append]; simp; omega, ?_⟩
 rw [h.2]
 have e1 : n - l.length = (n - (l ++ [(Kav s).1]).length) + 1 := by rw [List.length_append]; simp; omega
 rw [e1, Ka1, if_neg (by rw [hb]; simp [hp])]
 simp
theorem CLoopAt.stop {n : Nat} {s0 s : Rs} {l : List ChangeD} (h : CLoopAt n s0 l s) (hb : s.2 = true ∨ s.1 = [] ∨ l.length = n) : Ka1 n s0 = (l, s) := by
 rw [h.2]
 rcases hb with hb | hb | hb
 ·cases n - l.length with
  | zero => simp [Ka1]
  | succ k => rw [Ka1, if_pos (.inl hb)]; simp
 ·cases n - l.length with
  | zero => simp [Ka1]
  | succ k => rw [Ka1, if_pos (.inr hb)]; simp
 ·rw [hb, Nat.sub_self, Ka1]; simp
theorem Kdz {s : Rs} {n : Nat} {s1 : Rs} {l : List ChangeD} {l' : List UInt8} {b' b2 : Bool} (h1 : Ka3 s = (n, s1)) (h2 : Ka1 n s1 = (l, l', b')) (h3 : (b' || !(l.length == n)) = b2) : Kay s = (l, l', b2) := by
 unfold Kay
 simp only [h1, h2, h3]
structure CX (w wr : World) (q B : Nat) (cs : Array Value) (l : List UInt8) (bad : Bool) (W' : World) : Prop where
 box : W'.heap[B]? = some (.cells cs 74 (0, 0))
 ds : DSt 40 w W' q l bad
 tr : RTo q wr W'
 lo : wr.heap.size ≤ B
 ql : q < wr.heap.size
section
variable {w wr W' W'' W3 W7 : World} {q B : Nat} {cs : Array Value} {l l2 : List UInt8} {bad bad2 : Bool} {cl : List ChangeD} {ov : Value} {v : ChangeD}
theorem CX.lt (h : CX w wr q B cs l bad W') : B < W'.heap.size := (Array.getElem?_eq_some_iff.1 h.box).1
theorem CX.step (h : CX w wr q B cs l bad W') (t : RTo q W' W'') (d : DSt 40 w W'' q l2 bad2) : CX w wr q B cs l2 bad2 W'' :=
 ⟨(t.keep _ h.lt (by have := h.lo; have := h.ql; omega)).trans h.box, d, h.tr.trans t, h.lo, h.ql⟩
theorem CX.turn (h : CX w wr q B cs l bad W') {cs' : Array Value} (hB : W''.heap[B]? = some (.cells cs' 74 (0, 0))) (ho : ∀ b, b ≠ B → W''.heap[b]? = W'.heap[b]?) (hs : W''.heap.size = W'.heap.size) (hb : Below w.heap.size w W'') : CX w wr q B cs' l bad W'' :=
 ⟨hB, h.ds.other hb (ho q (by have := h.lo; have := h.ql; omega)), ⟨by rw [hs]; exact h.tr.size, fun b hb1 hq => (ho b (by have := h.lo; omega)).trans (h.tr.keep b hb1 hq)⟩, h.lo, h.ql⟩
theorem CX.base (h : CX w wr q B cs l bad W') : w.heap.size ≤ B := by have := h.ds.base; have := h.lo; have := h.ql; omega
theorem CX.set (h : CX w wr q B cs l bad W') (i : Nat) (u : Value) : CX w wr q B (cs.setIfInBounds i u) l bad (W'.setCell ⟨B, i, none⟩ u) :=
 h.turn (Kde u h.box) (fun b hb => Below.heap_setCell _ _ _ _ hb) (by simp [World.setCell]) (Kbt h.ds.b h.base u)
theorem CX.row (h : CX w wr q B cs l bad W') (cs' : Array Value) : CX w wr q B cs' l bad (W'.setRow B cs') :=
 h.turn (setRow_heap W' B cs cs' _ _ h.box) (fun b hb => setRow_other W' B b cs' hb) (by simp) (Kcn h.ds.b h.base cs')
theorem dc_more (hg : GIn COwn 74 11 (fun b => W3.heap.size ≤ b) wr ov cl) (hq : q < W3.heap.size) (ht : RTo q W3 wr) (hc : CX w wr q B cs l bad W7) (ho : COwn W7 (fun b => wr.heap.size ≤ b) v cs) (hm : cl.length ≤ 1000000) :
 ∃ p c W8, (Builtin.append_ #[58, 58] 58 #[ov, .slice (some ⟨W7.heap.size, 0, none⟩) 1 1]).run Tryz.prog (W7.alloc (.cells cs 74)) = .ok (.slice p (cl.length + 1) c) W8 ∧ GIn COwn 74 11 (fun b => W3.heap.size ≤ b) W8 (.slice p (cl.length + 1) c) (cl ++ [v]) ∧ DSt 40 w W8 q l bad ∧ RTo q W3 W8 := by
 have hs := ht.size
 have hs7 := hc.tr.size
 have hx : COwn W7 (fun b => wr.heap.size ≤ b ∧ W3.heap.size ≤ b) v cs := Kbr.imp (fun b _ hb => ⟨hb, by omega⟩) ho
 obtain ⟨v', W8, a1, a2, a3, _⟩ := hg.stepo Kbr gt_change (P' := fun b => W3.heap.size ≤ b) (W1 := W7) (fun b hp hb => hc.tr.keep b hb (by omega)) hs7 (fun b _ h => h) (fun b h => by omega) hx hm 58
 obtain ⟨p, c, rfl⟩ := a2.slice
 have el : (cl ++ [v]).length = cl.length + 1 := by simp
 rw [el] at a1 a2
 have hlow : ∀ b, ov.ownBlock = some b → W3.heap.size ≤ b := fun b e => (hg.lt b e).2
 have hbb := Kad (w := W7) (.cells cs 74)
 have hs8 := a3.size
 have hsb := hbb.size
 have hD := hc.ds
 have hT := ht.trans hc.tr
 refine ⟨p, c, W8, a1, a2, hD.other (a3.below (Kaa hD.b hbb) (fun b hb e => by have := hlow b e; have := hD.base; omega) (by have := hD.b.size; omega)) ((a3.block q (Nat.lt_of_lt_of_le hD.lt hsb) (fun e => by have := hlow q e; omega)).trans (hbb.block q hD.lt)), ⟨by omega, fun b hb hbq => (a3.block b (by omega) (fun e => by have := hlow b e; omega)).trans ((hbb.block b (by omega)).trans (hT.keep b hb hbq))⟩⟩
end
theorem dc_byte {w wr : World} {q : Nat} {l' : List UInt8} {K : Int} (hd : DSt 40 w wr q l' false) (hlen : 0 < l'.length) (hK : ((l'[0]).toNat : Int) = K) :
 ∃ bb oo c p' c', (l'.length : Int) ≤ 9223372036854775807 ∧ wr.cell? ⟨q, 0, none⟩ = some (.slice (some ⟨bb, oo, none⟩) l'.length c) ∧ wr.cell? ⟨q, 1, none⟩ = some (.bool false) ∧ wr.cell? ⟨bb, oo, none⟩ = some (.int .u8 K) ∧ (wr.alloc (.cells #[.int .i64 K, .int .i64 0, .int .i64 0, .int .i64 0, .slice none 0 0, .slice none 0 0, .int .i64 0, .int .i64 0, .int .i64 0, .string ⟨#[]⟩, .slice none 0 0] 74)).cell? ⟨q, 0, none⟩ = some (.slice (some ⟨bb, oo, none⟩) l'.length c) ∧
  (storeVar 26 ⟨q, 0, none⟩ (.slice p' (l'.length - 1) c')).run Tryz.prog (wr.alloc (.cells #[.int .i64 K, .int .i64 0, .int .i64 0, .int .i64 0, .slice none 0 0, .slice none 0 0, .int .i64 0, .int .i64 0, .int .i64 0, .string ⟨#[]⟩, .slice none 0 0] 74)) = .ok () ((wr.alloc (.cells #[.int .i64 K, .int .i64 0, .int .i64 0, .int .i64 0, .slice none 0 0, .slice none 0 0, .int .i64 0, .int .i64 0, .int .i64 0, .string ⟨#[]⟩, .slice none 0 0] 74)).setCell ⟨q, 0, none⟩ (.slice p' (l'.length - 1) c')) ∧
  (∀ W', (Instr.sliceAt 26 (.slice (some ⟨bb, oo, none⟩) l'.length c) (some (.int .i64 1)) none none).run Tryz.prog W' = .ok (.slice p' (l'.length - 1) c') W') ∧
  CX w wr q wr.heap.size #[.int .i64 K, .int .i64 0, .int .i64 0, .int .i64 0, .slice none 0 0, .slice none 0 0, .int .i64 0, .int .i64 0, .int .i64 0, .string ⟨#[]⟩, .slice none 0 0] (l'.drop 1) false ((wr.alloc (.cells #[.int .i64 K, .int .i64 0, .int .i64 0, .int .i64 0, .slice none 0 0, .slice none 0 0, .int .i64 0, .int .i64 0, .int .i64 0, .string ⟨#[]⟩, .slice none 0 0] 74)).setCell ⟨q, 0, none⟩ (.slice p' (l'.length - 1) c')) := by
 have d1 := hd.below (Kad (w := wr) (.cells #[.int .i64 K, .int .i64 0, .int .i64 0, .int .i64 0, .slice none 0 0, .slice none 0 0, .int .i64 0, .int .i64 0, .int .i64 0, .string ⟨#[]⟩, .slice none 0 0] 74))
 obtain ⟨p, c, q1, q2⟩ := hd.box
 obtain ⟨p1, c1, p', c', k1, k2, k3, k4, k5⟩ := d1.rest (k := 1) hlen
 have q3 : (wr.alloc (.cells #[.int .i64 K, .int .i64 0, .int .i64 0, .int .i64 0, .slice none 0 0, .slice none 0 0, .int .i64 0, .int .i64 0, .int .i64 0, .string ⟨#[]⟩, .slice none 0 0] 74)).heap[q]? = some (.cells #[.slice p l'.length c, .bool false] 40 (0, 0)) := Kap (Kad _) hd.lt q1
 rw [q3] at k1
 cases k1
 obtain ⟨bb, oo, rfl, hbyte⟩ := rd_first q2 hlen
 rw [hK] at hbyte
 exact ⟨bb, oo, c, p', c', Kd5 q2, Kab (o := 0) q1 rfl, Kab (o := 1) q1 rfl, Kag hd.b (ltOf hbyte) hbyte, Kab (o := 0) q3 rfl, Kbn (Kab (o := 0) q3 rfl) (Kaq (o := 0) q3), fun W' => (Kas Tryz.underlying26 _ _ _ _ W').trans (k3 W'),
  (Below.heap_setCell _ ⟨q, 0, none⟩ _ wr.heap.size (by have := hd.lt; show wr.heap.size ≠ q; omega)).trans (heap_alloc_new wr _), k4, (RTo.of_below (Kad (w := wr) (.cells #[.int .i64 K, .int .i64 0, .int .i64 0, .int .i64 0, .slice none 0 0, .slice none 0 0, .int .i64 0, .int .i64 0, .int .i64 0, .string ⟨#[]⟩, .slice none 0 0] 74))).trans k5, Nat.le_refl _, hd.lt⟩
theorem drchanges_any {w W : World} {q : Nat} {l : List UInt8} {bad : Bool} (h : DSt 40 w W q l bad) (hll : l.length ≤ 1000000) : Calls Tryz.prog 31 #[.pointer (some ⟨q, 0, none⟩)] W (Docs w W q (Kay (l, bad)) (okRow COwn 74 11 W)) := by
 have hq := h.lt
 have hN := Kd1 h
 have hcl := Ke4 (l, bad)
 have hcs := Kcs.less (l, bad)
 have HE2 : Hid (Ka3 (l, bad) = Ka3 (l, bad)) := yh rfl
 have e1 : ∃ n l' b', Ka3 (l, bad) = (n, l', b') := ⟨_, _, _, rfl⟩
 obtain ⟨n, l3, b3, e1⟩ := e1
 rw [e1] at hN hcl hcs
 replace HE2 := yh e1
 have hl3 : l3.length ≤ l.length := hcs
 have hn1 : n ≤ 1000000 := Nat.le_trans hcl (Nat.le_trans hl3 hll)
 have HN := yh hN
 have HQ0 := yh hq
 clear hN hcl hcs h hq e1
 go_enter Tryz.func31, Tryz.ntmps31
 go_wp2_with (first
  | (go_at_call 57
     (
      refine HN.out.mono ?_
      rintro e W3 ⟨v3, rfl, rfl, hD, hT⟩
      replace hD : DSt 40 w W3 q l3 b3 := hD
      have HD3 := yh hD
      have hsz := hT.size
      have hq3 : q < W3.heap.size := by have := HQ0.out; omega
      have HZ3 := yh (And.intro hT hq3)
      clear hD hT HN HQ0 hsz hq3)))
 go_loopw [3, 5] (fun ov i wr => ∃ j : Nat, j ≤ n ∧ i = .int .i64 (j : Int) ∧ Hid (∃ (cl : List ChangeD) (l' : List UInt8) (b' : Bool), cl.length = j ∧ CLoopAt n (l3, b3) cl (l', b') ∧ l'.length ≤ l.length ∧ DSt 40 w wr q l' b' ∧ RTo q W3 wr ∧ GIn COwn 74 11 (fun b => W3.heap.size ≤ b) wr ov cl)) (fun _ i _ => n - (intOf i).toNat)
 case atStart => exact ⟨0, Nat.zero_le _, rfl, yh ⟨[], l3, b3, rfl, CLoopAt.start _ _, hl3, HD3.out, RTo.refl _ _, GIn.start⟩⟩
 case round =>
  obtain ⟨j, hj, rfl, HI⟩ := hrel
  obtain ⟨cl, l', b', hlj, hloop, hl', hd, ht, hg⟩ := HI.out
  clear HI
  obtain ⟨po, co, rfl⟩ := hg.slice
  have hm1 : cl.length ≤ 1000000 := by omega
  have hc : (j < n ∧ (j : Int) < (n : Int) ∧ b' = false ∧ 0 < l'.length) ∨ ((j : Int) < (n : Int) ∧ b' = true) ∨ ((j : Int) < (n : Int) ∧ b' = false ∧ l' = []) ∨ (¬ (j : Int) < (n : Int) ∧ b' = true) ∨ (¬ (j : Int) < (n : Int) ∧ b' = false) := by
   cases b'
   ·cases l'
    ·simp; omega
    ·simp; omega
   ·simp; omega
  rcases hc with ⟨hlt, hji, rfl, hlen⟩ | ⟨hji, rfl⟩ | ⟨hji, rfl, rfl⟩ | ⟨hji, rfl⟩ | ⟨hji, rfl⟩
  ·have hlp : (0 : Int) < (l'.length : Int) := by omega
   have hlt1 : j + 1 ≤ n := hlt
   have hstep := hloop.step (by omega) rfl (fun e => by have e' : l' = [] := e; rw [e'] at hlen; simp at hlen)
   rw [docChange_cons hlen] at hstep
   have hcl := (l'[0]).toNat_lt
   have hrl : (l'.drop 1).length ≤ l.length := by rw [List.length_drop]; omega
   have hr1 : (l'.drop 1).length ≤ 1000000 := Nat.le_trans hrl hll
   generalize hc0 : (l'[0]).toNat = c0 at *
   have HG := yh (And.intro hg (And.intro ht hm1))
   have HLJ := yh hlj
   clear hg ht hm1 hlj hloop
   have hcase : c0 = 0 ∨ c0 = 1 ∨ c0 = 2 ∨ c0 = 3 ∨ c0 = 4 ∨ 5 ≤ c0 := by omega
   rcases hcase with rfl | rfl | rfl | rfl | rfl | hc5
   ·obtain ⟨bb, oo, c, p', c', zl, r0, r1, hbyw, r01, hst1, hsl, hcx⟩ := dc_byte (K := 0) hd hlen (by rw [hc0] <;> rfl)
    have cc0 := Kab (o := 0) hcx.box rfl
    have HS := yh (StT.fresh Ka8 (show (#[.int .i64 0, .int .i64 0, .int .i64 0, .int .i64 0, .slice none 0 0, .slice none 0 0, .int .i64 0, .int .i64 0, .int .i64 0, .string ⟨#[]⟩, .slice none 0 0] : Array Value).size = 11 from rfl) (by simp [Value.oneCell']) (W := wr))
    have HST1 := yh hst1
    have HSL := yh hsl
    have HCX := yh hcx
    clear hd hst1 hsl hcx hc0
    generalize l'.drop 1 = r at *
    have hX : Hid (∀ W', DSt 40 w W' q r false → Calls Tryz.prog 58 #[.pointer (some ⟨q, 0, none⟩)] W' (Docs w W' q (Kdw (r, false)) (okNode W'))) := yh fun W' k => drnode_any k hr1
    have hless' := ds_node.less (r, false)
    rw [if_pos rfl] at hstep
    have hstep' := hstep
    generalize Kdw (r, false) = rt at *
    obtain ⟨x, l6, b6⟩ := rt
    have HE := yh (And.intro hstep' (Nat.le_trans hless' hrl))
    clear hstep hstep' hless'
    go_wp2_with (first
     | ((with_reducible apply Kac); exact HS.out _ rfl; exact rfl; exact rfl; clear HS)
     | ((with_reducible apply Ka2); exact HSL.out _; exact rfl; exact rfl; exact rfl; exact rfl; clear HSL)
     | ((with_reducible apply Kac); exact HST1.out; exact rfl; exact rfl; clear HST1; generalize hW5 : World.setCell _ _ _ = W5 at *; clear hW5)
     | (go_at_call 58
        (
         refine (hX.out _ HCX.out.ds).mono ?_
         rintro e W6 ⟨v3, rfl, ⟨xs, rfl, hown⟩, hD, hT⟩
         replace hD : DSt 40 w W6 q l6 b6 := hD
         obtain ⟨vl, vp, rfl, ho1, ho2⟩ := hown
         obtain ⟨pa, ca, rfl⟩ : ∃ p c, vl = .slice p x.labels.length c := Kb4 ho1
         obtain ⟨pb, cb, rfl⟩ := ho2.slice
         have hown : True := trivial
         have hcx6 := HCX.out.step hT hD
         have HST := yh (StT.putAt Kb2 (off := 3) (cs := #[.int .i64 x.id, .slice pa x.labels.length ca, .slice pb x.props.length cb]) rfl (by simp [Value.oneCell']) hcx6.box (by decide))
         have hcx7 := hcx6.row #[.int .i64 0, .int .i64 0, .int .i64 0, .int .i64 x.id, .slice pa x.labels.length ca, .slice pb x.props.length cb, .int .i64 0, .int .i64 0, .int .i64 0, .string ⟨#[]⟩, .slice none 0 0]
         have hs5 := HCX.out.tr.size
         have hB5 := HCX.out.lt
         have hk : ∀ b, b ≠ wr.heap.size → (W6.setRow wr.heap.size #[.int .i64 0, .int .i64 0, .int .i64 0, .int .i64 x.id, .slice pa x.labels.length ca, .slice pb x.props.length cb, .int .i64 0, .int .i64 0, .int .i64 0, .string ⟨#[]⟩, .slice none 0 0]).heap[b]? = W6.heap[b]? := fun b h1 => setRow_other W6 _ b _ h1
         have hco : COwn (W6.setRow wr.heap.size #[.int .i64 0, .int .i64 0, .int .i64 0, .int .i64 x.id, .slice pa x.labels.length ca, .slice pb x.props.length cb, .int .i64 0, .int .i64 0, .int .i64 0, .string ⟨#[]⟩, .slice none 0 0]) (fun b => wr.heap.size ≤ b) ⟨0, 0, 0, x, rel0⟩ #[.int .i64 0, .int .i64 0, .int .i64 0, .int .i64 x.id, .slice pa x.labels.length ca, .slice pb x.props.length cb, .int .i64 0, .int .i64 0, .int .i64 0, .string ⟨#[]⟩, .slice none 0 0] := ⟨_, _, rfl, ⟨_, _, rfl, (ho1.keep fun b hb1 _ => hk b (by omega)).imp fun b _ hb1 => by omega, (ho2.keep Kb6 fun b hb1 _ => hk b (by omega)).imp Kb6 fun b _ hb1 => by omega⟩, rown0 _ _⟩
         have hbox := hcx7.box
         obtain ⟨p8, c8, W8, a1, a2, a3, a4⟩ := dc_more HG.out.1 HZ3.out.2 HG.out.2.1 hcx7 hco HG.out.2.2
         have hbs := Kam (P := Tryz.prog) (w := W6.setRow wr.heap.size #[.int .i64 0, .int .i64 0, .int .i64 0, .int .i64 x.id, .slice pa x.labels.length ca, .slice pb x.props.length cb, .int .i64 0, .int .i64 0, .int .i64 0, .string ⟨#[]⟩, .slice none 0 0]) (v := .agg #[.int .i64 0, .int .i64 0, .int .i64 0, .int .i64 x.id, .slice pa x.labels.length ca, .slice pb x.props.length cb, .int .i64 0, .int .i64 0, .int .i64 0, .string ⟨#[]⟩, .slice none 0 0]) Tryz.underlying58 Tryz.sizeOf74 Tryz.zeroValue74 rfl (by omega) (by omega)
         have HL := yh (StT.get (P := Tryz.prog) Ka8 rfl hbox)
         have HB := yh hbs
         have HA := yh a1
         have HR := yh (And.intro a2 (And.intro a3 a4))
         clear hbox a1 a2 a3 a4 hbs
         clear hD hT hcx6 hcx7 hk hco hX HCX hown hs5 hB5))
     | ((with_reducible apply Kac); exact HST.out; exact rfl; exact rfl; clear HST)
     | ((with_reducible apply Kal); exact HL.out; exact rfl; clear HL)
     | ((with_reducible apply Kci); exact HB.out; exact rfl; clear HB)
     | ((with_reducible apply Kar); exact HA.out; exact rfl; exact rfl; clear HA))
    go_roundw
    case rel => exact ⟨j + 1, hlt1, by go_num, yh ⟨cl ++ [_], _, _, by rw [List.length_append]; simp only [List.length_cons, List.length_nil]; have := HLJ.out; omega, HE.out.1, HE.out.2, HR.out.2.1, HR.out.2.2, HR.out.1⟩⟩
    case measure => simp [intOf]; omega
   ·obtain ⟨bb, oo, c, p', c', zl, r0, r1, hbyw, r01, hst1, hsl, hcx⟩ := dc_byte (K := 1) hd hlen (by rw [hc0] <;> rfl)
    have cc0 := Kab (o := 0) hcx.box rfl
    have HS := yh (StT.fresh Ka8 (show (#[.int .i64 1, .int .i64 0, .int .i64 0, .int .i64 0, .slice none 0 0, .slice none 0 0, .int .i64 0, .int .i64 0, .int .i64 0, .string ⟨#[]⟩, .slice none 0 0] : Array Value).size = 11 from rfl) (by simp [Value.oneCell']) (W := wr))
    have HST1 := yh hst1
    have HSL := yh hsl
    have HCX := yh hcx
    clear hd hst1 hsl hcx hc0
    generalize l'.drop 1 = r at *
    have hX : Hid (∀ W', DSt 40 w W' q r false → Calls Tryz.prog 59 #[.pointer (some ⟨q, 0, none⟩)] W' (Docs w W' q (docRel (r, false)) (okRel W'))) := yh fun W' k => drrel_any k hr1
    have hless' := ds_rel.less (r, false)
    rw [if_neg (by decide), if_pos rfl] at hstep
    have hstep' := hstep
    generalize docRel (r, false) = rt at *
    obtain ⟨x, l6, b6⟩ := rt
    have HE := yh (And.intro hstep' (Nat.le_trans hless' hrl))
    clear hstep hstep' hless'
    go_wp2_with (first
     | ((with_reducible apply Kac); exact HS.out _ rfl; exact rfl; exact rfl; clear HS)
     | ((with_reducible apply Ka2); exact HSL.out _; exact rfl; exact rfl; exact rfl; exact rfl; clear HSL)
     | ((with_reducible apply Kac); exact HST1.out; exact rfl; exact rfl; clear HST1; generalize hW5 : World.setCell _ _ _ = W5 at *; clear hW5)
     | (go_at_call 59
        (
         refine (hX.out _ HCX.out.ds).mono ?_
         rintro e W6 ⟨v3, rfl, ⟨xs, rfl, hown⟩, hD, hT⟩
         replace hD : DSt 40 w W6 q l6 b6 := hD
         obtain ⟨vp, rfl, ho2⟩ := hown
         obtain ⟨pb, cb, rfl⟩ := ho2.slice
         have hown : True := trivial
         have hcx6 := HCX.out.step hT hD
         have HST := yh (StT.putAt Kdj (off := 6) (cs := #[.int .i64 x.id, .int .i64 x.src, .int .i64 x.dst, .string (strB x.type), .slice pb x.props.length cb]) rfl (by simp [Value.oneCell']) hcx6.box (by decide))
         have hcx7 := hcx6.row #[.int .i64 1, .int .i64 0, .int .i64 0, .int .i64 0, .slice none 0 0, .slice none 0 0, .int .i64 x.id, .int .i64 x.src, .int .i64 x.dst, .string (strB x.type), .slice pb x.props.length cb]
         have hs5 := HCX.out.tr.size
         have hB5 := HCX.out.lt
         have hk : ∀ b, b ≠ wr.heap.size → (W6.setRow wr.heap.size #[.int .i64 1, .int .i64 0, .int .i64 0, .int .i64 0, .slice none 0 0, .slice none 0 0, .int .i64 x.id, .int .i64 x.src, .int .i64 x.dst, .string (strB x.type), .slice pb x.props.length cb]).heap[b]? = W6.heap[b]? := fun b h1 => setRow_other W6 _ b _ h1
         have hco : COwn (W6.setRow wr.heap.size #[.int .i64 1, .int .i64 0, .int .i64 0, .int .i64 0, .slice none 0 0, .slice none 0 0, .int .i64 x.id, .int .i64 x.src, .int .i64 x.dst, .string (strB x.type), .slice pb x.props.length cb]) (fun b => wr.heap.size ≤ b) ⟨1, 0, 0, node0, x⟩ #[.int .i64 1, .int .i64 0, .int .i64 0, .int .i64 0, .slice none 0 0, .slice none 0 0, .int .i64 x.id, .int .i64 x.src, .int .i64 x.dst, .string (strB x.type), .slice pb x.props.length cb] := ⟨_, _, rfl, nown0 _ _, ⟨_, rfl, (ho2.keep Kb6 fun b hb1 _ => hk b (by omega)).imp Kb6 fun b _ hb1 => by omega⟩⟩
         have hbox := hcx7.box
         obtain ⟨p8, c8, W8, a1, a2, a3, a4⟩ := dc_more HG.out.1 HZ3.out.2 HG.out.2.1 hcx7 hco HG.out.2.2
         have hbs := Kam (P := Tryz.prog) (w := W6.setRow wr.heap.size #[.int .i64 1, .int .i64 0, .int .i64 0, .int .i64 0, .slice none 0 0, .slice none 0 0, .int .i64 x.id, .int .i64 x.src, .int .i64 x.dst, .string (strB x.type), .slice pb x.props.length cb]) (v := .agg #[.int .i64 1, .int .i64 0, .int .i64 0, .int .i64 0, .slice none 0 0, .slice none 0 0, .int .i64 x.id, .int .i64 x.src, .int .i64 x.dst, .string (strB x.type), .slice pb x.props.length cb]) Tryz.underlying58 Tryz.sizeOf74 Tryz.zeroValue74 rfl (by omega) (by omega)
         have HL := yh (StT.get (P := Tryz.prog) Ka8 rfl hbox)
         have HB := yh hbs
         have HA := yh a1
         have HR := yh (And.intro a2 (And.intro a3 a4))
         clear hbox a1 a2 a3 a4 hbs
         clear hD hT hcx6 hcx7 hk hco hX HCX hown hs5 hB5))
     | ((with_reducible apply Kac); exact HST.out; exact rfl; exact rfl; clear HST)
     | ((with_reducible apply Kal); exact HL.out; exact rfl; clear HL)
     | ((with_reducible apply Kci); exact HB.out; exact rfl; clear HB)
     | ((with_reducible apply Kar); exact HA.out; exact rfl; exact rfl; clear HA))
    go_roundw
    case rel => exact ⟨j + 1, hlt1, by go_num, yh ⟨cl ++ [_], _, _, by rw [List.length_append]; simp only [List.length_cons, List.length_nil]; have := HLJ.out; omega, HE.out.1, HE.out.2, HR.out.2.1, HR.out.2.2, HR.out.1⟩⟩
    case measure => simp [intOf]; omega
   ·obtain ⟨bb, oo, c, p', c', zl, r0, r1, hbyw, r01, hst1, hsl, hcx⟩ := dc_byte (K := 2) hd hlen (by rw [hc0] <;> rfl)
    have cc0 := Kab (o := 0) hcx.box rfl
    have HS := yh (StT.fresh Ka8 (show (#[.int .i64 2, .int .i64 0, .int .i64 0, .int .i64 0, .slice none 0 0, .slice none 0 0, .int .i64 0, .int .i64 0, .int .i64 0, .string ⟨#[]⟩, .slice none 0 0] : Array Value).size = 11 from rfl) (by simp [Value.oneCell']) (W := wr))
    have HST1 := yh hst1
    have HSL := yh hsl
    have HCX := yh hcx
    clear hd hst1 hsl hcx hc0
    generalize l'.drop 1 = r at *
    have hX : Hid (∀ W', DSt 40 w W' q r false → Calls Tryz.prog 73 #[.pointer (some ⟨q, 0, none⟩)] W' (Docs w W' q (Kau (r, false)) fun n v _ => v = .int .i64 n)) := yh fun W' k => dsign_any k
    have hless' := Kbw.less (r, false)
    rw [if_neg (by decide), if_neg (by decide), if_pos (by decide)] at hstep
    generalize Kau (r, false) = rt at *
    obtain ⟨x, l6, b6⟩ := rt
    have HE := yh (And.intro hstep (Nat.le_trans hless' hrl))
    clear hstep hless'
    go_wp2_with (first
     | ((with_reducible apply Kac); exact HS.out _ rfl; exact rfl; exact rfl; clear HS)
     | ((with_reducible apply Ka2); exact HSL.out _; exact rfl; exact rfl; exact rfl; exact rfl; clear HSL)
     | ((with_reducible apply Kac); exact HST1.out; exact rfl; exact rfl; clear HST1; generalize hW5 : World.setCell _ _ _ = W5 at *; clear hW5)
     | (go_at_call 73
        (
         refine (hX.out _ HCX.out.ds).mono ?_
         rintro e W6 ⟨v3, rfl, rfl, hD, hT⟩
         replace hD : DSt 40 w W6 q l6 b6 := hD
         have hcx6 := HCX.out.step hT hD
         have HST := yh (Kcd (n := x) (Kab (o := 1) hcx6.box rfl) (Kaq (o := 1) hcx6.box))
         have hcx7 := hcx6.set 1 (.int .i64 x)
         simp only [List.setIfInBounds_toArray, List.set_cons_zero, List.set_cons_succ] at hcx7
         have hco : COwn (W6.setCell ⟨wr.heap.size, 1, none⟩ (.int .i64 x)) (fun b => wr.heap.size ≤ b) ⟨2, x, 0, node0, rel0⟩ #[.int .i64 2, .int .i64 x, .int .i64 0, .int .i64 0, .slice none 0 0, .slice none 0 0, .int .i64 0, .int .i64 0, .int .i64 0, .string ⟨#[]⟩, .slice none 0 0] := Kd6 _ _ 2 x 0
         have hbox := hcx7.box
         obtain ⟨p8, c8, W8, a1, a2, a3, a4⟩ := dc_more HG.out.1 HZ3.out.2 HG.out.2.1 hcx7 hco HG.out.2.2
         have hbs := Kam (P := Tryz.prog) (w := W6.setCell ⟨wr.heap.size, 1, none⟩ (.int .i64 x)) (v := .agg #[.int .i64 2, .int .i64 x, .int .i64 0, .int .i64 0, .slice none 0 0, .slice none 0 0, .int .i64 0, .int .i64 0, .int .i64 0, .string ⟨#[]⟩, .slice none 0 0]) Tryz.underlying58 Tryz.sizeOf74 Tryz.zeroValue74 rfl (by omega) (by omega)
         have HL := yh (StT.get (P := Tryz.prog) Ka8 rfl hbox)
         have HB := yh hbs
         have HA := yh a1
         have HR := yh (And.intro a2 (And.intro a3 a4))
         clear hbox a1 a2 a3 a4 hbs
         clear hD hT hcx6 hcx7 hco hX HCX))
     | ((with_reducible apply Kac); exact HST.out; exact rfl; exact rfl; clear HST)
     | ((with_reducible apply Kal); exact HL.out; exact rfl; clear HL)
     | ((with_reducible apply Kci); exact HB.out; exact rfl; clear HB)
     | ((with_reducible apply Kar); exact HA.out; exact rfl; exact rfl; clear HA))
    go_roundw
    case rel => exact ⟨j + 1, hlt1, by go_num, yh ⟨cl ++ [_], _, _, by rw [List.length_append]; simp only [List.length_cons, List.length_nil]; have := HLJ.out; omega, HE.out.1, HE.out.2, HR.out.2.1, HR.out.2.2, HR.out.1⟩⟩
    case measure => simp [intOf]; omega
   ·obtain ⟨bb, oo, c, p', c', zl, r0, r1, hbyw, r01, hst1, hsl, hcx⟩ := dc_byte (K := 3) hd hlen (by rw [hc0] <;> rfl)
    have cc0 := Kab (o := 0) hcx.box rfl
    have HS := yh (StT.fresh Ka8 (show (#[.int .i64 3, .int .i64 0, .int .i64 0, .int .i64 0, .slice none 0 0, .slice none 0 0, .int .i64 0, .int .i64 0, .int .i64 0, .string ⟨#[]⟩, .slice none 0 0] : Array Value).size = 11 from rfl) (by simp [Value.oneCell']) (W := wr))
    have HST1 := yh hst1
    have HSL := yh hsl
    have HCX := yh hcx
    clear hd hst1 hsl hcx hc0
    generalize l'.drop 1 = r at *
    have hX : Hid (∀ W', DSt 40 w W' q r false → Calls Tryz.prog 73 #[.pointer (some ⟨q, 0, none⟩)] W' (Docs w W' q (Kau (r, false)) fun n v _ => v = .int .i64 n)) := yh fun W' k => dsign_any k
    have hless' := Kbw.less (r, false)
    rw [if_neg (by decide), if_neg (by decide), if_pos (by decide)] at hstep
    generalize Kau (r, false) = rt at *
    obtain ⟨x, l6, b6⟩ := rt
    have HE := yh (And.intro hstep (Nat.le_trans hless' hrl))
    clear hstep hless'
    go_wp2_with (first
     | ((with_reducible apply Kac); exact HS.out _ rfl; exact rfl; exact rfl; clear HS)
     | ((with_reducible apply Ka2); exact HSL.out _; exact rfl; exact rfl; exact rfl; exact rfl; clear HSL)
     | ((with_reducible apply Kac); exact HST1.out; exact rfl; exact rfl; clear HST1; generalize hW5 : World.setCell _ _ _ = W5 at *; clear hW5)
     | (go_at_call 73
        (
         refine (hX.out _ HCX.out.ds).mono ?_
         rintro e W6 ⟨v3, rfl, rfl, hD, hT⟩
         replace hD : DSt 40 w W6 q l6 b6 := hD
         have hcx6 := HCX.out.step hT hD
         have HST := yh (Kcd (n := x) (Kab (o := 1) hcx6.box rfl) (Kaq (o := 1) hcx6.box))
         have hcx7 := hcx6.set 1 (.int .i64 x)
         simp only [List.setIfInBounds_toArray, List.set_cons_zero, List.set_cons_succ] at hcx7
         have hco : COwn (W6.setCell ⟨wr.heap.size, 1, none⟩ (.int .i64 x)) (fun b => wr.heap.size ≤ b) ⟨3, x, 0, node0, rel0⟩ #[.int .i64 3, .int .i64 x, .int .i64 0, .int .i64 0, .slice none 0 0, .slice none 0 0, .int .i64 0, .int .i64 0, .int .i64 0, .string ⟨#[]⟩, .slice none 0 0] := Kd6 _ _ 3 x 0
         have hbox := hcx7.box
         obtain ⟨p8, c8, W8, a1, a2, a3, a4⟩ := dc_more HG.out.1 HZ3.out.2 HG.out.2.1 hcx7 hco HG.out.2.2
         have hbs := Kam (P := Tryz.prog) (w := W6.setCell ⟨wr.heap.size, 1, none⟩ (.int .i64 x)) (v := .agg #[.int .i64 3, .int .i64 x, .int .i64 0, .int .i64 0, .slice none 0 0, .slice none 0 0, .int .i64 0, .int .i64 0, .int .i64 0, .string ⟨#[]⟩, .slice none 0 0]) Tryz.underlying58 Tryz.sizeOf74 Tryz.zeroValue74 rfl (by omega) (by omega)
         have HL := yh (StT.get (P := Tryz.prog) Ka8 rfl hbox)
         have HB := yh hbs
         have HA := yh a1
         have HR := yh (And.intro a2 (And.intro a3 a4))
         clear hbox a1 a2 a3 a4 hbs
         clear hD hT hcx6 hcx7 hco hX HCX))
     | ((with_reducible apply Kac); exact HST.out; exact rfl; exact rfl; clear HST)
     | ((with_reducible apply Kal); exact HL.out; exact rfl; clear HL)
     | ((with_reducible apply Kci); exact HB.out; exact rfl; clear HB)
     | ((with_reducible apply Kar); exact HA.out; exact rfl; exact rfl; clear HA))
    go_roundw
    case rel => exact ⟨j + 1, hlt1, by go_num, yh ⟨cl ++ [_], _, _, by rw [List.length_append]; simp only [List.length_cons, List.length_nil]; have := HLJ.out; omega, HE.out.1, HE.out.2, HR.out.2.1, HR.out.2.2, HR.out.1⟩⟩
    case measure => simp [intOf]; omega
   ·obtain ⟨bb, oo, c, p', c', zl, r0, r1, hbyw, r01, hst1, hsl, hcx⟩ := dc_byte (K := 4) hd hlen (by rw [hc0] <;> rfl)
    have cc0 := Kab (o := 0) hcx.box rfl
    have HS := yh (StT.fresh Ka8 (show (#[.int .i64 4, .int .i64 0, .int .i64 0, .int .i64 0, .slice none 0 0, .slice none 0 0, .int .i64 0, .int .i64 0, .int .i64 0, .string ⟨#[]⟩, .slice none 0 0] : Array Value).size = 11 from rfl) (by simp [Value.oneCell']) (W := wr))
    have HST1 := yh hst1
    have HSL := yh hsl
    have HCX := yh hcx
    clear hd hst1 hsl hcx hc0
    generalize l'.drop 1 = r at *
    have hX : Hid (∀ W' r b, DSt 40 w W' q r b → Calls Tryz.prog 73 #[.pointer (some ⟨q, 0, none⟩)] W' (Docs w W' q (Kau (r, b)) fun n v _ => v = .int .i64 n)) := yh fun W' r b k => dsign_any k
    have hX1 := hX.out
    have hless1 := Kbw.less (r, false)
    have hless2 := Kbw.less (Kau (r, false)).2
    rw [if_neg (by decide), if_neg (by decide), if_neg (by decide), if_pos rfl] at hstep
    have HC1 := yh (fun W' => hX1 W' r false)
    clear hX1
    generalize Kau (r, false) = rt at *
    obtain ⟨x, l6, b6⟩ := rt
    have HC2 := yh (fun W' => hX.out W' l6 b6)
    generalize Kau (l6, b6) = rt at *
    obtain ⟨y, l7, b7⟩ := rt
    have HE := yh (And.intro hstep (Nat.le_trans hless2 (Nat.le_trans hless1 hrl)))
    clear hstep hless1 hless2 hX
    go_wp2_with (first
     | ((with_reducible apply Kac); exact HS.out _ rfl; exact rfl; exact rfl; clear HS)
     | ((with_reducible apply Ka2); exact HSL.out _; exact rfl; exact rfl; exact rfl; exact rfl; clear HSL)
     | ((with_reducible apply Kac); exact HST1.out; exact rfl; exact rfl; clear HST1; generalize hW5 : World.setCell _ _ _ = W5 at *; clear hW5)
     | (go_at_call 73
        first
         | (refine (HC1.out _ HCX.out.ds).mono ?_
            (
             rintro e W6 ⟨v3, rfl, rfl, hD, hT⟩
             replace hD : DSt 40 w W6 q l6 b6 := hD
             have hcx6 := HCX.out.step hT hD
             have HST := yh (Kcd (n := x) (Kab (o := 1) hcx6.box rfl) (Kaq (o := 1) hcx6.box))
             have hcx7 := hcx6.set 1 (.int .i64 x)
             simp only [List.setIfInBounds_toArray, List.set_cons_zero, List.set_cons_succ] at hcx7
             have HCY := yh hcx7
             clear hD hT hcx6 hcx7 HC1 HCX))
         | (refine (HC2.out _ HCY.out.ds).mono ?_
            (
             rintro e W7 ⟨v3, rfl, rfl, hD, hT⟩
             replace hD : DSt 40 w W7 q l7 b7 := hD
             have hcx6 := HCY.out.step hT hD
             have HST2 := yh (Kcd (n := y) (Kab (o := 2) hcx6.box rfl) (Kaq (o := 2) hcx6.box))
             have hcx7 := hcx6.set 2 (.int .i64 y)
             simp only [List.setIfInBounds_toArray, List.set_cons_zero, List.set_cons_succ] at hcx7
             have hco : COwn (W7.setCell ⟨wr.heap.size, 2, none⟩ (.int .i64 y)) (fun b => wr.heap.size ≤ b) ⟨4, x, y, node0, rel0⟩ #[.int .i64 4, .int .i64 x, .int .i64 y, .int .i64 0, .slice none 0 0, .slice none 0 0, .int .i64 0, .int .i64 0, .int .i64 0, .string ⟨#[]⟩, .slice none 0 0] := Kd6 _ _ 4 x y
             have hbox := hcx7.box
             obtain ⟨p8, c8, W8, a1, a2, a3, a4⟩ := dc_more HG.out.1 HZ3.out.2 HG.out.2.1 hcx7 hco HG.out.2.2
             have hbs := Kam (P := Tryz.prog) (w := W7.setCell ⟨wr.heap.size, 2, none⟩ (.int .i64 y)) (v := .agg #[.int .i64 4, .int .i64 x, .int .i64 y, .int .i64 0, .slice none 0 0, .slice none 0 0, .int .i64 0, .int .i64 0, .int .i64 0, .string ⟨#[]⟩, .slice none 0 0]) Tryz.underlying58 Tryz.sizeOf74 Tryz.zeroValue74 rfl (by omega) (by omega)
             have HL := yh (StT.get (P := Tryz.prog) Ka8 rfl hbox)
             have HB := yh hbs
             have HA := yh a1
             have HR := yh (And.intro a2 (And.intro a3 a4))
             clear hbox a1 a2 a3 a4 hbs
             clear hD hT hcx6 hcx7 hco HC2 HCY)))
     | ((with_reducible apply Kac); exact HST.out; exact rfl; exact rfl; clear HST)
     | ((with_reducible apply Kac); exact HST2.out; exact rfl; exact rfl; clear HST2)
     | ((with_reducible apply Kal); exact HL.out; exact rfl; clear HL)
     | ((with_reducible apply Kci); exact HB.out; exact rfl; clear HB)
     | ((with_reducible apply Kar); exact HA.out; exact rfl; exact rfl; clear HA))
    go_roundw
    case rel => exact ⟨j + 1, hlt1, by go_num, yh ⟨cl ++ [_], _, _, by rw [List.length_append]; simp only [List.length_cons, List.length_nil]; have := HLJ.out; omega, HE.out.1, HE.out.2, HR.out.2.1, HR.out.2.2, HR.out.1⟩⟩
    case measure => simp [intOf]; omega
   ·obtain ⟨bb, oo, c, p', c', zl, r0, r1, hbyw, r01, hst1, hsl, hcx⟩ := dc_byte (K := (c0 : Int)) hd hlen (by rw [hc0] <;> rfl)
    have cc0 := Kab (o := 0) hcx.box rfl
    have HS := yh (StT.fresh Ka8 (show (#[.int .i64 (c0 : Int), .int .i64 0, .int .i64 0, .int .i64 0, .slice none 0 0, .slice none 0 0, .int .i64 0, .int .i64 0, .int .i64 0, .string ⟨#[]⟩, .slice none 0 0] : Array Value).size = 11 from rfl) (by simp [Value.oneCell']) (W := wr))
    have HST1 := yh hst1
    have HSL := yh hsl
    have HCX := yh hcx
    clear hd hst1 hsl hcx hc0
    generalize l'.drop 1 = r at *
    rw [if_neg (by omega), if_neg (by omega), if_neg (by omega), if_neg (by omega)] at hstep
    have HE := yh (And.intro hstep hrl)
    have k0 : ((c0 : Int) == 0) = false := by rw [beq_eq_false_iff_ne]; omega
    have k1 : ((c0 : Int) == 1) = false := by rw [beq_eq_false_iff_ne]; omega
    have k2 : ((c0 : Int) == 2) = false := by rw [beq_eq_false_iff_ne]; omega
    have k3 : ((c0 : Int) == 3) = false := by rw [beq_eq_false_iff_ne]; omega
    have k4 : ((c0 : Int) == 4) = false := by rw [beq_eq_false_iff_ne]; omega
    clear hstep
    go_wp2_with (first
     | ((with_reducible apply Kac); exact HS.out _ rfl; exact rfl; exact rfl; clear HS)
     | ((with_reducible apply Ka2); exact HSL.out _; exact rfl; exact rfl; exact rfl; exact rfl; clear HSL)
     | ((with_reducible apply Kac); exact HST1.out; exact rfl; exact rfl; clear HST1; generalize hW5 : World.setCell _ _ _ = W5 at *; clear hW5
        (
         obtain ⟨pz, cz, m1, m2⟩ := HCX.out.ds.box
         have HSB := yh (Kcm (n := true) (Kab (o := 1) m1 rfl) (Kaq (o := 1) m1))
         have hdt := HCX.out.ds.set true
         have hcx7 := HCX.out.step hdt.2 hdt.1
         have hco : COwn (W5.setCell ⟨q, 1, none⟩ (.bool true)) (fun b => wr.heap.size ≤ b) ⟨(c0 : Int), 0, 0, node0, rel0⟩ #[.int .i64 (c0 : Int), .int .i64 0, .int .i64 0, .int .i64 0, .slice none 0 0, .slice none 0 0, .int .i64 0, .int .i64 0, .int .i64 0, .string ⟨#[]⟩, .slice none 0 0] := Kd6 _ _ (c0 : Int) 0 0
         have hbox := hcx7.box
         obtain ⟨p8, c8, W8, a1, a2, a3, a4⟩ := dc_more HG.out.1 HZ3.out.2 HG.out.2.1 hcx7 hco HG.out.2.2
         have hbs := Kam (P := Tryz.prog) (w := W5.setCell ⟨q, 1, none⟩ (.bool true)) (v := .agg #[.int .i64 (c0 : Int), .int .i64 0, .int .i64 0, .int .i64 0, .slice none 0 0, .slice none 0 0, .int .i64 0, .int .i64 0, .int .i64 0, .string ⟨#[]⟩, .slice none 0 0]) Tryz.underlying58 Tryz.sizeOf74 Tryz.zeroValue74 rfl (by omega) (by omega)
         have HL := yh (StT.get (P := Tryz.prog) Ka8 rfl hbox)
         have HB := yh hbs
         have HA := yh a1
         have HR := yh (And.intro a2 (And.intro a3 a4))
         clear hbox a1 a2 a3 a4 hbs
         clear hdt hcx7 hco m1 m2 HCX))
     | ((with_reducible apply Kac); exact HSB.out; exact rfl; exact rfl; clear HSB)
     | ((with_reducible apply Kal); exact HL.out; exact rfl; clear HL)
     | ((with_reducible apply Kci); exact HB.out; exact rfl; clear HB)
     | ((with_reducible apply Kar); exact HA.out; exact rfl; exact rfl; clear HA))
    go_roundw
    case rel => exact ⟨j + 1, hlt1, by go_num, yh ⟨cl ++ [_], _, _, by rw [List.length_append]; simp only [List.length_cons, List.length_nil]; have := HLJ.out; omega, HE.out.1, HE.out.2, HR.out.2.1, HR.out.2.2, HR.out.1⟩⟩
    case measure => simp [intOf]; omega
  ·have hstop := hloop.stop (.inl rfl)
   have hfin := Kdz HE2.out hstop (b2 := true) (by simp)
   have hS := hd.set true
   obtain ⟨pz, cz, m1, m2⟩ := hd.box
   have r0 := Kab (o := 0) m1 rfl
   have r1 := Kab (o := 1) m1 rfl
   have zz := Kd5 m2
   have HSB := yh (Kcm (n := true) r1 (Kaq (o := 1) m1))
   have hown := (hg.own Kbr).keep Kbr (w' := wr.setCell ⟨q, 1, none⟩ (.bool true)) fun b hb _ => Below.heap_setCell wr ⟨q, 1, none⟩ (.bool true) b (by have := HZ3.out.2; show b ≠ q; omega)
   have HF : Hid (∀ r : List ChangeD × Rs, r = Kay (l, bad) → Docs w W q r (okRow COwn 74 11 W) (.returned (.slice po cl.length co)) (wr.setCell ⟨q, 1, none⟩ (.bool true))) := yh fun r hr => by
    rw [hr, hfin]
    exact ⟨_, rfl, hown.imp Kbr (fun b _ hb => Nat.le_trans HZ3.out.1.size hb), hS.1, (HZ3.out.1.trans ht).trans hS.2⟩
   clear hstop hfin hS hown hd hg ht hloop hlj m1 m2 hm1
   go_wp2_with ((with_reducible apply Kac); exact HSB.out; exact rfl; exact rfl; clear HSB)
   go_ret
   exact HF.out _ rfl
  ·have hstop := hloop.stop (.inr (.inl rfl))
   have hfin := Kdz HE2.out hstop (b2 := true) (by simp; try omega)
   have hS := hd.set true
   obtain ⟨pz, cz, m1, m2⟩ := hd.box
   have r0 := Kab (o := 0) m1 rfl
   have r1 := Kab (o := 1) m1 rfl
   have zz := Kd5 m2
   have hne : ((cl.length : Int) != (n : Int)) = true := by rw [bne_iff_ne]; omega
   have HSB := yh (Kcm (n := true) r1 (Kaq (o := 1) m1))
   have hown := (hg.own Kbr).keep Kbr (w' := wr.setCell ⟨q, 1, none⟩ (.bool true)) fun b hb _ => Below.heap_setCell wr ⟨q, 1, none⟩ (.bool true) b (by have := HZ3.out.2; show b ≠ q; omega)
   have HF : Hid (∀ r : List ChangeD × Rs, r = Kay (l, bad) → Docs w W q r (okRow COwn 74 11 W) (.returned (.slice po cl.length co)) (wr.setCell ⟨q, 1, none⟩ (.bool true))) := yh fun r hr => by
    rw [hr, hfin]
    exact ⟨_, rfl, hown.imp Kbr (fun b _ hb => Nat.le_trans HZ3.out.1.size hb), hS.1, (HZ3.out.1.trans ht).trans hS.2⟩
   clear hstop hfin hS hown hd hg ht hloop hlj m1 m2 hm1
   go_wp2_with ((with_reducible apply Kac); exact HSB.out; exact rfl; exact rfl; clear HSB)
   go_ret
   exact HF.out _ rfl
  ·have hstop := hloop.stop (.inl rfl)
   have hfin := Kdz HE2.out hstop (b2 := true) (by simp)
   have hS := hd.set true
   obtain ⟨pz, cz, m1, m2⟩ := hd.box
   have r0 := Kab (o := 0) m1 rfl
   have r1 := Kab (o := 1) m1 rfl
   have zz := Kd5 m2
   have HSB := yh (Kcm (n := true) r1 (Kaq (o := 1) m1))
   have hown := (hg.own Kbr).keep Kbr (w' := wr.setCell ⟨q, 1, none⟩ (.bool true)) fun b hb _ => Below.heap_setCell wr ⟨q, 1, none⟩ (.bool true) b (by have := HZ3.out.2; show b ≠ q; omega)
   have HF : Hid (∀ r : List ChangeD × Rs, r = Kay (l, bad) → Docs w W q r (okRow COwn 74 11 W) (.returned (.slice po cl.length co)) (wr.setCell ⟨q, 1, none⟩ (.bool true))) := yh fun r hr => by
    rw [hr, hfin]
    exact ⟨_, rfl, hown.imp Kbr (fun b _ hb => Nat.le_trans HZ3.out.1.size hb), hS.1, (HZ3.out.1.trans ht).trans hS.2⟩
   clear hstop hfin hS hown hd hg ht hloop hlj m1 m2 hm1
   go_wp2_with ((with_reducible apply Kac); exact HSB.out; exact rfl; exact rfl; clear HSB)
   go_ret
   exact HF.out _ rfl
  ·have hstop := hloop.stop (.inr (.inr (by omega)))
   have hfin := Kdz HE2.out hstop (b2 := false) (by simp; try omega)
   have hS := hd.set false
   obtain ⟨pz, cz, m1, m2⟩ := hd.box
   have r0 := Kab (o := 0) m1 rfl
   have r1 := Kab (o := 1) m1 rfl
   have zz := Kd5 m2
   have hne : ((cl.length : Int) != (n : Int)) = false := by rw [bne_eq_false_iff_eq]; omega
   have HSB := yh (Kcm (n := false) r1 (Kaq (o := 1) m1))
   have hown := (hg.own Kbr).keep Kbr (w' := wr.setCell ⟨q, 1, none⟩ (.bool false)) fun b hb _ => Below.heap_setCell wr ⟨q, 1, none⟩ (.bool false) b (by have := HZ3.out.2; show b ≠ q; omega)
   have HF : Hid (∀ r : List ChangeD × Rs, r = Kay (l, bad) → Docs w W q r (okRow COwn 74 11 W) (.returned (.slice po cl.length co)) (wr.setCell ⟨q, 1, none⟩ (.bool false))) := yh fun r hr => by
    rw [hr, hfin]
    exact ⟨_, rfl, hown.imp Kbr (fun b _ hb => Nat.le_trans HZ3.out.1.size hb), hS.1, (HZ3.out.1.trans ht).trans hS.2⟩
   clear hstop hfin hS hown hd hg ht hloop hlj m1 m2 hm1
   go_wp2_with ((with_reducible apply Kac); exact HSB.out; exact rfl; exact rfl; clear HSB)
   go_ret
   exact HF.out _ rfl
section
variable {w W W1 : World} {o : Value} {l m : List UInt8}
theorem Buf.shape (h : Buf w W o l) : ∃ p c, o = .slice p l.length c := Kb4 h.own
theorem Buf.ap (h : Buf w W o l) (hb : Below W.heap.size W W1) {ad : Addr} {c : Nat} (src : ∀ (j : Nat) (u : Value), (m.map byteV)[j]? = some u → W1.cell? (ad.add j) = some u) (hn : l.length + m.length ≤ 70368744177664) (ty : TypeId) :
 ∃ v W', (Builtin.append_ #[26, 26] ty #[o, .slice (some ad) m.length c]).run Tryz.prog W1 = .ok v W' ∧ Buf w W' v (l ++ m) := by
 have h1 := h.below hb
 obtain ⟨i, i1, i2, i3, i4⟩ := info_u8v
 have hsz := h1.b.size
 obtain ⟨v', W', a1, a2, a3, a4, a5⟩ := Kdi (P := Tryz.prog) (w := W1) 26 ty 5 i _ 1 1 Tryz.underlying26 i1 i2 i3 i4 rfl o l.length _ h1.own.1 ad m.length c (m.map byteV)
  (by simp) src (fun u hu => by obtain ⟨s, _, rfl⟩ := List.mem_map.1 hu; rfl) (by unfold maxLen; omega) (by omega)
 refine ⟨v', W', a1, ⟨?_, fun q hq => ?_⟩, ?_⟩
 ·rw [List.length_append, List.map_append]; exact a2
 ·rcases a4 with e | e
  ·exact h1.own.2 q (e.symm.trans hq)
  ·rw [e] at hq; cases hq; exact hsz
 ·exact a3.below h1.b (fun b hb e => by have := h1.own.2 b e; omega) hsz
theorem Buf.apr (h : Buf w W o l) (hb : Below W.heap.size W W1) {a : Option Addr} {n c : Nat} (hm : RdB W1 (.slice a n c) m) (hn : l.length + m.length ≤ 70368744177664) (ty : TypeId) :
 ∃ v W', (Builtin.append_ #[26, 26] ty #[o, .slice a n c]).run Tryz.prog W1 = .ok v W' ∧ Buf w W' v (l ++ m) := by
 obtain ⟨a', cap, heq, h1, h2⟩ := hm
 cases heq
 cases a with
 | none =>
   have hc := h1.2.2 rfl
   have hn : m = [] := List.eq_nil_of_length_eq_zero (by omega)
   subst hn; subst hc
   obtain ⟨i, i1, i2, i3, i4⟩ := info_u8v
   have hbl := h.below hb
   exact ⟨o, W1, Keq (P := Tryz.prog) 26 ty 5 i 1 Tryz.underlying26 i1 i3 o l.length _ hbl.own.1, by rw [List.append_nil]; exact hbl⟩
 | some ad =>
   have hcell := RdB.at (w := W1) (c := c) ⟨_, _, rfl, h1, h2⟩
   exact h.ap hb (fun j u hu => by
    rw [List.getElem?_map, Option.map_eq_some_iff] at hu
    obtain ⟨b, hb, rfl⟩ := hu
    exact hcell j b hb) hn ty
theorem Buf.rd (h : Buf w W o l) : RdB W o l := by
 have hcells := fun (g : Nat) (e : o.ownBlock = some g) => h.own.1.cells (g := g) e
 rcases h.own.1.2 with ⟨rfl, h0⟩ | ⟨g, cap, cur, rfl, _, hg, hnc, hcm, hcs, htake⟩
 ·have : l = [] := List.eq_nil_of_length_eq_zero h0
  subst this
  exact ⟨none, 0, rfl, ⟨Nat.le_refl _, by simp [maxLen], fun _ => rfl⟩, fun ad h => by cases h⟩
 ·refine ⟨some ⟨g, 0, none⟩, cap, rfl, ⟨hnc, hcm, fun h => by cases h⟩, fun ad had => ?_⟩
  cases had
  refine ⟨fun _ => rfl, fun i b hi => ?_⟩
  have := hcells g rfl i (.int .u8 (b.toNat : Int)) (by rw [List.getElem?_map, hi]; rfl)
  rw [Kbb] at this; exact this
theorem Buf.apt (h : Buf w W o l) (hb : Below W.heap.size W W1) (s : List UInt8) (hn : l.length + s.length ≤ 70368744177664) (ty : TypeId) :
 ∃ c W2 v W', (convert 9 26 (.string (strB s))).run Tryz.prog W1 = .ok (.slice (some ⟨W1.heap.size, 0, none⟩) s.length c) W2 ∧
  (Builtin.append_ #[26, 26] ty #[o, .slice (some ⟨W1.heap.size, 0, none⟩) s.length c]).run Tryz.prog W2 = .ok v W' ∧ Buf w W' v (l ++ s) := by
 obtain ⟨c, W2, h1, h2, h3⟩ := bytes_of s W1
 have hb2 : Below W.heap.size W W2 := Kaa hb h2
 obtain ⟨v, W', h4, h5⟩ := h.ap (ad := ⟨W1.heap.size, 0, none⟩) (m := s) hb2 (fun j u hu => by
  rw [List.getElem?_map, Option.map_eq_some_iff] at hu
  obtain ⟨b, hbj, rfl⟩ := hu
  obtain ⟨hj, rfl⟩ := List.getElem?_eq_some_iff.1 hbj
  rw [Kbb, Nat.zero_add]
  exact h3 j hj) hn ty
 exact ⟨c, W2, v, W', h1, h4, h5⟩
end
theorem byte_add128 {k : Nat} (h : k < 18446744073709551616) : (128 + (k : Int) % 128) = ((UInt8.ofNat (k % 128 + 128)).toNat : Int) := by
 rw [Kcc (by omega)]
 omega
theorem Kb1 {n : Nat} (hn : n < 18446744073709551616) (w : World) : Calls Tryz.prog 46 #[.int .u64 (n : Int)] w fun e w' => ∃ o, e = .returned o ∧ Buf w w' o (numB n) := by
 go_enter Tryz.func46, Tryz.ntmps46
 go_wp2
 go_loopw [0, 3] (fun i o wr => ∃ (k : Nat) (pre : List UInt8), i = .int .u64 (k : Int) ∧ k < 18446744073709551616 ∧ pre ++ numB k = numB n ∧ Hid (Buf w wr o pre)) (fun i _ _ => (intOf i).toNat)
 case atStart => exact ⟨n, [], rfl, hn, rfl, yh (Buf.empty w)⟩
 case round =>
  obtain ⟨k, pre, rfl, hk, hpre, HB⟩ := hrel
  have hlen : pre.length ≤ 1000000 := by
   have := congrArg List.length hpre
   have := numB_len 10 n (Nat.lt_of_lt_of_le hn (by decide)) (by omega)
   simp only [List.length_append] at *
   omega
  by_cases h : 128 ≤ k
  ·have h' : (128 : Int) ≤ (k : Int) := by omega
   obtain ⟨v, W', ha, hI⟩ := HB.out.one (UInt8.ofNat (k % 128 + 128)) hlen 26
   rw [← byte_add128 hk] at ha
   have Ha := yh ha
   have HI := yh hI
   have HP := yh hpre
   clear ha hI hpre hlen
   go_wp2_with (refine Kc2 rfl rfl rfl rfl Ha.out ?_)
   go_roundw
   case rel => exact ⟨k / 128, pre ++ [UInt8.ofNat (k % 128 + 128)], by simp, by omega, by rw [List.append_assoc, List.singleton_append, ← Kec (by omega)]; exact HP.out, HI⟩
   case measure => simp [intOf]; omega
  ·have h' : (k : Int) < 128 := by omega
   obtain ⟨v, W', ha, hI⟩ := HB.out.one (UInt8.ofNat k) hlen 26
   have e3 : ((UInt8.ofNat k).toNat : Int) = (k : Int) := by rw [Kcc (by omega)]
   rw [e3] at ha
   rw [← Kc6 (by omega), hpre] at hI
   have Ha := yh ha
   have HI := yh hI
   clear ha hI hpre hlen
   go_wp2_with (refine Kc2 rfl rfl rfl rfl Ha.out ?_)
   go_ret
   exact ⟨_, rfl, HI.out⟩
theorem Kd9 {n : Int} (hn : i64T n) (w : World) : Calls Tryz.prog 67 #[.int .i64 n] w fun e w' => ∃ o, e = .returned o ∧ Buf w w' o (numB (zzN n)) := by
 have hz := (un_zz hn).1
 have HC := yh (Kb1 hz w)
 have hb := hn
 unfold i64T at hb
 clear hn
 by_cases h : n < 0
 ·have e1 : (2 * -(n + 1) + 1 : Int) = (zzN n : Int) := by unfold zzN; rw [if_pos h]; omega
  have z1 : 0 ≤ -(n + 1) := by omega
  have z2 : -(n + 1) < 9223372036854775808 := by omega
  go_enter Tryz.func67, Tryz.ntmps67
  go_wp2_with (go_at_call 46; refine HC.out.mono ?_; rintro e W1 ⟨o, rfl, hB⟩; have HB := yh hB; clear hB)
  go_ret
  exact ⟨_, rfl, HB.out⟩
 ·have e1 : (2 * n : Int) = (zzN n : Int) := by unfold zzN; rw [if_neg h]; omega
  have z1 : 0 ≤ n := by omega
  go_enter Tryz.func67, Tryz.ntmps67
  go_wp2_with (go_at_call 46; refine HC.out.mono ?_; rintro e W1 ⟨o, rfl, hB⟩; have HB := yh hB; clear hB)
  go_ret
  exact ⟨_, rfl, HB.out⟩
theorem dtext_any {s : List UInt8} (hs : s.length ≤ 1000000000000) (w : World) : Calls Tryz.prog 68 #[.string (strB s)] w fun e w' => ∃ o, e = .returned o ∧ Buf w w' o (textC s) := by
 have hsz : (strB s).size = s.length := rfl
 have z1 : (s.length : Int) ≤ 1000000000000 := by omega
 have HC := yh (Kb1 (n := s.length) (by omega) w)
 have hlen : (numB s.length).length ≤ 10 := Kbh (by unfold u64T; omega)
 go_enter Tryz.func68, Tryz.ntmps68
 go_wp2_with (first
  | (go_at_call 46
     (
      refine HC.out.mono ?_
      rintro e W1 ⟨o, rfl, hB⟩
      obtain ⟨c, W2, v, W3, h1, h2, h3⟩ := hB.apt (Below.refl _ _) s (by omega) 26
      have H1 := yh h1
      have H2 := yh h2
      have H3 := yh (show Buf w W3 v (textC s) from h3)
      clear h1 h2 h3 hB HC))
  | ((with_reducible apply Kbv); exact H1.out; exact rfl)
  | ((with_reducible apply Kar); exact H2.out; exact rfl; exact rfl))
 go_ret
 exact ⟨_, rfl, H3.out⟩
section
variable {w w0 W W1 : World} {o o2 : Value} {l m : List UInt8}
theorem Buf.join (h : Buf w W o l) (g : Buf W W1 o2 m) (hn : l.length + m.length ≤ 70368744177664) (ty : TypeId) :
 ∃ v W', (Builtin.append_ #[26, 26] ty #[o, o2]).run Tryz.prog W1 = .ok v W' ∧ Buf w W' v (l ++ m) := by
 obtain ⟨p, c, rfl⟩ := g.shape
 exact h.apr g.b g.rd hn ty
theorem Buf.up (h : Buf w0 W o l) (g : Below w.heap.size w w0) : Buf w W o l := ⟨⟨h.own.1, fun q hq => Nat.le_trans g.size (h.own.2 q hq)⟩, Kaa g h.b⟩
end
theorem take_flat {α : Type} (e : α → List UInt8) {l : List α} {j : Nat} : ((l.take j).flatMap e).length ≤ (l.flatMap e).length := by
 conv => rhs; rw [← List.take_append_drop j l, List.flatMap_append, List.length_append]
 omega
theorem at_flat {α : Type} (e : α → List UInt8) {l : List α} {j : Nat} (h : j < l.length) : (e l[j]).length ≤ (l.flatMap e).length := by
 have h1 := take_flat e (l := l) (j := j + 1)
 rw [Kco h, List.length_append] at h1
 omega
def DVal (v : V) : Prop := ∀ d, wfV d v → ∀ (w : World) (x : Array Value), VRd w v x → (valC v).length ≤ 1000000000000 → Calls Tryz.prog 22 #[.agg x] w fun e w' => ∃ o, e = .returned o ∧ Buf w w' o (valC v)
theorem dvalue_of {k : Int} {b : Bool} {n : Int} {t : List UInt8} {ks : List (List UInt8)} {l : List V} (ih : ∀ v ∈ l, DVal v) : DVal (.mk k b n t ks l) := by
 intro d hwf w x hx hlen
 obtain ⟨pk, ck, pl, cl, rfl, htx, hk1, hl1⟩ := Kdc.1 hx
 cases d with
 | zero => rw [wfV] at hwf; exact hwf.elim
 | succ d =>
 rw [wfV] at hwf
 have z1 : (ks.length : Int) ≤ 140737488355328 := by have := hk1.2.1.1; omega
 have z2 : (l.length : Int) ≤ 140737488355328 := by have := hl1.1.2.1.1; omega
 have HI := yh ih
 have HK := yh hk1
 have HL := yh hl1
 have HLN := yh hlen
 clear ih hk1 hl1 hx hlen
 rcases hwf with ⟨rfl, rfl, rfl, rfl, rfl, rfl⟩ | ⟨rfl, rfl, rfl, rfl, rfl⟩ | ⟨rfl, rfl, g1, rfl, rfl, rfl⟩ | ⟨rfl, rfl, rfl, g1, rfl, rfl⟩ | ⟨rfl, rfl, rfl, rfl, rfl, g1, g2⟩ | ⟨rfl, rfl, rfl, rfl, g1, g2, g3, g4⟩ | ⟨hk, rfl, g1, rfl, rfl, rfl⟩
 ·have hb := Kad (w := w) (.cells #[.int .i64 0, .bool false, .int .i64 0, .string (strB []), .slice pk 0 ck, .slice pl 0 cl] 48)
  have hB := (Buf.start (w := w.alloc (.cells #[.int .i64 0, .bool false, .int .i64 0, .string (strB []), .slice pk 0 ck, .slice pl 0 cl] 48)) (Below.refl _ _) (m := [0]) (cs := #[.int .u8 0]) rfl (by simp))
  simp only [World.size_alloc] at hB
  have HB := yh (hB.up hb)
  clear hb hB
  go_enter Tryz.func22, Tryz.ntmps22
  go_wp2
  go_ret
  exact ⟨_, rfl, HB.out⟩
 ·cases b
  ·have hb := Kad (w := w) (.cells #[.int .i64 1, .bool false, .int .i64 0, .string (strB []), .slice pk 0 ck, .slice pl 0 cl] 48)
   have hB := (Buf.start (w := w.alloc (.cells #[.int .i64 1, .bool false, .int .i64 0, .string (strB []), .slice pk 0 ck, .slice pl 0 cl] 48)) (Below.refl _ _) (m := [1]) (cs := #[.int .u8 1]) rfl (by simp))
   obtain ⟨v, W', ha, hI⟩ := (hB.up hb).one 0 (by simp) 26
   simp only [World.size_alloc] at ha
   have HA := yh ha
   have HB := yh (show Buf w W' v (valC (.mk 1 false 0 [] [] [])) from hI)
   clear hb hB ha hI
   go_enter Tryz.func22, Tryz.ntmps22
   go_wp2_with ((with_reducible apply Kar); exact HA.out; exact rfl; exact rfl)
   go_ret
   exact ⟨_, rfl, HB.out⟩
  ·have hb := Kad (w := w) (.cells #[.int .i64 1, .bool true, .int .i64 0, .string (strB []), .slice pk 0 ck, .slice pl 0 cl] 48)
   have hB := (Buf.start (w := w.alloc (.cells #[.int .i64 1, .bool true, .int .i64 0, .string (strB []), .slice pk 0 ck, .slice pl 0 cl] 48)) (Below.refl _ _) (m := [1]) (cs := #[.int .u8 1]) rfl (by simp))
   obtain ⟨v, W', ha, hI⟩ := (hB.up hb).one 1 (by simp) 26
   simp only [World.size_alloc] at ha
   have HA := yh ha
   have HB := yh (show Buf w W' v (valC (.mk 1 true 0 [] [] [])) from hI)
   clear hb hB ha hI
   go_enter Tryz.func22, Tryz.ntmps22
   go_wp2_with ((with_reducible apply Kar); exact HA.out; exact rfl; exact rfl)
   go_ret
   exact ⟨_, rfl, HB.out⟩
 ·have hb := Kad (w := w) (.cells #[.int .i64 2, .bool false, .int .i64 n, .string (strB []), .slice pk 0 ck, .slice pl 0 cl] 48)
  have hB := (Buf.start (w := w.alloc (.cells #[.int .i64 2, .bool false, .int .i64 n, .string (strB []), .slice pk 0 ck, .slice pl 0 cl] 48)) (Below.refl _ _) (m := [2]) (cs := #[.int .u8 2]) rfl (by simp))
  have e1 : valC (.mk 2 false n [] [] []) = [2] ++ numB (zzN n) := by rw [valC, if_neg (by decide), if_pos rfl]; rfl
  have hl := HLN.out
  rw [e1, List.length_append] at hl
  have HB := yh (hB.up hb)
  clear hb hB
  go_enter Tryz.func22, Tryz.ntmps22
  go_wp2_with (first
   | (go_at_call 67
      (
       refine (Kd9 g1 _).mono ?_
       rintro e W1 ⟨o2, rfl, hB2⟩
       obtain ⟨v, W2, ha, hI⟩ := HB.out.join hB2 (by simp only [List.length_cons, List.length_nil]; omega) 26
       simp only [World.size_alloc] at ha
       have HA := yh ha
       have HR := yh (show Buf w W2 v (valC (.mk 2 false n [] [] [])) from by rw [e1]; exact hI)
       clear hB2 ha hI))
   | ((with_reducible apply Kar); exact HA.out; exact rfl; exact rfl))
  go_ret
  exact ⟨_, rfl, HR.out⟩
 ·have hb := Kad (w := w) (.cells #[.int .i64 3, .bool false, .int .i64 0, .string (strB t), .slice pk 0 ck, .slice pl 0 cl] 48)
  have hB := (Buf.start (w := w.alloc (.cells #[.int .i64 3, .bool false, .int .i64 0, .string (strB t), .slice pk 0 ck, .slice pl 0 cl] 48)) (Below.refl _ _) (m := [3]) (cs := #[.int .u8 3]) rfl (by simp))
  have h6 : t.length ≤ 1000000000000 := by
   have hl := HLN.out
   rw [valC, if_neg (by decide), if_neg (by decide), if_pos rfl, List.length_cons] at hl
   unfold textC at hl
   rw [List.length_append] at hl
   omega
  have e1 : valC (.mk 3 false 0 t [] []) = [3] ++ textC t := by rw [valC, if_neg (by decide), if_neg (by decide), if_pos rfl]; rfl
  have hl := HLN.out
  rw [e1, List.length_append] at hl
  have HB := yh (hB.up hb)
  clear hb hB
  go_enter Tryz.func22, Tryz.ntmps22
  go_wp2_with (first
   | (go_at_call 68
      (
       refine (dtext_any h6 _).mono ?_
       rintro e W1 ⟨o2, rfl, hB2⟩
       obtain ⟨v, W2, ha, hI⟩ := HB.out.join hB2 (by simp only [List.length_cons, List.length_nil]; omega) 26
       simp only [World.size_alloc] at ha
       have HA := yh ha
       have HR := yh (show Buf w W2 v (valC (.mk 3 false 0 t [] [])) from by rw [e1]; exact hI)
       clear hB2 ha hI))
   | ((with_reducible apply Kar); exact HA.out; exact rfl; exact rfl))
  go_ret
  exact ⟨_, rfl, HR.out⟩
 ·have hb := Kad (w := w) (.cells #[.int .i64 4, .bool false, .int .i64 0, .string (strB []), .slice pk 0 ck, .slice pl l.length cl] 48)
  have hB := (Buf.start (w := w.alloc (.cells #[.int .i64 4, .bool false, .int .i64 0, .string (strB []), .slice pk 0 ck, .slice pl l.length cl] 48)) (Below.refl _ _) (m := [4]) (cs := #[.int .u8 4]) rfl (by simp))
  have hx0 := heap_alloc_new w (.cells #[.int .i64 4, .bool false, .int .i64 0, .string (strB []), .slice pk 0 ck, .slice pl l.length cl] 48)
  have e1 : valC (.mk 4 false 0 [] [] l) = [4] ++ numB l.length ++ l.flatMap valC := by rw [valC, if_neg (by decide), if_neg (by decide), if_neg (by decide), if_pos rfl, valsC_eq]; rfl
  have hl := HLN.out
  rw [e1] at hl
  simp only [List.length_append, List.length_cons, List.length_nil] at hl
  have hn10 : (numB l.length).length ≤ 10 := Kbh g1
  have HE := yh e1
  have HX0 := yh (And.intro hb hx0)
  have HB := yh hB
  clear hb hB hx0 e1
  go_enter Tryz.func22, Tryz.ntmps22
  go_wp2_with (first
   | (go_at_call 46
      (
       refine (Kb1 (n := l.length) (by omega) _).mono ?_
       rintro e W1 ⟨o2, rfl, hB2⟩
       obtain ⟨v, W2, ha, hI⟩ := HB.out.join hB2 (by simp only [List.length_cons, List.length_nil]; omega) 26
       simp only [World.size_alloc] at ha
       have HA := yh ha
       have HR := yh hI
       clear hB2 ha hI HB))
   | ((with_reducible apply Kar); exact HA.out; exact rfl; exact rfl))
  clear HA
  generalize hw0 : w.alloc (.cells #[.int .i64 4, .bool false, .int .i64 0, .string (strB []), .slice pk 0 ck, .slice pl l.length cl] 48) = w0 at *
  clear hw0
  go_loopw [3, 4] (fun o i W => ∃ (j : Nat) (ov : Value), j ≤ l.length ∧ i = .int .i64 (j : Int) ∧ ov = o ∧ Hid (Buf w0 W ov ([4] ++ numB l.length ++ (l.take j).flatMap valC))) (fun _ i _ => l.length - (intOf i).toNat)
  case atStart => exact ⟨0, _, Nat.zero_le _, rfl, rfl, yh (by have := HR.out; simpa using this)⟩
  case round =>
   obtain ⟨j, ov, hj, rfl, rfl, HB⟩ := hrel
   clear HR
   have hbx := Kap HB.out.b (Array.getElem?_eq_some_iff.1 HX0.out.2).1 HX0.out.2
   have p0 := Kab (o := 0) hbx rfl
   have p4 := Kab (o := 4) hbx rfl
   have p5 := Kab (o := 5) hbx rfl
   have hww : Below w.heap.size w wr := Kaa HX0.out.1 HB.out.b
   by_cases hlt : j < l.length
   ·have hlt1 : j + 1 ≤ l.length := hlt
    obtain ⟨b1, o1, pk1, ck1, pl1, cl1, rfl, ⟨a0, a1, a2, a3, a4, a5⟩, hv1⟩ := (HL.out.below hww).at hlt
    have hstep := Kco (e := valC) hlt
    have hl1 := at_flat valC hlt
    have hl2 := take_flat valC (l := l) (j := j)
    have hcall := HI.out l[j] (List.getElem_mem hlt) d (g2 _ (List.getElem_mem hlt)) wr _ hv1 (by omega)
    generalize l[j] = s1 at *
    have HD := yh (And.intro hcall hstep)
    clear hcall hstep hv1 hbx hww
    go_wp2_with (first
     | (go_at_call 22
        (
         refine HD.out.1.mono ?_
         rintro e W1 ⟨o2, rfl, hB2⟩
         obtain ⟨v, W2, ha, hI⟩ := HB.out.join hB2 (by simp only [List.length_append, List.length_cons, List.length_nil]; omega) 26
         have HA := yh ha
         have HR := yh hI
         clear hB2 ha hI))
     | ((with_reducible apply Kar); exact HA.out; exact rfl; exact rfl))
    go_roundw
    case rel => exact ⟨j + 1, _, hlt1, by go_num, rfl, yh (by rw [HD.out.2, ← List.append_assoc]; exact HR.out)⟩
    case measure => simp [intOf]; omega
   ·obtain rfl : j = l.length := by omega
    have HF := yh (HB.out.up HX0.out.1)
    clear HB hbx hww
    go_wp2
    go_ret
    refine ⟨_, rfl, ?_⟩
    have h := HF.out
    rw [HE.out]
    rw [List.take_length] at h
    exact h
 ·rw [g1]
  have HG1 := yh g1
  clear g1
  have hb := Kad (w := w) (.cells #[.int .i64 5, .bool false, .int .i64 0, .string (strB []), .slice pk l.length ck, .slice pl l.length cl] 48)
  have hB := (Buf.start (w := w.alloc (.cells #[.int .i64 5, .bool false, .int .i64 0, .string (strB []), .slice pk l.length ck, .slice pl l.length cl] 48)) (Below.refl _ _) (m := [5]) (cs := #[.int .u8 5]) rfl (by simp))
  have hx0 := heap_alloc_new w (.cells #[.int .i64 5, .bool false, .int .i64 0, .string (strB []), .slice pk l.length ck, .slice pl l.length cl] 48)
  have e1 : valC (.mk 5 false 0 [] ks l) = [5] ++ numB l.length ++ (ks.zip l).flatMap (fun p : List UInt8 × V => textC p.1 ++ valC p.2) := by rw [valC, if_neg (by decide), if_neg (by decide), if_neg (by decide), if_neg (by decide), if_pos rfl, kvC_eq ks l HG1.out]; rfl
  have hl := HLN.out
  rw [e1] at hl
  simp only [List.length_append, List.length_cons, List.length_nil] at hl
  have hn10 : (numB l.length).length ≤ 10 := Kbh g2
  have HE := yh e1
  have HX0 := yh (And.intro hb hx0)
  have HB := yh hB
  clear hb hB hx0 e1
  go_enter Tryz.func22, Tryz.ntmps22
  go_wp2_with (first
   | (go_at_call 46
      (
       refine (Kb1 (n := l.length) (by omega) _).mono ?_
       rintro e W1 ⟨o2, rfl, hB2⟩
       obtain ⟨v, W2, ha, hI⟩ := HB.out.join hB2 (by simp only [List.length_cons, List.length_nil]; omega) 26
       simp only [World.size_alloc] at ha
       have HA := yh ha
       have HR := yh hI
       clear hB2 ha hI HB))
   | ((with_reducible apply Kar); exact HA.out; exact rfl; exact rfl))
  clear HA
  generalize hw0 : w.alloc (.cells #[.int .i64 5, .bool false, .int .i64 0, .string (strB []), .slice pk l.length ck, .slice pl l.length cl] 48) = w0 at *
  clear hw0
  go_loopw [3, 4] (fun o i W => ∃ (j : Nat) (ov : Value), j ≤ l.length ∧ i = .int .i64 (j : Int) ∧ ov = o ∧ Hid (Buf w0 W ov ([5] ++ numB l.length ++ ((ks.zip l).take j).flatMap (fun p : List UInt8 × V => textC p.1 ++ valC p.2)))) (fun _ i _ => l.length - (intOf i).toNat)
  case atStart => exact ⟨0, _, Nat.zero_le _, rfl, rfl, yh (by have := HR.out; simpa using this)⟩
  case round =>
   obtain ⟨j, ov, hj, rfl, rfl, HB⟩ := hrel
   clear HR
   have hbx := Kap HB.out.b (Array.getElem?_eq_some_iff.1 HX0.out.2).1 HX0.out.2
   have p0 := Kab (o := 0) hbx rfl
   have p4 := Kab (o := 4) hbx rfl
   have p5 := Kab (o := 5) hbx rfl
   have hww : Below w.heap.size w wr := Kaa HX0.out.1 HB.out.b
   by_cases hlt : j < l.length
   ·have hlt1 : j + 1 ≤ l.length := hlt
    have hjk : j < ks.length := by have := HG1.out; omega
    have hjz : j < (ks.zip l).length := by have := HG1.out; simp; omega
    obtain ⟨b1, o1, pk1, ck1, pl1, cl1, rfl, ⟨a0, a1, a2, a3, a4, a5⟩, hv1⟩ := (HL.out.below HX0.out.1).at hlt
    obtain ⟨bk, ok, rfl, q0, hsl⟩ := (HK.out.below hww).get hjk
    have hstep := Kco (e := fun p : List UInt8 × V => textC p.1 ++ valC p.2) hjz
    have hl1 := at_flat (fun p : List UInt8 × V => textC p.1 ++ valC p.2) hjz
    have hl2 := take_flat (fun p : List UInt8 × V => textC p.1 ++ valC p.2) (l := ks.zip l) (j := j)
    have e2 : (ks.zip l)[j] = (ks[j], l[j]) := List.getElem_zip
    rw [e2] at hstep hl1
    simp only [List.length_append] at hl1
    have hkl : (ks[j]).length ≤ (textC ks[j]).length := by unfold textC; rw [List.length_append]; omega
    have hcall := fun W (hW : Below w0.heap.size w0 W) => HI.out l[j] (List.getElem_mem hlt) d (g4 _ (List.getElem_mem hlt)) W _ (hv1.below hW) (by omega)
    generalize l[j] = s1 at *
    generalize ks[j] = k1 at *
    have HD := yh (And.intro hcall hstep)
    have HCE := yh (And.intro a0 (And.intro a1 (And.intro a2 (And.intro a3 (And.intro a4 a5)))))
    clear hcall hstep hv1 hbx hww a0 a1 a2 a3 a4 a5 e2
    go_wp2_with (first
     | (go_at_call 68
        (
         refine (dtext_any (s := k1) (by omega) _).mono ?_
         rintro e W1 ⟨o2, rfl, hB2⟩
         obtain ⟨v, W2, ha, hI⟩ := HB.out.join hB2 (by simp only [List.length_append, List.length_cons, List.length_nil]; omega) 26
         have HA := yh ha
         have HR := yh hI
         have HW2 := yh hI.b
         have hbx2 := Kap hI.b (Array.getElem?_eq_some_iff.1 HX0.out.2).1 HX0.out.2
         have p51 := Kab (o := 5) hbx2 rfl
         obtain ⟨a0, a1, a2, a3, a4, a5⟩ := HCE.out
         replace a0 := Kag hI.b (ltOf a0) a0
         replace a1 := Kag hI.b (ltOf a1) a1
         replace a2 := Kag hI.b (ltOf a2) a2
         replace a3 := Kag hI.b (ltOf a3) a3
         replace a4 := Kag hI.b (ltOf a4) a4
         replace a5 := Kag hI.b (ltOf a5) a5
         clear hB2 ha hI hbx2))
     | ((with_reducible apply Kar); exact HA.out; exact rfl; exact rfl)
     | (go_at_call 22
        (
         refine (HD.out.1 _ HW2.out).mono ?_
         rintro e W3 ⟨o3, rfl, hB3⟩
         obtain ⟨v3, W4, ha3, hI3⟩ := HR.out.join hB3 (by simp only [List.length_append, List.length_cons, List.length_nil]; omega) 26
         have HA3 := yh ha3
         have HR3 := yh hI3
         clear hB3 ha3 hI3))
     | ((with_reducible apply Kar); exact HA3.out; exact rfl; exact rfl))
    go_roundw
    case rel => exact ⟨j + 1, _, hlt1, by go_num, rfl, yh (by rw [HD.out.2, ← List.append_assoc, ← List.append_assoc]; exact HR3.out)⟩
    case measure => simp [intOf]; omega
   ·obtain rfl : j = l.length := by omega
    have HF := yh (HB.out.up HX0.out.1)
    clear HB hbx hww
    go_wp2
    go_ret
    refine ⟨_, rfl, ?_⟩
    have h := HF.out
    rw [HE.out]
    rw [List.take_of_length_le (by have := HG1.out; simp; omega)] at h
    exact h
 ·rcases hk with rfl | rfl
  ·have hb := Kad (w := w) (.cells #[.int .i64 6, .bool false, .int .i64 n, .string (strB []), .slice pk 0 ck, .slice pl 0 cl] 48)
   have hB := (Buf.start (w := w.alloc (.cells #[.int .i64 6, .bool false, .int .i64 n, .string (strB []), .slice pk 0 ck, .slice pl 0 cl] 48)) (Below.refl _ _) (m := [6]) (cs := #[.int .u8 6]) rfl (by simp))
   have hu := Kcy g1
   have e1 : valC (.mk 6 false n [] [] []) = [6] ++ numB (toU n) := by rw [valC, if_neg (by decide), if_neg (by decide), if_neg (by decide), if_neg (by decide), if_neg (by decide), if_pos (by decide)]; rfl
   have hl := HLN.out
   rw [e1, List.length_append] at hl
   have HB := yh (hB.up hb)
   clear hb hB
   go_enter Tryz.func22, Tryz.ntmps22
   go_wp2_with (first
    | (go_at_call 46
       (
        refine (Kb1 (n := toU n) (Kbp g1).1 _).mono ?_
        rintro e W1 ⟨o2, rfl, hB2⟩
        obtain ⟨v, W2, ha, hI⟩ := HB.out.join hB2 (by simp only [List.length_cons, List.length_nil]; omega) 26
        simp only [World.size_alloc] at ha
        have HA := yh ha
        have HR := yh (show Buf w W2 v (valC (.mk 6 false n [] [] [])) from by rw [e1]; exact hI)
        clear hB2 ha hI))
    | ((with_reducible apply Kar); exact HA.out; exact rfl; exact rfl))
   go_ret
   exact ⟨_, rfl, HR.out⟩
  ·have hb := Kad (w := w) (.cells #[.int .i64 7, .bool false, .int .i64 n, .string (strB []), .slice pk 0 ck, .slice pl 0 cl] 48)
   have hB := (Buf.start (w := w.alloc (.cells #[.int .i64 7, .bool false, .int .i64 n, .string (strB []), .slice pk 0 ck, .slice pl 0 cl] 48)) (Below.refl _ _) (m := [7]) (cs := #[.int .u8 7]) rfl (by simp))
   have hu := Kcy g1
   have e1 : valC (.mk 7 false n [] [] []) = [7] ++ numB (toU n) := by rw [valC, if_neg (by decide), if_neg (by decide), if_neg (by decide), if_neg (by decide), if_neg (by decide), if_pos (by decide)]; rfl
   have hl := HLN.out
   rw [e1, List.length_append] at hl
   have HB := yh (hB.up hb)
   clear hb hB
   go_enter Tryz.func22, Tryz.ntmps22
   go_wp2_with (first
    | (go_at_call 46
       (
        refine (Kb1 (n := toU n) (Kbp g1).1 _).mono ?_
        rintro e W1 ⟨o2, rfl, hB2⟩
        obtain ⟨v, W2, ha, hI⟩ := HB.out.join hB2 (by simp only [List.length_cons, List.length_nil]; omega) 26
        simp only [World.size_alloc] at ha
        have HA := yh ha
        have HR := yh (show Buf w W2 v (valC (.mk 7 false n [] [] [])) from by rw [e1]; exact hI)
        clear hB2 ha hI))
    | ((with_reducible apply Kar); exact HA.out; exact rfl; exact rfl))
   go_ret
   exact ⟨_, rfl, HR.out⟩
theorem dvalue_any : ∀ v : V, DVal v := by
 refine V.ind ?_
 intro k b n t ks l ih
 exact dvalue_of ih
theorem rows_le {α : Type} (e : α → List UInt8) {l : List α} (j : Nat) : (numB l.length ++ (l.take j).flatMap e).length ≤ (rowsC e l).length := by
 unfold rowsC
 rw [List.length_append, List.length_append]
 have := take_flat e (l := l) (j := j)
 omega
theorem rows_at_le {α : Type} (e : α → List UInt8) {l : List α} {j : Nat} (h : j < l.length) : (e l[j]).length ≤ (rowsC e l).length := by
 unfold rowsC
 rw [List.length_append]
 have := at_flat e h
 omega
theorem rows_step {α : Type} (e : α → List UInt8) {l : List α} {j : Nat} (h : j < l.length) : numB l.length ++ (l.take (j + 1)).flatMap e = numB l.length ++ (l.take j).flatMap e ++ e l[j] := by
 rw [Kco h, List.append_assoc]
theorem dprops_any {w : World} {p : Option Addr} {c : Nat} {l : List PropD} (h : GRd PRd 7 w p c l) (hwf : wfPs l) (hl : (rowsC propC l).length ≤ 1000000000000) : Calls Tryz.prog 103 #[.slice p l.length c] w fun e w' => ∃ o, e = .returned o ∧ Buf w w' o (rowsC propC l) := by
 have z1 : (l.length : Int) ≤ 140737488355328 := by have := h.1.2.1; omega
 have H := yh h
 have HW := yh hwf
 clear h hwf
 go_enter Tryz.func103, Tryz.ntmps103
 go_wp2_with (go_at_call 46; refine (Kb1 (n := l.length) (by omega) _).mono ?_; rintro e W1 ⟨o1, rfl, hB1⟩; have HB1 := yh hB1; clear hB1)
 go_loopw [3, 4] (fun o i W => ∃ (j : Nat) (ov : Value), j ≤ l.length ∧ i = .int .i64 (j : Int) ∧ ov = o ∧ Hid (Buf w W ov (numB l.length ++ (l.take j).flatMap propC))) (fun _ i _ => l.length - (intOf i).toNat)
 case atStart => exact ⟨0, _, Nat.zero_le _, rfl, rfl, yh (by have := HB1.out; simpa using this)⟩
 case round =>
  obtain ⟨j, ov, hj, rfl, rfl, HB⟩ := hrel
  clear HB1
  by_cases hlt : j < l.length
  ·have hlt1 : j + 1 ≤ l.length := hlt
   obtain ⟨b, of, cs, rfl, hs, hc, hv⟩ := H.out.get hlt
   obtain ⟨y, ey, hkl, hvv⟩ := hv
   have hys : y.size = 6 := Kd8.size hvv
   have hstep := rows_step propC hlt
   have hl1 := rows_le propC (l := l) j
   have hl2 := rows_at_le propC hlt
   have hpc : propC l[j] = textC l[j].key ++ valC l[j].val := rfl
   have hwp := HW.out.2 l[j] (List.getElem_mem hlt)
   obtain ⟨hw1, hw2⟩ := hwp
   rw [hpc] at hstep hl2
   rw [List.length_append] at hl2
   generalize l[j].key = key at *
   generalize l[j].val = val at *
   have hkey : key.length ≤ (textC key).length := by unfold textC; rw [List.length_append]; omega
   have hk0 : cs[0]? = some (.string (strB key)) := by rw [ey, Array.getElem?_append_left (by simp)]; rfl
   have hky : ∀ (i : Nat) (u : Value), y[i]? = some u → cs[1 + i]? = some u := fun i u hu => by
    rw [ey, Array.getElem?_append_right (by simp)]
    simpa using hu
   have HKL := yh (Kaj (P := Tryz.prog) (w := wr) Tryz.underlying9 rfl (Kag HB.out.b (ltOf (hc 0 _ hk0)) (hc 0 _ hk0)))
   have HLV := yh (fun W2 (g : Below w.heap.size w W2) => StT.load (W := W2) (g := b) (o := of + j * 7 + 1) Kbk hys fun i u hu => by
    have := hc (1 + i) u (hky i u hu)
    rw [← Nat.add_assoc] at this
    exact Kag g (ltOf this) this)
   have HVV := yh hvv
   have HST := yh hstep
   have HW2 := yh hw2
   clear hk0 hky hc ey hs hpc hstep hvv hw1 hw2
   go_wp2_with (first
    | ((with_reducible apply Kal); exact HKL.out; exact rfl)
    | (go_at_call 68
       (
        refine (dtext_any (s := key) (by omega) _).mono ?_
        rintro e W1 ⟨o2, rfl, hB2⟩
        obtain ⟨vW1, W1a, ha, hI⟩ := HB.out.join hB2 (by (try simp only [List.length_append, List.length_cons, List.length_nil] at *); omega) 26
        have HA := yh ha
        have HR := yh hI
        clear hB2 ha hI))
    | ((with_reducible apply Kar); exact HA.out; exact rfl; exact rfl; clear HA)
    | ((with_reducible apply Kal); exact HLV.out _ HR.out.b; exact rfl)
    | (go_at_call 22
       (
        refine (dvalue_any val 64 HW2.out _ _ (HVV.out.below HR.out.b) (by omega)).mono ?_
        rintro e W3 ⟨o2, rfl, hB2⟩
        obtain ⟨vW3, W3a, ha, hI⟩ := HR.out.join hB2 (by (try simp only [List.length_append, List.length_cons, List.length_nil] at *); omega) 26
        have HA3 := yh ha
        have HR3 := yh hI
        clear hB2 ha hI))
    | ((with_reducible apply Kar); exact HA3.out; exact rfl; exact rfl; clear HA3))
   go_roundw
   case rel => exact ⟨j + 1, _, hlt1, by go_num, rfl, yh (by rw [HST.out, ← List.append_assoc]; exact HR3.out)⟩
   case measure => simp [intOf]; omega
  ·obtain rfl : j = l.length := by omega
   have HF := yh HB.out
   clear HB
   go_wp2
   go_ret
   refine ⟨_, rfl, ?_⟩
   have h := HF.out
   rw [List.take_length] at h
   exact h
theorem conv_iu' {i : Nat} (h : i ≤ 281474976710656) (W : World) : (convert 3 79 (.int .i64 (i : Int))).run Tryz.prog W = .ok (.int .u64 (i : Int)) W := by
 have e : IntKind.u64.wrap (i : Int) = (i : Int) := by rw [IntKind.wrap_u64]; omega
 simp [go_sem, e]
theorem dnode_any {w : World} {n : NodeD} {x : Array Value} (h : NRd w n x) (hwf : wfN n) (hl : (nodeC n).length ≤ 1000000000000) : Calls Tryz.prog 47 #[.agg x] w fun e w' => ∃ o, e = .returned o ∧ Buf w w' o (nodeC n) := by
 obtain ⟨pl, cl, pp, cp, rfl, hls, hps⟩ := h
 obtain ⟨hid, hwl, hwp⟩ := hwf
 have z1 : (n.labels.length : Int) ≤ 140737488355328 := by have := hls.2.1.1; omega
 have hb := Kad (w := w) (.cells #[.int .i64 n.id, .slice pl n.labels.length cl, .slice pp n.props.length cp] 70)
 have hg := heap_alloc_new w (.cells #[.int .i64 n.id, .slice pl n.labels.length cl, .slice pp n.props.length cp] 70)
 have hlt0 := (Array.getElem?_eq_some_iff.1 hg).1
 have hls1 := hls.below hb
 have hps1 := hps.below (fun h => h.below hb) hb
 have e1 : nodeC n = numB (toU n.id) ++ (rowsC textC n.labels ++ rowsC propC n.props) := rfl
 have hn1 := Kbh (Kbp hid).1
 have hn2 : (numB n.labels.length).length ≤ 10 := Kbh hwl.1
 rw [e1] at hl ⊢
 simp only [List.length_append] at hl
 have H := yh (And.intro hls1 (And.intro hps1 (And.intro hwl hwp)))
 have H0 := yh (And.intro hb (And.intro hg hlt0))
 clear hls hps hls1 hps1 hwl hwp e1 hb hg hlt0
 go_enter Tryz.func47, Tryz.ntmps47
 go_wp2
 generalize hw0 : w.alloc (.cells #[.int .i64 n.id, .slice pl n.labels.length cl, .slice pp n.props.length cp] 70) = w0 at *
 clear hw0
 obtain ⟨hb, hg, hlt0⟩ := H0.out
 have hf : ∀ (i : Nat) (W' : World), i < 3 → (Instr.fieldAt 70 (.pointer (some ⟨w.heap.size, 0, none⟩)) i).run Tryz.prog W' = .ok (.pointer (some ⟨w.heap.size, i, none⟩)) W' := by intro i W' hi; match i, hi with | 0, _ => simp [go_sem] | 1, _ => simp [go_sem] | 2, _ => simp [go_sem]
 replace hf := fun i W' => hf i W'
 refine Kao (fun W => Below w0.heap.size w0 W) (by kernel_rfl) (show Below w0.heap.size w0 w0.drew from (Below.refl _ _).drew) (fun hS => ?_)
 refine tk 0 5 (v := .pointer (some ⟨w.heap.size, 0, none⟩)) rfl rfl (fun W hW => Kae rfl rfl (hf 0 W (by omega))) ?_
 simp only [Act.put, sA, sZ, sS]
 refine tk 1 6 (v := .int .i64 n.id) rfl rfl (fun W hW => Kah rfl rfl (Kdx Tryz.underlying2 rfl hW hg rfl)) ?_
 simp only [Act.put, sA, sZ, sS]
 refine tk 2 7 (v := .int .u64 ((toU n.id : Nat) : Int)) rfl rfl (fun W hW => Kcg rfl rfl (Ken hid W)) ?_
 simp only [Act.put, sA, sZ, sS]
 refine tk 4 9 (v := .pointer (some ⟨w.heap.size, 1, none⟩)) rfl rfl (fun W hW => Kae rfl rfl (hf 1 W (by omega))) ?_
 simp only [Act.put, sA, sZ, sS]
 refine tk 5 10 (v := .slice pl n.labels.length cl) rfl rfl (fun W hW => Kah rfl rfl (Kdx Tryz.underlying45 rfl hW hg rfl)) ?_
 simp only [Act.put, sA, sZ, sS]
 refine tk 6 11 (v := .int .i64 (n.labels.length : Int)) rfl rfl (fun W hW => exec_lenS rfl rfl) ?_
 simp only [Act.put, sA, sZ, sS]
 refine tk 7 12 (v := .int .u64 (n.labels.length : Int)) rfl rfl (fun W hW => Kcg rfl rfl (conv_iu' (by omega) W)) ?_
 simp only [Act.put, sA, sZ, sS]
 refine Kbi 3 8 rfl rfl (by kernel_rfl) rfl (Ka0 [.int .u64 ((toU n.id : Nat) : Int)] rfl rfl Tryz.func46 (by kernel_rfl) (by kernel_rfl)) ?_
 refine (Kb1 (n := toU n.id) (Kbp hid).1 _).mono ?_
 rintro e W3 ⟨o3, rfl, hBW3⟩
 have hSW3 : Below w0.heap.size w0 W3 := Kaa hS hBW3.b
 refine ⟨_, rfl, .inr hSW3, ?_⟩
 simp only [Act.put, sA, sZ, sS]
 refine Kbi 8 13 rfl rfl (by kernel_rfl) rfl (Ka0 [.int .u64 (n.labels.length : Int)] rfl rfl Tryz.func46 (by kernel_rfl) (by kernel_rfl)) ?_
 refine (Kb1 (n := n.labels.length) (by omega) _).mono ?_
 rintro e W8 ⟨o8, rfl, hBW8⟩
 have hSW8 : Below w0.heap.size w0 W8 := Kaa hSW3 hBW8.b
 refine ⟨_, rfl, .inr hSW8, ?_⟩
 simp only [Act.put, sA, sZ, sS]
 obtain ⟨v9, W9, happ, hI9⟩ := hBW3.join hBW8 (by omega) 26
 have hS9 : Below w0.heap.size w0 W9 := Kaa hS hI9.b
 refine Keo 9 14 (v := v9) rfl rfl (by kernel_rfl) rfl (Kdf rfl rfl rfl happ) (.inr hS9) ?_
 simp only [Act.put, sA, sZ, sS]
 refine tk 10 3 (v := v9) rfl rfl (fun W hW => Kbl rfl rfl) ?_
 simp only [Act.put, sA, sZ, sS]
 refine done (by kernel_rfl) ?_ _
 have HB := yh (show Buf w0 W9 v9 (numB (toU n.id) ++ numB n.labels.length) from ⟨⟨hI9.own.1, fun q hq => Nat.le_trans hS.size (hI9.own.2 q hq)⟩, hS9⟩)
 clear hI9 happ hS9 hS hSW3 hSW8 hBW3 hBW8 hf hb hg hlt0
 go_wp2
 go_loopw [3, 4] (fun o i W => ∃ (j : Nat) (ov : Value), j ≤ n.labels.length ∧ i = .int .i64 (j : Int) ∧ ov = o ∧ Hid (Buf w0 W ov (numB (toU n.id) ++ (numB n.labels.length ++ (n.labels.take j).flatMap textC)))) (fun _ i _ => n.labels.length - (intOf i).toNat)
 case atStart => exact ⟨0, _, Nat.zero_le _, rfl, rfl, yh (by have := HB.out; simpa using this)⟩
 case round =>
  clear HB
  obtain ⟨j, ov, hj, rfl, rfl, HB⟩ := hrel
  have hbx := Kap HB.out.b H0.out.2.2 H0.out.2.1
  have p1 := Kab (o := 1) hbx rfl
  have p2 := Kab (o := 2) hbx rfl
  by_cases hlt : j < n.labels.length
  ·have hlt1 : j + 1 ≤ n.labels.length := hlt
   obtain ⟨bk, ok, rfl, q0, hsl⟩ := (H.out.1.below HB.out.b).get hlt
   have hstep := rows_step textC hlt
   have hl1 := rows_le textC (l := n.labels) j
   have hl2 := rows_at_le textC hlt
   generalize n.labels[j] = k1 at *
   have hkl : k1.length ≤ (textC k1).length := by unfold textC; rw [List.length_append]; omega
   have HST := yh hstep
   clear hstep hbx p2
   rw [List.length_append] at hl1
   go_wp2_with (first
    | (go_at_call 68
       (
        refine (dtext_any (s := k1) (by omega) _).mono ?_
        rintro e W1 ⟨o2, rfl, hB2⟩
        obtain ⟨vW1, W1a, ha, hI⟩ := HB.out.join hB2 (by (try simp only [List.length_append, List.length_cons, List.length_nil] at *); omega) 26
        have HA := yh ha
        have HR := yh hI
        clear hB2 ha hI))
    | ((with_reducible apply Kar); exact HA.out; exact rfl; exact rfl; clear HA))
   go_roundw
   case rel => exact ⟨j + 1, _, hlt1, by go_num, rfl, yh (by rw [HST.out, ← List.append_assoc]; exact HR.out)⟩
   case measure => simp [intOf]; omega
  ·obtain rfl : j = n.labels.length := by omega
   have hl1 := rows_le textC (l := n.labels) n.labels.length
   rw [List.length_append] at hl1
   have HPR := yh (H.out.2.1.below (fun h => h.below HB.out.b) HB.out.b)
   clear hbx
   go_wp2_with (first
    | (go_at_call 103
       (
        refine (dprops_any HPR.out H.out.2.2.2 (by omega)).mono ?_
        rintro e W3 ⟨o2, rfl, hB2⟩
        obtain ⟨vW3, W3a, ha, hI⟩ := HB.out.join hB2 (by (try simp only [List.length_append, List.length_cons, List.length_nil] at *); omega) 26
        have HA := yh ha
        have HR := yh hI
        clear hB2 ha hI))
    | ((with_reducible apply Kar); exact HA.out; exact rfl; exact rfl; clear HA))
   go_ret
   refine ⟨_, rfl, ?_⟩
   have h := HR.out.up H0.out.1
   rw [rows_at, List.append_assoc] at h
   exact h
theorem drel_any {w : World} {n : RelD} {x : Array Value} (h : RRd w n x) (hwf : wfR n) (hl : (relC n).length ≤ 1000000000000) : Calls Tryz.prog 48 #[.agg x] w fun e w' => ∃ o, e = .returned o ∧ Buf w w' o (relC n) := by
 obtain ⟨pp, cp, rfl, hty, hps⟩ := h
 obtain ⟨h1, h2, h3, h4, hwp⟩ := hwf
 have hb := Kad (w := w) (.cells #[.int .i64 n.id, .int .i64 n.src, .int .i64 n.dst, .string (strB n.type), .slice pp n.props.length cp] 72)
 have hg := heap_alloc_new w (.cells #[.int .i64 n.id, .int .i64 n.src, .int .i64 n.dst, .string (strB n.type), .slice pp n.props.length cp] 72)
 have hlt0 := (Array.getElem?_eq_some_iff.1 hg).1
 have hps1 := hps.below (fun h => h.below hb) hb
 have e1 : relC n = numB (toU n.id) ++ (numB (toU n.src) ++ (numB (toU n.dst) ++ (textC n.type ++ rowsC propC n.props))) := rfl
 have hn1 := Kbh (Kbp h1).1
 have hn2 := Kbh (Kbp h2).1
 have hn3 := Kbh (Kbp h3).1
 have hu3 := Kcy h3
 rw [e1] at hl ⊢
 simp only [List.length_append] at hl
 have htl : n.type.length ≤ (textC n.type).length := by unfold textC; rw [List.length_append]; omega
 have H := yh (And.intro hps1 (And.intro hwp h3))
 have H0 := yh (And.intro hb (And.intro hg hlt0))
 clear hps hps1 hwp e1 hb hg hlt0
 go_enter Tryz.func48, Tryz.ntmps48
 go_wp2
 generalize hw0 : w.alloc (.cells #[.int .i64 n.id, .int .i64 n.src, .int .i64 n.dst, .string (strB n.type), .slice pp n.props.length cp] 72) = w0 at *
 clear hw0
 obtain ⟨hb, hg, hlt0⟩ := H0.out
 have hf : ∀ (i : Nat) (W' : World), i < 3 → (Instr.fieldAt 72 (.pointer (some ⟨w.heap.size, 0, none⟩)) i).run Tryz.prog W' = .ok (.pointer (some ⟨w.heap.size, i, none⟩)) W' := by intro i W' hi; match i, hi with | 0, _ => simp [go_sem] | 1, _ => simp [go_sem] | 2, _ => simp [go_sem]
 refine Kao (fun W => Below w0.heap.size w0 W) (by kernel_rfl) (show Below w0.heap.size w0 w0.drew from (Below.refl _ _).drew) (fun hS => ?_)
 refine tk 0 4 (v := .pointer (some ⟨w.heap.size, 0, none⟩)) rfl rfl (fun W hW => Kae rfl rfl (hf 0 W (by omega))) ?_
 simp only [Act.put, sA, sZ, sS]
 refine tk 1 5 (v := .int .i64 n.id) rfl rfl (fun W hW => Kah rfl rfl (Kdx Tryz.underlying2 rfl hW hg rfl)) ?_
 simp only [Act.put, sA, sZ, sS]
 refine tk 2 6 (v := .int .u64 ((toU n.id : Nat) : Int)) rfl rfl (fun W hW => Kcg rfl rfl (Ken h1 W)) ?_
 simp only [Act.put, sA, sZ, sS]
 refine tk 4 8 (v := .pointer (some ⟨w.heap.size, 1, none⟩)) rfl rfl (fun W hW => Kae rfl rfl (hf 1 W (by omega))) ?_
 simp only [Act.put, sA, sZ, sS]
 refine tk 5 9 (v := .int .i64 n.src) rfl rfl (fun W hW => Kah rfl rfl (Kdx Tryz.underlying2 rfl hW hg rfl)) ?_
 simp only [Act.put, sA, sZ, sS]
 refine tk 6 10 (v := .int .u64 ((toU n.src : Nat) : Int)) rfl rfl (fun W hW => Kcg rfl rfl (Ken h2 W)) ?_
 simp only [Act.put, sA, sZ, sS]
 refine Kbi 3 7 rfl rfl (by kernel_rfl) rfl (Ka0 [.int .u64 ((toU n.id : Nat) : Int)] rfl rfl Tryz.func46 (by kernel_rfl) (by kernel_rfl)) ?_
 refine (Kb1 (n := toU n.id) (Kbp h1).1 _).mono ?_
 rintro e W3 ⟨o3, rfl, hBW3⟩
 have hSW3 : Below w0.heap.size w0 W3 := Kaa hS hBW3.b
 refine ⟨_, rfl, .inr hSW3, ?_⟩
 simp only [Act.put, sA, sZ, sS]
 refine Kbi 7 11 rfl rfl (by kernel_rfl) rfl (Ka0 [.int .u64 ((toU n.src : Nat) : Int)] rfl rfl Tryz.func46 (by kernel_rfl) (by kernel_rfl)) ?_
 refine (Kb1 (n := toU n.src) (Kbp h2).1 _).mono ?_
 rintro e W8 ⟨o8, rfl, hBW8⟩
 have hSW8 : Below w0.heap.size w0 W8 := Kaa hSW3 hBW8.b
 refine ⟨_, rfl, .inr hSW8, ?_⟩
 simp only [Act.put, sA, sZ, sS]
 obtain ⟨v9, W9, happ, hI9⟩ := hBW3.join hBW8 (by omega) 26
 have hS9 : Below w0.heap.size w0 W9 := Kaa hS hI9.b
 refine Keo 8 12 (v := v9) rfl rfl (by kernel_rfl) rfl (Kdf rfl rfl rfl happ) (.inr hS9) ?_
 simp only [Act.put, sA, sZ, sS]
 refine tk 9 3 (v := v9) rfl rfl (fun W hW => Kbl rfl rfl) ?_
 simp only [Act.put, sA, sZ, sS]
 refine done (by kernel_rfl) ?_ _
 have HB := yh (show Buf w0 W9 v9 (numB (toU n.id) ++ numB (toU n.src)) from ⟨⟨hI9.own.1, fun q hq => Nat.le_trans hS.size (hI9.own.2 q hq)⟩, hS9⟩)
 have c2 := Kab (o := 2) (Kap hS9 hlt0 hg) rfl
 clear hI9 happ hS9 hS hSW3 hSW8 hBW3 hBW8 hf hb hg hlt0
 go_wp2_with (first
  | (go_at_call 46
     (
      refine (Kb1 (n := toU n.dst) (Kbp H.out.2.2).1 _).mono ?_
      rintro e W1 ⟨o2, rfl, hB2⟩
      obtain ⟨vW1, W1a, ha, hI⟩ := HB.out.join hB2 (by (try simp only [List.length_append, List.length_cons, List.length_nil] at *); omega) 26
      have HA := yh ha
      have HR := yh hI
      have c3 := Kab (o := 3) (Kap hI.b H0.out.2.2 H0.out.2.1) rfl
      clear hB2 ha hI))
  | ((with_reducible apply Kar); exact HA.out; exact rfl; exact rfl; clear HA)
  | (go_at_call 68
     (
      refine (dtext_any (s := n.type) (by omega) _).mono ?_
      rintro e W2 ⟨o2, rfl, hB2⟩
      obtain ⟨vW2, W2a, ha, hI⟩ := HR.out.join hB2 (by (try simp only [List.length_append, List.length_cons, List.length_nil] at *); omega) 26
      have HA1 := yh ha
      have HR1 := yh hI
      have c4 := Kab (o := 4) (Kap hI.b H0.out.2.2 H0.out.2.1) rfl
      clear hB2 ha hI))
  | ((with_reducible apply Kar); exact HA1.out; exact rfl; exact rfl; clear HA1)
  | (go_at_call 103
     (
      refine (dprops_any (H.out.1.below (fun h => h.below HR1.out.b) HR1.out.b) H.out.2.1 (by omega)).mono ?_
      rintro e W3 ⟨o2, rfl, hB2⟩
      obtain ⟨vW3, W3a, ha, hI⟩ := HR1.out.join hB2 (by (try simp only [List.length_append, List.length_cons, List.length_nil] at *); omega) 26
      have HA2 := yh ha
      have HR2 := yh hI
      clear hB2 ha hI))
  | ((with_reducible apply Kar); exact HA2.out; exact rfl; exact rfl; clear HA2))
 go_ret
 refine ⟨_, rfl, ?_⟩
 have h := HR2.out.up H0.out.1
 simp only [List.append_assoc] at h
 exact h
section
variable {w W W1 : World} {o o2 : Value} {l m : List UInt8} {B : Nat}
theorem Buf.apx (h : Buf w W o l) (hb : Below W.heap.size W W1) (ho : o.ownBlock ≠ some B) (hB : B < W.heap.size) {a : Option Addr} {n c : Nat} (hm : RdB W1 (.slice a n c) m) (hn : l.length + m.length ≤ 70368744177664) (ty : TypeId) :
 ∃ v W', (Builtin.append_ #[26, 26] ty #[o, .slice a n c]).run Tryz.prog W1 = .ok v W' ∧ Buf w W' v (l ++ m) ∧ v.ownBlock ≠ some B ∧ W'.heap[B]? = W.heap[B]? := by
 obtain ⟨a', cap, heq, h1, h2⟩ := hm
 cases heq
 have hbl := h.below hb
 obtain ⟨i, i1, i2, i3, i4⟩ := info_u8v
 cases a with
 | none =>
   have hc := h1.2.2 rfl
   have hn : m = [] := List.eq_nil_of_length_eq_zero (by omega)
   subst hn; subst hc
   exact ⟨o, W1, Keq (P := Tryz.prog) 26 ty 5 i 1 Tryz.underlying26 i1 i3 o l.length _ hbl.own.1, by rw [List.append_nil]; exact hbl, ho, hb.block B hB⟩
 | some ad =>
   have hcell := RdB.at (w := W1) (c := c) ⟨_, _, rfl, h1, h2⟩
   have hsz := hbl.b.size
   obtain ⟨v', W', a1, a2, a3, a4, a5⟩ := Kdi (P := Tryz.prog) (w := W1) 26 ty 5 i _ 1 1 Tryz.underlying26 i1 i2 i3 i4 rfl o l.length _ hbl.own.1 ad m.length c (m.map byteV)
    (by simp) (fun j u hu => by
      rw [List.getElem?_map, Option.map_eq_some_iff] at hu
      obtain ⟨b, hb, rfl⟩ := hu
      exact hcell j b hb) (fun u hu => by obtain ⟨s, _, rfl⟩ := List.mem_map.1 hu; rfl) (by unfold maxLen; omega) (by omega)
   have hBW : B < W1.heap.size := Nat.lt_of_lt_of_le hB hb.size
   refine ⟨v', W', a1, ⟨⟨?_, fun q hq => ?_⟩, ?_⟩, ?_, (a3.block B hBW ho).trans (hb.block B hB)⟩
   ·rw [List.length_append, List.map_append]; exact a2
   ·rcases a4 with e | e
    ·exact hbl.own.2 q (e.symm.trans hq)
    ·rw [e] at hq; cases hq; exact hsz
   ·exact a3.below hbl.b (fun b hb e => by have := hbl.own.2 b e; omega) hsz
   ·rcases a4 with e | e
    ·rw [e]; exact ho
    ·rw [e]; intro e2; cases e2; omega
theorem Buf.joinx (h : Buf w W o l) (g : Buf W W1 o2 m) (ho : o.ownBlock ≠ some B) (hB : B < W.heap.size) (hn : l.length + m.length ≤ 70368744177664) (ty : TypeId) :
 ∃ v W', (Builtin.append_ #[26, 26] ty #[o, o2]).run Tryz.prog W1 = .ok v W' ∧ Buf w W' v (l ++ m) ∧ v.ownBlock ≠ some B ∧ W'.heap[B]? = W.heap[B]? := by
 obtain ⟨p, c, rfl⟩ := g.shape
 exact h.apx g.b ho hB g.rd hn ty
theorem Buf.onex (h : Buf w W o l) (c : UInt8) (ho : o.ownBlock ≠ some B) (hB : B < W.heap.size) (hn : l.length + 1 ≤ 70368744177664) (ty : TypeId) :
 ∃ v W', (Builtin.append_ #[26, 26] ty #[o, .slice (some ⟨W.heap.size, 0, none⟩) 1 1]).run Tryz.prog (W.alloc (.cells #[.int .u8 (c.toNat : Int)] 5)) = .ok v W' ∧ Buf w W' v (l ++ [c]) ∧ v.ownBlock ≠ some B ∧ W'.heap[B]? = W.heap[B]? := by
 refine h.apx (Kad _) ho hB (m := [c]) ?_ hn ty
 exact (Buf.start (Below.refl _ _) (m := [c]) (cs := #[.int .u8 (c.toNat : Int)]) rfl (by simp)).rd
end
theorem Buf.own_lt {w W : World} {o : Value} {l : List UInt8} (h : Buf w W o l) : o.ownBlock ≠ some W.heap.size := fun e => by
 have := h.own.1.lt _ e; omega
theorem dchanges_any {w : World} {p : Option Addr} {c : Nat} {l : List ChangeD} (h : GRd CRd 11 w p c l) (hwf : ∀ x ∈ l, useC x) (hl : (Kby l).length ≤ 1000000000000) : Calls Tryz.prog 29 #[.slice p l.length c] w fun e w' => ∃ o, e = .returned o ∧ Buf w w' o (Kby l) := by
 have z1 : (l.length : Int) ≤ 140737488355328 := by have := h.1.2.1; omega
 have hl10 : (numB l.length).length ≤ 10 := Kbh (by unfold u64T; omega)
 have e0 : Kby l = rowsC Kaw l := rfl
 rw [e0] at hl ⊢
 have H := yh h
 have HW := yh hwf
 clear h hwf e0
 go_enter Tryz.func29, Tryz.ntmps29
 go_wp2_with (go_at_call 46; refine (Kb1 (n := l.length) (by omega) _).mono ?_; rintro e W1 ⟨o1, rfl, hB1⟩; have HB1 := yh hB1; clear hB1)
 go_loopw [3, 4] (fun o i W => ∃ (j : Nat) (ov : Value), j ≤ l.length ∧ i = .int .i64 (j : Int) ∧ ov = o ∧ Hid (Buf w W ov (numB l.length ++ (l.take j).flatMap Kaw))) (fun _ i _ => l.length - (intOf i).toNat)
 case atStart => exact ⟨0, _, Nat.zero_le _, rfl, rfl, yh (by have := HB1.out; simpa using this)⟩
 case round =>
  clear HB1
  obtain ⟨j, ov, hj, rfl, rfl, HB⟩ := hrel
  by_cases hlt : j < l.length
  ·have hlt1 : j + 1 ≤ l.length := hlt
   obtain ⟨b, of, cs, rfl, hs, hc, hv⟩ := H.out.get hlt
   have hones := Kdn.ones hv
   have hstep := rows_step Kaw hlt
   have hl1 := rows_le Kaw (l := l) j
   have hl2 := rows_at_le Kaw hlt
   rw [List.length_append] at hl1
   have hu := HW.out l[j] (List.getElem_mem hlt)
   have HLE := yh (StT.load (W := wr) Ka8 hs fun i u hu => Kag HB.out.b (ltOf (hc i u hu)) (hc i u hu))
   have HSF := yh (StT.fresh (P := Tryz.prog) Ka8 hs hones (W := wr))
   have hcz : (#[.int .i64 0, .int .i64 0, .int .i64 0, .int .i64 0, .slice none 0 0, .slice none 0 0, .int .i64 0, .int .i64 0, .int .i64 0, .string ⟨#[]⟩, .slice none 0 0] : Array Value).size = 11 := rfl
   have hbn := Kad (w := wr) (.cells cs 74)
   have hxn := heap_alloc_new wr (.cells cs 74)
   have hob : ov.ownBlock ≠ some wr.heap.size := HB.out.own_lt
   have hBlt := (Array.getElem?_eq_some_iff.1 hxn).1
   have hbn2 : Below wr.heap.size wr (wr.alloc (.cells cs 74)) := hbn
   have hbW : ∀ {W1 : World} {v1 : Value} {m1 : List UInt8}, Buf w W1 v1 m1 → Below w.heap.size w W1 := fun h => h.b
   obtain ⟨xa, xb, hna, hrb, xk, x1c, x2c, x3, x6⟩ := Kb8 hv
   generalize l[j] = c1 at *
   have hkk : c1.kind = 0 ∨ c1.kind = 1 ∨ c1.kind = 4 ∨ c1.kind = 2 ∨ c1.kind = 3 := by have h1 := hu.1; have h2 := hu.2.1; omega
   rcases hkk with hkk | hkk | hkk | hkk | hkk
   ·have hk : c1.kind = 0 := hkk
    have hcs0 := xk
    rw [hk] at hcs0
    have ek : Kaw c1 = UInt8.ofNat (0 : Int).toNat :: nodeC c1.node := by unfold Kaw; rw [hk]; rfl
    obtain ⟨v1, W1, ha1, hI1, hO1, hK1⟩ := (HB.out.below hbn).onex (0 : UInt8) hob hBlt (by rw [List.length_append]; omega) 26
    have hX1 := hK1.trans hxn
    have p0 := Kab (o := 0) hxn hcs0
    have p01 := Kab (o := 0) hX1 hcs0
    rw [ek] at hstep hl2
    simp only [List.length_cons, List.length_append] at hl2
    simp only [World.size_alloc] at ha1
    have HA1 := yh ha1
    have HI1 := yh (And.intro hI1 (And.intro hO1 (And.intro (Array.getElem?_eq_some_iff.1 hX1).1 hX1)))
    have HST := yh hstep
    have hbW1 : Below w.heap.size w W1 := hbW hI1
    have HLD := yh (StT.load (P := Tryz.prog) (W := W1) (g := wr.heap.size) (o := 3) Kb2 (Kd3.size hna) fun i u hu => Kab (o := 3 + i) hX1 (x3 i u hu))
    have hcall := dnode_any (w := W1) (hna.below hbW1) (hu.2.2.1 hk) (by omega)
    have HCL := yh hcall
    clear hcall hI1 hO1 hK1 hX1 hbW1 hstep xk hcs0 x1c x2c x3 x6 hna hrb hxn hbn hbn2 hob hBlt hbW ha1 ek hv hc
    go_wp2_with (first
     | ((with_reducible apply Kal); exact HLE.out; exact rfl)
     | ((with_reducible apply Kac); exact HSF.out _ hcz; exact rfl; exact rfl; clear HSF)
     | ((with_reducible apply Kar); exact HA1.out; exact rfl; exact rfl; clear HA1)
     | ((with_reducible apply Kal); exact HLD.out; exact rfl)
     | (go_at_call 47
        (
         refine (HCL.out).mono ?_
         rintro e W2 ⟨o2, rfl, hB2⟩
         obtain ⟨vW2, W2a, ha, hI, hO, hK⟩ := HI1.out.1.joinx hB2 HI1.out.2.1 HI1.out.2.2.1 (by (try simp only [List.length_append, List.length_cons, List.length_nil] at *); omega) 26
         have hX := hK.trans HI1.out.2.2.2
         have HA2 := yh ha
         have HR := yh (And.intro hI (And.intro hO (And.intro (Array.getElem?_eq_some_iff.1 hX).1 hX)))
         clear hB2 ha hI hO hK hX))
     | ((with_reducible apply Kar); exact HA2.out; exact rfl; exact rfl; clear HA2))
    go_roundw
    case rel => exact ⟨j + 1, _, hlt1, by go_num, rfl, yh (by rw [HST.out]; have h := HR.out.1; simp only [List.append_assoc, List.cons_append, List.nil_append] at h ⊢; exact h)⟩
    case measure => simp [intOf]; omega
   ·have hk : c1.kind = 1 := hkk
    have hcs0 := xk
    rw [hk] at hcs0
    have ek : Kaw c1 = UInt8.ofNat (1 : Int).toNat :: relC c1.rel := by unfold Kaw; rw [hk]; rfl
    obtain ⟨v1, W1, ha1, hI1, hO1, hK1⟩ := (HB.out.below hbn).onex (1 : UInt8) hob hBlt (by rw [List.length_append]; omega) 26
    have hX1 := hK1.trans hxn
    have p0 := Kab (o := 0) hxn hcs0
    have p01 := Kab (o := 0) hX1 hcs0
    rw [ek] at hstep hl2
    simp only [List.length_cons, List.length_append] at hl2
    simp only [World.size_alloc] at ha1
    have HA1 := yh ha1
    have HI1 := yh (And.intro hI1 (And.intro hO1 (And.intro (Array.getElem?_eq_some_iff.1 hX1).1 hX1)))
    have HST := yh hstep
    have hbW1 : Below w.heap.size w W1 := hbW hI1
    have HLD := yh (StT.load (P := Tryz.prog) (W := W1) (g := wr.heap.size) (o := 6) Kdj (ef_rel.size hrb) fun i u hu => Kab (o := 6 + i) hX1 (x6 i u hu))
    have hcall := drel_any (w := W1) (hrb.below hbW1) (hu.2.2.2.1 hk) (by omega)
    have HCL := yh hcall
    clear hcall hI1 hO1 hK1 hX1 hbW1 hstep xk hcs0 x1c x2c x3 x6 hna hrb hxn hbn hbn2 hob hBlt hbW ha1 ek hv hc
    go_wp2_with (first
     | ((with_reducible apply Kal); exact HLE.out; exact rfl)
     | ((with_reducible apply Kac); exact HSF.out _ hcz; exact rfl; exact rfl; clear HSF)
     | ((with_reducible apply Kar); exact HA1.out; exact rfl; exact rfl; clear HA1)
     | ((with_reducible apply Kal); exact HLD.out; exact rfl)
     | (go_at_call 48
        (
         refine (HCL.out).mono ?_
         rintro e W2 ⟨o2, rfl, hB2⟩
         obtain ⟨vW2, W2a, ha, hI, hO, hK⟩ := HI1.out.1.joinx hB2 HI1.out.2.1 HI1.out.2.2.1 (by (try simp only [List.length_append, List.length_cons, List.length_nil] at *); omega) 26
         have hX := hK.trans HI1.out.2.2.2
         have HA2 := yh ha
         have HR := yh (And.intro hI (And.intro hO (And.intro (Array.getElem?_eq_some_iff.1 hX).1 hX)))
         clear hB2 ha hI hO hK hX))
     | ((with_reducible apply Kar); exact HA2.out; exact rfl; exact rfl; clear HA2))
    go_roundw
    case rel => exact ⟨j + 1, _, hlt1, by go_num, rfl, yh (by rw [HST.out]; have h := HR.out.1; simp only [List.append_assoc, List.cons_append, List.nil_append] at h ⊢; exact h)⟩
    case measure => simp [intOf]; omega
   ·have hk : c1.kind = 4 := hkk
    have hcs0 := xk
    rw [hk] at hcs0
    have ek : Kaw c1 = UInt8.ofNat (4 : Int).toNat :: (numB (zzN c1.id) ++ numB (zzN c1.other)) := by unfold Kaw; rw [hk]; rfl
    obtain ⟨v1, W1, ha1, hI1, hO1, hK1⟩ := (HB.out.below hbn).onex (4 : UInt8) hob hBlt (by rw [List.length_append]; omega) 26
    have hX1 := hK1.trans hxn
    have p0 := Kab (o := 0) hxn hcs0
    have p01 := Kab (o := 0) hX1 hcs0
    rw [ek] at hstep hl2
    simp only [List.length_cons, List.length_append] at hl2
    simp only [World.size_alloc] at ha1
    have HA1 := yh ha1
    have HI1 := yh (And.intro hI1 (And.intro hO1 (And.intro (Array.getElem?_eq_some_iff.1 hX1).1 hX1)))
    have HST := yh hstep
    have hbW1 : Below w.heap.size w W1 := hbW hI1
    have p11 := Kab (o := 1) hX1 x1c
    have hcall := Kd9 (hu.2.2.2.2 (by omega)).1 W1
    have hcall2 := fun W => Kd9 (hu.2.2.2.2 (by omega)).2 W
    have HCL2 := yh hcall2
    have HX2 := yh x2c
    clear hcall2
    have HCL := yh hcall
    clear hcall hI1 hO1 hK1 hX1 hbW1 hstep xk hcs0 x1c x2c x3 x6 hna hrb hxn hbn hbn2 hob hBlt hbW ha1 ek hv hc
    go_wp2_with (first
     | ((with_reducible apply Kal); exact HLE.out; exact rfl)
     | ((with_reducible apply Kac); exact HSF.out _ hcz; exact rfl; exact rfl; clear HSF)
     | ((with_reducible apply Kar); exact HA1.out; exact rfl; exact rfl; clear HA1)
     | (go_at_call 67
        (
         refine (HCL.out).mono ?_
         rintro e W2 ⟨o2, rfl, hB2⟩
         obtain ⟨vW2, W2a, ha, hI, hO, hK⟩ := HI1.out.1.joinx hB2 HI1.out.2.1 HI1.out.2.2.1 (by (try simp only [List.length_append, List.length_cons, List.length_nil] at *); omega) 26
         have hX := hK.trans HI1.out.2.2.2
         have HA2 := yh ha
         have HR0 := yh (And.intro hI (And.intro hO (And.intro (Array.getElem?_eq_some_iff.1 hX).1 hX)))
         have p22 := Kab (o := 2) hX HX2.out
         clear HCL
         clear hB2 ha hI hO hK hX))
     | ((with_reducible apply Kar); exact HA2.out; exact rfl; exact rfl; clear HA2)
     | (go_at_call 67
        (
         refine (HCL2.out _).mono ?_
         rintro e W3 ⟨o2, rfl, hB2⟩
         obtain ⟨vW3, W3a, ha, hI, hO, hK⟩ := HR0.out.1.joinx hB2 HR0.out.2.1 HR0.out.2.2.1 (by (try simp only [List.length_append, List.length_cons, List.length_nil] at *); omega) 26
         have hX := hK.trans HR0.out.2.2.2
         have HA3 := yh ha
         have HR := yh (And.intro hI (And.intro hO (And.intro (Array.getElem?_eq_some_iff.1 hX).1 hX)))
         clear hB2 ha hI hO hK hX))
     | ((with_reducible apply Kar); exact HA3.out; exact rfl; exact rfl; clear HA3))
    go_roundw
    case rel => exact ⟨j + 1, _, hlt1, by go_num, rfl, yh (by rw [HST.out]; have h := HR.out.1; simp only [List.append_assoc, List.cons_append, List.nil_append] at h ⊢; exact h)⟩
    case measure => simp [intOf]; omega
   ·have hk : c1.kind = 2 := hkk
    have hcs0 := xk
    rw [hk] at hcs0
    have ek : Kaw c1 = UInt8.ofNat (2 : Int).toNat :: numB (zzN c1.id) := by unfold Kaw; rw [hk]; rfl
    obtain ⟨v1, W1, ha1, hI1, hO1, hK1⟩ := (HB.out.below hbn).onex (2 : UInt8) hob hBlt (by rw [List.length_append]; omega) 26
    have hX1 := hK1.trans hxn
    have p0 := Kab (o := 0) hxn hcs0
    have p01 := Kab (o := 0) hX1 hcs0
    rw [ek] at hstep hl2
    simp only [List.length_cons, List.length_append] at hl2
    simp only [World.size_alloc] at ha1
    have HA1 := yh ha1
    have HI1 := yh (And.intro hI1 (And.intro hO1 (And.intro (Array.getElem?_eq_some_iff.1 hX1).1 hX1)))
    have HST := yh hstep
    have hbW1 : Below w.heap.size w W1 := hbW hI1
    have p11 := Kab (o := 1) hX1 x1c
    have hcall := Kd9 (hu.2.2.2.2 (by omega)).1 W1
    have HCL := yh hcall
    clear hcall hI1 hO1 hK1 hX1 hbW1 hstep xk hcs0 x1c x2c x3 x6 hna hrb hxn hbn hbn2 hob hBlt hbW ha1 ek hv hc
    go_wp2_with (first
     | ((with_reducible apply Kal); exact HLE.out; exact rfl)
     | ((with_reducible apply Kac); exact HSF.out _ hcz; exact rfl; exact rfl; clear HSF)
     | ((with_reducible apply Kar); exact HA1.out; exact rfl; exact rfl; clear HA1)
     | (go_at_call 67
        (
         refine (HCL.out).mono ?_
         rintro e W2 ⟨o2, rfl, hB2⟩
         obtain ⟨vW2, W2a, ha, hI, hO, hK⟩ := HI1.out.1.joinx hB2 HI1.out.2.1 HI1.out.2.2.1 (by (try simp only [List.length_append, List.length_cons, List.length_nil] at *); omega) 26
         have hX := hK.trans HI1.out.2.2.2
         have HA2 := yh ha
         have HR := yh (And.intro hI (And.intro hO (And.intro (Array.getElem?_eq_some_iff.1 hX).1 hX)))
         clear hB2 ha hI hO hK hX))
     | ((with_reducible apply Kar); exact HA2.out; exact rfl; exact rfl; clear HA2))
    go_roundw
    case rel => exact ⟨j + 1, _, hlt1, by go_num, rfl, yh (by rw [HST.out]; have h := HR.out.1; simp only [List.append_assoc, List.cons_append, List.nil_append] at h ⊢; exact h)⟩
    case measure => simp [intOf]; omega
   ·have hk : c1.kind = 3 := hkk
    have hcs0 := xk
    rw [hk] at hcs0
    have ek : Kaw c1 = UInt8.ofNat (3 : Int).toNat :: numB (zzN c1.id) := by unfold Kaw; rw [hk]; rfl
    obtain ⟨v1, W1, ha1, hI1, hO1, hK1⟩ := (HB.out.below hbn).onex (3 : UInt8) hob hBlt (by rw [List.length_append]; omega) 26
    have hX1 := hK1.trans hxn
    have p0 := Kab (o := 0) hxn hcs0
    have p01 := Kab (o := 0) hX1 hcs0
    rw [ek] at hstep hl2
    simp only [List.length_cons, List.length_append] at hl2
    simp only [World.size_alloc] at ha1
    have HA1 := yh ha1
    have HI1 := yh (And.intro hI1 (And.intro hO1 (And.intro (Array.getElem?_eq_some_iff.1 hX1).1 hX1)))
    have HST := yh hstep
    have hbW1 : Below w.heap.size w W1 := hbW hI1
    have p11 := Kab (o := 1) hX1 x1c
    have hcall := Kd9 (hu.2.2.2.2 (by omega)).1 W1
    have HCL := yh hcall
    clear hcall hI1 hO1 hK1 hX1 hbW1 hstep xk hcs0 x1c x2c x3 x6 hna hrb hxn hbn hbn2 hob hBlt hbW ha1 ek hv hc
    go_wp2_with (first
     | ((with_reducible apply Kal); exact HLE.out; exact rfl)
     | ((with_reducible apply Kac); exact HSF.out _ hcz; exact rfl; exact rfl; clear HSF)
     | ((with_reducible apply Kar); exact HA1.out; exact rfl; exact rfl; clear HA1)
     | (go_at_call 67
        (
         refine (HCL.out).mono ?_
         rintro e W2 ⟨o2, rfl, hB2⟩
         obtain ⟨vW2, W2a, ha, hI, hO, hK⟩ := HI1.out.1.joinx hB2 HI1.out.2.1 HI1.out.2.2.1 (by (try simp only [List.length_append, List.length_cons, List.length_nil] at *); omega) 26
         have hX := hK.trans HI1.out.2.2.2
         have HA2 := yh ha
         have HR := yh (And.intro hI (And.intro hO (And.intro (Array.getElem?_eq_some_iff.1 hX).1 hX)))
         clear hB2 ha hI hO hK hX))
     | ((with_reducible apply Kar); exact HA2.out; exact rfl; exact rfl; clear HA2))
    go_roundw
    case rel => exact ⟨j + 1, _, hlt1, by go_num, rfl, yh (by rw [HST.out]; have h := HR.out.1; simp only [List.append_assoc, List.cons_append, List.nil_append] at h ⊢; exact h)⟩
    case measure => simp [intOf]; omega
  ·obtain rfl : j = l.length := by omega
   have HF := yh HB.out
   clear HB
   go_wp2
   go_ret
   refine ⟨_, rfl, ?_⟩
   have h := HF.out
   rw [List.take_length] at h
   exact h
structure PairU (w : World) (s1 s2 : V) (g1 o1 g2 o2 : Nat) (c0 c1 c2 c3 c4 c5 d0 d1 d2 d3 d4 d5 : Value) (W : World) : Prop where
 b : Below w.heap.size w W
 h0 : W.cell? ⟨g1, o1, none⟩ = some c0
 h1 : W.cell? ⟨g1, o1 + 1, none⟩ = some c1
 h2 : W.cell? ⟨g1, o1 + 2, none⟩ = some c2
 h3 : W.cell? ⟨g1, o1 + 3, none⟩ = some c3
 h4 : W.cell? ⟨g1, o1 + 4, none⟩ = some c4
 h5 : W.cell? ⟨g1, o1 + 5, none⟩ = some c5
 q0 : W.cell? ⟨g2, o2, none⟩ = some d0
 q1 : W.cell? ⟨g2, o2 + 1, none⟩ = some d1
 q2 : W.cell? ⟨g2, o2 + 2, none⟩ = some d2
 q3 : W.cell? ⟨g2, o2 + 3, none⟩ = some d3
 q4 : W.cell? ⟨g2, o2 + 4, none⟩ = some d4
 q5 : W.cell? ⟨g2, o2 + 5, none⟩ = some d5
 r1 : VRd W s1 #[c0, c1, c2, c3, c4, c5]
 r2 : VRd W s2 #[d0, d1, d2, d3, d4, d5]
theorem PairU.keep {w W W' : World} {s1 s2 : V} {g1 o1 g2 o2 : Nat} {c0 c1 c2 c3 c4 c5 d0 d1 d2 d3 d4 d5 : Value} (h : PairU w s1 s2 g1 o1 g2 o2 c0 c1 c2 c3 c4 c5 d0 d1 d2 d3 d4 d5 W) (b : Below W.heap.size W W') : PairU w s1 s2 g1 o1 g2 o2 c0 c1 c2 c3 c4 c5 d0 d1 d2 d3 d4 d5 W' :=
 ⟨Kaa h.b b, Kag b (ltOf h.h0) h.h0, Kag b (ltOf h.h1) h.h1, Kag b (ltOf h.h2) h.h2, Kag b (ltOf h.h3) h.h3, Kag b (ltOf h.h4) h.h4, Kag b (ltOf h.h5) h.h5,
  Kag b (ltOf h.q0) h.q0, Kag b (ltOf h.q1) h.q1, Kag b (ltOf h.q2) h.q2, Kag b (ltOf h.q3) h.q3, Kag b (ltOf h.q4) h.q4, Kag b (ltOf h.q5) h.q5, h.r1.below b, h.r2.below b⟩
structure KeyTwo (w : World) (X Y : Array Value) (b1 o1 b2 o2 : Nat) (s1 s2 : List UInt8) (W : World) : Prop where
 two : TwoV w W X Y
 one : W.cell? ⟨b1, o1, none⟩ = some (.string (strB s1))
 sec : W.cell? ⟨b2, o2, none⟩ = some (.string (strB s2))
theorem KeyTwo.keep {w W W' : World} {X Y : Array Value} {b1 o1 b2 o2 : Nat} {s1 s2 : List UInt8} (h : KeyTwo w X Y b1 o1 b2 o2 s1 s2 W) (b : Below W.heap.size W W') : KeyTwo w X Y b1 o1 b2 o2 s1 s2 W' :=
 ⟨h.two.below b, Kag b (ltOf h.one) h.one, Kag b (ltOf h.sec) h.sec⟩
structure AlU (w : World) (X Y : Array Value) (s1 : V) (g1 o1 g2 o2 : Nat) (c0 c1 c2 c3 c4 c5 d0 d1 d2 d3 d4 d5 : Value) (W : World) : Prop where
 two : TwoV w W X Y
 p : PairU w s1 s1 g1 o1 g2 o2 c0 c1 c2 c3 c4 c5 d0 d1 d2 d3 d4 d5 W
theorem AlU.keep {w W W' : World} {X Y : Array Value} {s1 : V} {g1 o1 g2 o2 : Nat} {c0 c1 c2 c3 c4 c5 d0 d1 d2 d3 d4 d5 : Value} (h : AlU w X Y s1 g1 o1 g2 o2 c0 c1 c2 c3 c4 c5 d0 d1 d2 d3 d4 d5 W) (b : Below W.heap.size W W') : AlU w X Y s1 g1 o1 g2 o2 c0 c1 c2 c3 c4 c5 d0 d1 d2 d3 d4 d5 W' := ⟨h.two.below b, h.p.keep b⟩
theorem alikeR_any : ∀ (v : V) (w : World) (x y : Array Value), VRd w v x → VRd w v y →
 Calls Tryz.prog 25 #[.agg x, .agg y] w fun e w' => e = .returned (.bool true) ∧ Below w.heap.size w w' := by
 refine V.ind fun k b n t ks l ih => ?_
 intro w x y hx hy
 obtain ⟨pk, ck, pl, cl, rfl, _, hk1, hl1⟩ := Kdc.1 hx
 obtain ⟨pk', ck', pl', cl', rfl, _, hk2, hl2⟩ := Kdc.1 hy
 have hT := TwoV.start w #[.int .i64 k, .bool b, .int .i64 n, .string (strB t), .slice pk ks.length ck, .slice pl l.length cl] #[.int .i64 k, .bool b, .int .i64 n, .string (strB t), .slice pk' ks.length ck', .slice pl' l.length cl']
 have z1 : (ks.length : Int) ≤ 140737488355328 := by have := hk1.1; have := hk1.2.1; omega
 have z2 : (l.length : Int) ≤ 140737488355328 := by have := hl1.1.2.1; omega
 have c0 := Kab (o := 0) hT.1 rfl; have c1 := Kab (o := 1) hT.1 rfl; have c2 := Kab (o := 2) hT.1 rfl; have c3 := Kab (o := 3) hT.1 rfl; have c4 := Kab (o := 4) hT.1 rfl; have c5 := Kab (o := 5) hT.1 rfl
 have q0 := Kab (o := 0) hT.2.1 rfl; have q1 := Kab (o := 1) hT.2.1 rfl; have q2 := Kab (o := 2) hT.2.1 rfl; have q3 := Kab (o := 3) hT.2.1 rfl; have q4 := Kab (o := 4) hT.2.1 rfl; have q5 := Kab (o := 5) hT.2.1 rfl
 have HT := yh hT
 have HK := yh (And.intro (And.intro hk1 hk2) (And.intro hl1 hl2))
 have HI := yh ih
 clear ih hx hy hT hk1 hk2 hl1 hl2
 go_enter Tryz.func25, Tryz.ntmps25
 go_wp2
 have HT0 := HT
 clear c0 c1 c2 c3 c4 c5 q0 q1 q2 q3 q4 q5
 go_loopw [5] (fun i wr => ∃ j : Nat, j ≤ ks.length ∧ i = .int .i64 (j : Int) ∧ Hid (TwoV w wr #[.int .i64 k, .bool b, .int .i64 n, .string (strB t), .slice pk ks.length ck, .slice pl l.length cl] #[.int .i64 k, .bool b, .int .i64 n, .string (strB t), .slice pk' ks.length ck', .slice pl' l.length cl'])) (fun i _ => ks.length - (intOf i).toNat)
 case atStart => exact ⟨0, Nat.zero_le _, rfl, HT0⟩
 case round =>
  clear HT HT0
  obtain ⟨j, hj, rfl, HT⟩ := hrel
  have hT1 := HT.out
  have c4 := Kab (o := 4) hT1.1 rfl; have c5 := Kab (o := 5) hT1.1 rfl
  have q4 := Kab (o := 4) hT1.2.1 rfl; have q5 := Kab (o := 5) hT1.2.1 rfl
  by_cases hlt : j < ks.length
  ·have hlt1 : j + 1 ≤ ks.length := hlt
   have hbd : Below w.heap.size w wr.drew := Kaa hT1.2.2 (Below.refl _ _).drew
   obtain ⟨b1, o1, rfl, r1, y1⟩ := (HK.out.1.1.below hbd).get hlt
   obtain ⟨b2, o2, rfl, r2, y2⟩ := (HK.out.1.2.below hbd).get hlt
   have hlt2 := hlt
   generalize ks[j] = s1 at *
   have hU0 : KeyTwo w #[.int .i64 k, .bool b, .int .i64 n, .string (strB t), .slice (some ⟨b1, o1, none⟩) ks.length ck, .slice pl l.length cl] #[.int .i64 k, .bool b, .int .i64 n, .string (strB t), .slice (some ⟨b2, o2, none⟩) ks.length ck', .slice pl' l.length cl'] b1 (o1 + j) b2 (o2 + j) s1 s1 wr.drew := ⟨hT1.below (Below.refl _ _).drew, r1, r2⟩
   have hne : ∀ W, (binOp .neq 9 (.string (strB s1)) (.string (strB s1))).run Tryz.prog W = .ok (.bool false) W := fun W => by rw [run_neStr]; simp
   clear r1 r2 y1 y2 hbd hT1
   go_wp2
   refine Kao (fun W => KeyTwo w #[.int .i64 k, .bool b, .int .i64 n, .string (strB t), .slice (some ⟨b1, o1, none⟩) ks.length ck, .slice pl l.length cl] #[.int .i64 k, .bool b, .int .i64 n, .string (strB t), .slice (some ⟨b2, o2, none⟩) ks.length ck', .slice pl' l.length cl'] b1 (o1 + j) b2 (o2 + j) s1 s1 W) (by kernel_rfl) hU0 (fun hU => ?_)
   refine tk 0 58 (v := .pointer (some ⟨w.heap.size, 4, none⟩)) rfl rfl (fun W hW => Kae rfl rfl (Kch _ _ (by decide) W)) ?_
   simp only [Act.put, sA, sZ, sS]
   refine tk 1 59 (v := .slice (some ⟨b1, o1, none⟩) ks.length ck) rfl rfl (fun W hW => Kah rfl rfl (Kaj (w := W) Tryz.underlying45 rfl (Kab hW.two.1 rfl))) ?_
   simp only [Act.put, sA, sZ, sS]
   refine tk 2 60 (v := .int .i64 (j : Int)) rfl rfl (fun W hW => Kaf rfl rfl) ?_
   simp only [Act.put, sA, sZ, sS]
   refine tk 3 61 (v := .pointer (some ⟨b1, o1 + j, none⟩)) rfl rfl (fun W hW => Kak rfl rfl rfl (ia_keys _ _ _ _ _ hlt W)) ?_
   simp only [Act.put, sA, sZ, sS]
   refine tk 4 62 (v := .string (strB s1)) rfl rfl (fun W hW => Kah rfl rfl (Kaj (w := W) Tryz.underlying9 rfl hW.one)) ?_
   simp only [Act.put, sA, sZ, sS]
   refine tk 5 63 (v := .pointer (some ⟨w.heap.size + 1, 4, none⟩)) rfl rfl (fun W hW => Kae rfl rfl (Kch _ _ (by decide) W)) ?_
   simp only [Act.put, sA, sZ, sS]
   refine tk 6 64 (v := .slice (some ⟨b2, o2, none⟩) ks.length ck') rfl rfl (fun W hW => Kah rfl rfl (Kaj (w := W) Tryz.underlying45 rfl (Kab hW.two.2.1 rfl))) ?_
   simp only [Act.put, sA, sZ, sS]
   refine tk 7 65 (v := .int .i64 (j : Int)) rfl rfl (fun W hW => Kaf rfl rfl) ?_
   simp only [Act.put, sA, sZ, sS]
   refine tk 8 66 (v := .pointer (some ⟨b2, o2 + j, none⟩)) rfl rfl (fun W hW => Kak rfl rfl rfl (ia_keys _ _ _ _ _ hlt2 W)) ?_
   simp only [Act.put, sA, sZ, sS]
   refine tk 9 67 (v := .string (strB s1)) rfl rfl (fun W hW => Kah rfl rfl (Kaj (w := W) Tryz.underlying9 rfl hW.sec)) ?_
   simp only [Act.put, sA, sZ, sS]
   refine tk 10 68 (v := .bool false) rfl rfl (fun W hW => Ked rfl rfl rfl (hne W)) ?_
   simp only [Act.put, sA, sZ, sS]
   refine done (by kernel_rfl) ?_ _
   have HT0 := yh hU.two
   have c4 := Kab (o := 4) hU.two.1 rfl
   have q4 := Kab (o := 4) hU.two.2.1 rfl
   clear hU hU0 hne
   go_wp2
   go_roundw
   case rel => exact ⟨j + 1, by omega, by go_num, HT0⟩
   case measure => simp [intOf]; omega
  ·obtain rfl : j = ks.length := by omega
   have HT0 := HT
   clear hT1
   go_wp2
   go_loopw [6] (fun i wr => ∃ j : Nat, j ≤ l.length ∧ i = .int .i64 (j : Int) ∧ Hid (TwoV w wr #[.int .i64 k, .bool b, .int .i64 n, .string (strB t), .slice pk ks.length ck, .slice pl l.length cl] #[.int .i64 k, .bool b, .int .i64 n, .string (strB t), .slice pk' ks.length ck', .slice pl' l.length cl'])) (fun i _ => l.length - (intOf i).toNat)
   case atStart => exact ⟨0, Nat.zero_le _, rfl, HT0⟩
   case round =>
    clear HT HT0 c4 c5 q4 q5
    obtain ⟨j, hj, rfl, HT⟩ := hrel
    have hT1 := HT.out
    have c4 := Kab (o := 4) hT1.1 rfl; have c5 := Kab (o := 5) hT1.1 rfl
    have q4 := Kab (o := 4) hT1.2.1 rfl; have q5 := Kab (o := 5) hT1.2.1 rfl
    by_cases hlt : j < l.length
    ·have hlt1 : j + 1 ≤ l.length := hlt
     have hbd : Below w.heap.size w wr.drew := Kaa hT1.2.2 (Below.refl _ _).drew
     obtain ⟨g1, o1, pk1, ck1, pl1, cl1, rfl, ⟨a0, a1, a2, a3, a4, a5⟩, hv1⟩ := (HK.out.2.1.below hbd).at hlt
     obtain ⟨g2, o2, pk2, ck2, pl2, cl2, rfl, ⟨r0, r1, r2, r3, r4, r5⟩, hv2⟩ := (HK.out.2.2.below hbd).at hlt
     have hlt2 := hlt
     have HC := yh (HI.out l[j] (List.getElem_mem hlt))
     generalize l[j] = s1 at *
     have hU0 : AlU w #[.int .i64 k, .bool b, .int .i64 n, .string (strB t), .slice pk ks.length ck, .slice (some ⟨g1, o1, none⟩) l.length cl] #[.int .i64 k, .bool b, .int .i64 n, .string (strB t), .slice pk' ks.length ck', .slice (some ⟨g2, o2, none⟩) l.length cl'] s1 g1 (o1 + j * 6) g2 (o2 + j * 6) (.int .i64 s1.kind) (.bool s1.b) (.int .i64 s1.n) (.string (strB s1.text)) (.slice pk1 s1.keys.length ck1) (.slice pl1 s1.list.length cl1) (.int .i64 s1.kind) (.bool s1.b) (.int .i64 s1.n) (.string (strB s1.text)) (.slice pk2 s1.keys.length ck2) (.slice pl2 s1.list.length cl2) wr.drew := ⟨hT1.below (Below.refl _ _).drew, ⟨hbd, a0, a1, a2, a3, a4, a5, r0, r1, r2, r3, r4, r5, hv1, hv2⟩⟩
     clear a0 a1 a2 a3 a4 a5 r0 r1 r2 r3 r4 r5 hv1 hv2 hbd hT1
     go_wp2
     refine Kao (fun W => AlU w #[.int .i64 k, .bool b, .int .i64 n, .string (strB t), .slice pk ks.length ck, .slice (some ⟨g1, o1, none⟩) l.length cl] #[.int .i64 k, .bool b, .int .i64 n, .string (strB t), .slice pk' ks.length ck', .slice (some ⟨g2, o2, none⟩) l.length cl'] s1 g1 (o1 + j * 6) g2 (o2 + j * 6) (.int .i64 s1.kind) (.bool s1.b) (.int .i64 s1.n) (.string (strB s1.text)) (.slice pk1 s1.keys.length ck1) (.slice pl1 s1.list.length cl1) (.int .i64 s1.kind) (.bool s1.b) (.int .i64 s1.n) (.string (strB s1.text)) (.slice pk2 s1.keys.length ck2) (.slice pl2 s1.list.length cl2) W) (by kernel_rfl) hU0 (fun hU => ?_)
     refine tk 0 76 (v := .pointer (some ⟨w.heap.size, 5, none⟩)) rfl rfl (fun W hW => Kae rfl rfl (Kch _ _ (by decide) W)) ?_
     simp only [Act.put, sA, sZ, sS]
     refine tk 1 77 (v := .slice (some ⟨g1, o1, none⟩) l.length cl) rfl rfl (fun W hW => Kah rfl rfl (Kaj (w := W) Tryz.underlying46 rfl (Kab hW.two.1 rfl))) ?_
     simp only [Act.put, sA, sZ, sS]
     refine tk 2 78 (v := .int .i64 (j : Int)) rfl rfl (fun W hW => Kaf rfl rfl) ?_
     simp only [Act.put, sA, sZ, sS]
     refine tk 3 79 (v := .pointer (some ⟨g1, o1 + j * 6, none⟩)) rfl rfl (fun W hW => Kak rfl rfl rfl (ia_vals _ _ _ _ _ hlt W)) ?_
     simp only [Act.put, sA, sZ, sS]
     refine tk 4 80 (v := .agg #[.int .i64 s1.kind, .bool s1.b, .int .i64 s1.n, .string (strB s1.text), .slice pk1 s1.keys.length ck1, .slice pl1 s1.list.length cl1]) rfl rfl (fun W hW => Kah rfl rfl (get_six hW.p.h0 hW.p.h1 hW.p.h2 hW.p.h3 hW.p.h4 hW.p.h5)) ?_
     simp only [Act.put, sA, sZ, sS]
     refine tk 5 81 (v := .pointer (some ⟨w.heap.size + 1, 5, none⟩)) rfl rfl (fun W hW => Kae rfl rfl (Kch _ _ (by decide) W)) ?_
     simp only [Act.put, sA, sZ, sS]
     refine tk 6 82 (v := .slice (some ⟨g2, o2, none⟩) l.length cl') rfl rfl (fun W hW => Kah rfl rfl (Kaj (w := W) Tryz.underlying46 rfl (Kab hW.two.2.1 rfl))) ?_
     simp only [Act.put, sA, sZ, sS]
     refine tk 7 83 (v := .int .i64 (j : Int)) rfl rfl (fun W hW => Kaf rfl rfl) ?_
     simp only [Act.put, sA, sZ, sS]
     refine tk 8 84 (v := .pointer (some ⟨g2, o2 + j * 6, none⟩)) rfl rfl (fun W hW => Kak rfl rfl rfl (ia_vals _ _ _ _ _ hlt2 W)) ?_
     simp only [Act.put, sA, sZ, sS]
     refine tk 9 85 (v := .agg #[.int .i64 s1.kind, .bool s1.b, .int .i64 s1.n, .string (strB s1.text), .slice pk2 s1.keys.length ck2, .slice pl2 s1.list.length cl2]) rfl rfl (fun W hW => Kah rfl rfl (get_six hW.p.q0 hW.p.q1 hW.p.q2 hW.p.q3 hW.p.q4 hW.p.q5)) ?_
     simp only [Act.put, sA, sZ, sS]
     refine Kbi 10 86 rfl rfl (by kernel_rfl) rfl (Ka0 [.agg #[.int .i64 s1.kind, .bool s1.b, .int .i64 s1.n, .string (strB s1.text), .slice pk1 s1.keys.length ck1, .slice pl1 s1.list.length cl1], .agg #[.int .i64 s1.kind, .bool s1.b, .int .i64 s1.n, .string (strB s1.text), .slice pk2 s1.keys.length ck2, .slice pl2 s1.list.length cl2]] rfl rfl Tryz.func25 (by kernel_rfl) (by kernel_rfl)) ?_
     refine (HC.out _ _ _ hU.p.r1 hU.p.r2).mono ?_
     rintro e w5 ⟨rfl, hb5⟩
     have hU2 := hU.keep hb5
     clear hb5
     refine ⟨_, rfl, .inr hU2, ?_⟩
     simp only [Act.put, sA, sZ, sS]
     refine tk 11 87 (v := .bool false) rfl rfl (fun W hW => Kb0 (b := true) rfl rfl) ?_
     simp only [Act.put, sA, sZ, sS]
     refine done (by kernel_rfl) ?_ _
     have HT0 := yh hU2.two
     have c5 := Kab (o := 5) hU2.two.1 rfl
     have q5 := Kab (o := 5) hU2.two.2.1 rfl
     clear hU hU0 hU2 HC
     go_wp2
     go_roundw
     case rel => exact ⟨j + 1, by omega, by go_num, HT0⟩
     case measure => simp [intOf]; omega
    ·obtain rfl : j = l.length := by omega
     have HF := yh hT1.2.2
     clear hT1
     go_wp2
     go_ret
     exact ⟨rfl, HF.out⟩
end Go.Proofs.YthdfedfholmbmaaGreatDoor
