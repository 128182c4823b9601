/- Texts that the proof shares (each declaration is a lemma of this layer). -/
import Derived.Test.YthdfedfholmbmaaGreatDoorZCvalsa
import Derived.Test.YthdfedfholmbmaaGreatDoorZCvalsb
import Derived.Test.YthdfedfholmbmaaGreatDoorZCvalsc
import Derived.Test.YthdfedfholmbmaaGreatDoorZCvalsd
set_option linter.unusedSimpArgs false
set_option linter.unusedVariables false
set_option maxRecDepth 100000
set_option maxHeartbeats 64000000
namespace Go.Proofs.YthdfedfholmbmaaGreatDoor
open Go.RowKit
def SizeLo (left tot r : Nat) : Prop := (tot ≤ left → r = tot) ∧ (left < tot → left < r) ∧ r ≤ left + 281474976710657
def kSum (ks : List (List UInt8)) : Nat := (ks.map List.length).sum
theorem kSum_step {ks : List (List UInt8)} {j : Nat} (h : j < ks.length) : kSum (ks.take (j + 1)) = kSum (ks.take j) + ks[j].length := by
 unfold kSum; rw [List.take_succ_eq_append_getElem h, List.map_append, List.sum_append]; simp
theorem kSum_le (ks : List (List UInt8)) (j : Nat) : kSum (ks.take j) ≤ kSum ks := by
 have e : ks.take j ++ ks.drop j = ks := List.take_append_drop _ _
 have := congrArg kSum e
 unfold kSum at *
 rw [List.map_append, List.sum_append] at this
 omega
theorem tVs_step {l : List V} {j : Nat} (h : j < l.length) : totVs (l.take (j + 1)) = totVs (l.take j) + totV l[j] := by
 rw [List.take_succ_eq_append_getElem h, Kdw]; simp [totVs]
theorem tVs_le (l : List V) (j : Nat) : totVs (l.take j) ≤ totVs l := by
 have e : l.take j ++ l.drop j = l := List.take_append_drop _ _
 have := congrArg totVs e
 rw [Kdw] at this
 omega
theorem vsz_any : ∀ (v : V) (left : Nat), left ≤ 3000 → ∀ (w : World) (x : Array Value), VRd w v x →
 Calls Tryz.prog 19 #[.agg x, .int .i64 (left : Int)] w fun e w' => (∃ r : Nat, e = .returned (.int .i64 (r : Int)) ∧ SizeLo left (totV v) r) ∧ Below w.heap.size w w' := by
 refine V.ind fun k b n t ks l ih => ?_
 intro left hle w x hx
 rw [Kd8]
 obtain ⟨pk, ck, pl, cl, rfl, htx, hk1, hl1⟩ := Kb8.1 hx
 have hT := OneB.start w #[.int .i64 k, .bool b, .int .i64 n, .string (strB t), .slice pk ks.length ck, .slice pl l.length cl]
 have z1 : (ks.length : Int) ≤ 140737488355328 := by have := hk1.2.1.1; omega
 have z2 : (l.length : Int) ≤ 140737488355328 := by have := hl1.1.2.1.1; omega
 have z3 : (t.length : Int) ≤ 140737488355328 := by omega
 have z4 : (left : Int) ≤ 3000 := by omega
 have hst : (strB t).size = t.length := rfl
 have HI := Lib.hid (fun (a : V) (ha : a ∈ l) => ih a ha)
 have HK := Lib.hid hk1
 have HL := Lib.hid hl1
 have HT := Lib.hid hT
 clear ih hx hk1 hl1 hT hle
 go_enter Tryz.func19, Tryz.ntmps19
 go_wp2
 go_loopw [5, 6] (fun m i W => ∃ j nn : Nat, j ≤ ks.length ∧ i = .int .i64 (j : Int) ∧ m = .int .i64 (nn : Int) ∧ nn ≤ left + 281474976710657 ∧ Hid (nn = 1 + t.length + j + kSum (ks.take j)) ∧ Hid (OneB w W #[.int .i64 k, .bool b, .int .i64 n, .string (strB t), .slice pk ks.length ck, .slice pl l.length cl])) (fun _ i _ => ks.length - (intOf i).toNat)
 case atStart =>
  exact ⟨0, 1 + t.length, Nat.zero_le _, rfl, by go_num, by omega, Lib.hid (by simp [kSum]), HT⟩
 case round =>
  obtain ⟨j, nn, hj, rfl, rfl, hnb, HS, HT2⟩ := hrel
  clear HT
  have p4 := Kab (o := 4) HT2.out.1 rfl
  have z5 : (nn : Int) ≤ 281474976713657 := by omega
  by_cases hlt : j < ks.length
  ·have hlt1 : j + 1 ≤ ks.length := hlt
   by_cases hle : nn ≤ left
   ·have hle1 : (nn : Int) ≤ (left : Int) := by omega
    obtain ⟨bk, ok, rfl, q0, hsl⟩ := (HK.out.below HT2.out.2).get hlt
    have hstep := kSum_step hlt
    generalize ks[j] = kk at *
    have hszk : (strB kk).size = kk.length := rfl
    have z6 : (kk.length : Int) ≤ 140737488355328 := by omega
    have HF := Lib.hid (And.intro hstep HS.out)
    clear hstep HS
    go_wp2
    go_roundw
    case rel => exact ⟨j + 1, nn + 1 + kk.length, hlt1, by go_num, by go_num, by omega, Lib.hid (by have := HF.out.1; have := HF.out.2; omega), HT2⟩
    case measure => simp [intOf]; omega
   ·have hle1 : ¬ (nn : Int) ≤ (left : Int) := by omega
    have hle0 : decide ((nn : Int) ≤ (left : Int)) = false := by simpa using hle1
    have hsum := kSum_le ks j
    have HF := Lib.hid (And.intro hsum (And.intro HS.out hle))
    clear hsum HS
    go_wp2
    go_loopw [5, 7] (fun m i W => ∃ j2 n2 : Nat, j2 ≤ l.length ∧ i = .int .i64 (j2 : Int) ∧ m = .int .i64 (n2 : Int) ∧ n2 ≤ left + 281474976710657 ∧ Hid ((1 + t.length + ks.length + kSum ks + totVs (l.take j2) ≤ left → n2 = 1 + t.length + ks.length + kSum ks + totVs (l.take j2)) ∧ (left < 1 + t.length + ks.length + kSum ks + totVs (l.take j2) → left < n2)) ∧ Hid (OneB w W #[.int .i64 k, .bool b, .int .i64 n, .string (strB t), .slice pk ks.length ck, .slice pl l.length cl])) (fun _ i _ => l.length - (intOf i).toNat)
    case atStart => exact ⟨0, nn, Nat.zero_le _, rfl, rfl, hnb, Lib.hid (by
     have h := HF.out
     rw [List.take_zero]
     simp only [totVs]
     exact ⟨fun h2 => by omega, fun _ => by omega⟩), HT2⟩
    case round =>
     clear p4 HT2 HF hnb z5
     obtain ⟨j2, n2, hj2, rfl, rfl, hnb2, HQ, HT3⟩ := hrel
     have p5 := Kab (o := 5) HT3.out.1 rfl
     have z6 : (n2 : Int) ≤ 281474976713657 := by omega
     by_cases hlt2 : j2 < l.length
     ·have hlt3 : j2 + 1 ≤ l.length := hlt2
      by_cases hle2 : n2 ≤ left
      ·have hle3 : (n2 : Int) ≤ (left : Int) := by omega
       obtain ⟨g1, o1, pk1, ck1, pl1, cl1, rfl, ⟨a0, a1, a2, a3, a4, a5⟩, hv1⟩ := (HL.out.below HT3.out.2).at hlt2
       have hstep := tVs_step hlt2
       have hsub : ((left : Int) - (n2 : Int)) = ((left - n2 : Nat) : Int) := by omega
       have hcall := HI.out l[j2] (List.getElem_mem hlt2) (left - n2) (by omega) wr _ hv1
       rw [← hsub] at hcall
       generalize l[j2] = s1 at *
       have HD := Lib.hid (And.intro hcall (And.intro hstep (And.intro HQ.out HT3.out)))
       clear hcall hstep hv1 hsub
       go_wp2_with (go_at_call 19
                    (
                      refine HD.out.1.mono ?_
                      rintro e w3 ⟨⟨r, rfl, hr⟩, hb3⟩
                      have HG := Lib.hid (And.intro hr (HD.out.2.2.2.below hb3))
                      have z7 : (r : Int) ≤ 281474976713657 := by have := hr.2.2; omega
                      clear hr hb3))
       go_roundw
       case rel =>
        obtain ⟨⟨h1, h2, h3⟩, hT4⟩ := HG.out
        obtain ⟨_, hstep, ⟨g1, g2⟩, _⟩ := HD.out
        refine ⟨j2 + 1, n2 + r, hlt3, by go_num, by go_num, by omega, Lib.hid ⟨fun h => ?_, fun h => ?_⟩, Lib.hid hT4⟩
        ·rw [hstep] at h ⊢
         have e1 := g1 (by omega)
         have e2 := h1 (by omega)
         omega
        ·rw [hstep] at h
         by_cases hc : 1 + t.length + ks.length + kSum ks + totVs (l.take j2) ≤ left
         ·have e1 := g1 hc
          have e2 := h2 (by omega)
          omega
         ·have := g2 (by omega); omega
       case measure => simp [intOf]; omega
      ·have hle3 : ¬ (n2 : Int) ≤ (left : Int) := by omega
       have hle4 : decide ((n2 : Int) ≤ (left : Int)) = false := by simpa using hle3
       have hsum := tVs_le l j2
       have HF2 := Lib.hid (And.intro HQ.out (And.intro hsum (And.intro HT3.out.2 hle2)))
       clear hsum
       go_wp2
       go_ret
       obtain ⟨⟨g1, g2⟩, hsum, hbb, hgt⟩ := HF2.out
       refine ⟨⟨n2, rfl, ⟨fun h => ?_, fun h => by omega, hnb2⟩⟩, hbb⟩
       exact absurd (g1 (by unfold kSum; omega)) (by unfold kSum; omega)
     ·obtain rfl : j2 = l.length := by omega
      have HF2 := Lib.hid (And.intro HQ.out HT3.out.2)
      go_wp2
      go_ret
      obtain ⟨⟨g1, g2⟩, hbb⟩ := HF2.out
      rw [List.take_length] at g1 g2
      exact ⟨⟨n2, rfl, ⟨g1, g2, hnb2⟩⟩, hbb⟩
  ·obtain rfl : j = ks.length := by omega
   have HF := Lib.hid HS.out
   clear HS
   go_wp2
   go_loopw [5, 7] (fun m i W => ∃ j2 n2 : Nat, j2 ≤ l.length ∧ i = .int .i64 (j2 : Int) ∧ m = .int .i64 (n2 : Int) ∧ n2 ≤ left + 281474976710657 ∧ Hid ((1 + t.length + ks.length + kSum ks + totVs (l.take j2) ≤ left → n2 = 1 + t.length + ks.length + kSum ks + totVs (l.take j2)) ∧ (left < 1 + t.length + ks.length + kSum ks + totVs (l.take j2) → left < n2)) ∧ Hid (OneB w W #[.int .i64 k, .bool b, .int .i64 n, .string (strB t), .slice pk ks.length ck, .slice pl l.length cl])) (fun _ i _ => l.length - (intOf i).toNat)
   case atStart => exact ⟨0, nn, Nat.zero_le _, rfl, rfl, hnb, Lib.hid (by
    have h := HF.out
    rw [List.take_zero]
    simp only [totVs]
    rw [List.take_length] at h; exact ⟨fun h2 => by omega, fun _ => by omega⟩), HT2⟩
   case round =>
    clear p4 HT2 HF hnb z5
    obtain ⟨j2, n2, hj2, rfl, rfl, hnb2, HQ, HT3⟩ := hrel
    have p5 := Kab (o := 5) HT3.out.1 rfl
    have z6 : (n2 : Int) ≤ 281474976713657 := by omega
    by_cases hlt2 : j2 < l.length
    ·have hlt3 : j2 + 1 ≤ l.length := hlt2
     by_cases hle2 : n2 ≤ left
     ·have hle3 : (n2 : Int) ≤ (left : Int) := by omega
      obtain ⟨g1, o1, pk1, ck1, pl1, cl1, rfl, ⟨a0, a1, a2, a3, a4, a5⟩, hv1⟩ := (HL.out.below HT3.out.2).at hlt2
      have hstep := tVs_step hlt2
      have hsub : ((left : Int) - (n2 : Int)) = ((left - n2 : Nat) : Int) := by omega
      have hcall := HI.out l[j2] (List.getElem_mem hlt2) (left - n2) (by omega) wr _ hv1
      rw [← hsub] at hcall
      generalize l[j2] = s1 at *
      have HD := Lib.hid (And.intro hcall (And.intro hstep (And.intro HQ.out HT3.out)))
      clear hcall hstep hv1 hsub
      go_wp2_with (go_at_call 19
                   (
                     refine HD.out.1.mono ?_
                     rintro e w3 ⟨⟨r, rfl, hr⟩, hb3⟩
                     have HG := Lib.hid (And.intro hr (HD.out.2.2.2.below hb3))
                     have z7 : (r : Int) ≤ 281474976713657 := by have := hr.2.2; omega
                     clear hr hb3))
      go_roundw
      case rel =>
       obtain ⟨⟨h1, h2, h3⟩, hT4⟩ := HG.out
       obtain ⟨_, hstep, ⟨g1, g2⟩, _⟩ := HD.out
       refine ⟨j2 + 1, n2 + r, hlt3, by go_num, by go_num, by omega, Lib.hid ⟨fun h => ?_, fun h => ?_⟩, Lib.hid hT4⟩
       ·rw [hstep] at h ⊢
        have e1 := g1 (by omega)
        have e2 := h1 (by omega)
        omega
       ·rw [hstep] at h
        by_cases hc : 1 + t.length + ks.length + kSum ks + totVs (l.take j2) ≤ left
        ·have e1 := g1 hc
         have e2 := h2 (by omega)
         omega
        ·have := g2 (by omega); omega
      case measure => simp [intOf]; omega
     ·have hle3 : ¬ (n2 : Int) ≤ (left : Int) := by omega
      have hle4 : decide ((n2 : Int) ≤ (left : Int)) = false := by simpa using hle3
      have hsum := tVs_le l j2
      have HF2 := Lib.hid (And.intro HQ.out (And.intro hsum (And.intro HT3.out.2 hle2)))
      clear hsum
      go_wp2
      go_ret
      obtain ⟨⟨g1, g2⟩, hsum, hbb, hgt⟩ := HF2.out
      refine ⟨⟨n2, rfl, ⟨fun h => ?_, fun h => by omega, hnb2⟩⟩, hbb⟩
      exact absurd (g1 (by unfold kSum; omega)) (by unfold kSum; omega)
    ·obtain rfl : j2 = l.length := by omega
     have HF2 := Lib.hid (And.intro HQ.out HT3.out.2)
     go_wp2
     go_ret
     obtain ⟨⟨g1, g2⟩, hbb⟩ := HF2.out
     rw [List.take_length] at g1 g2
     exact ⟨⟨n2, rfl, ⟨g1, g2, hnb2⟩⟩, hbb⟩
end Go.Proofs.YthdfedfholmbmaaGreatDoor

namespace Go.Proofs.YthdfedfholmbmaaGreatDoor
open Go.RowKit
def Docs {α : Type} (w W : World) (q : Nat) (r : α × Rs) (ok : α → Value → World → Prop) (e : Ending) (W' : World) : Prop :=
 ∃ v, e = .returned v ∧ ok r.1 v W' ∧ DSt 40 w W' q r.2.1 r.2.2 ∧ RTo q W W'
theorem dN_at {j a : Nat} {l : List UInt8} (h : j < l.length) (hi : j < 10) : dN j a (l.drop j) = if (l[j]).toNat < 128 then some ((a + (l[j]).toNat % 128 * 2 ^ (7 * j)) % 18446744073709551616, l.drop (j + 1), (decide (j = 0) || decide ((l[j]).toNat ≠ 0)) && (decide (j < 9) || decide ((l[j]).toNat < 2))) else dN (j + 1) ((a + (l[j]).toNat % 128 * 2 ^ (7 * j)) % 18446744073709551616) (l.drop (j + 1)) := by
 rw [List.drop_eq_getElem_cons h, dN, if_neg (by omega)]
theorem dN_end {j a : Nat} {l : List UInt8} (h : l.length ≤ j ∨ 10 ≤ j) : dN j a (l.drop j) = none := by
 rcases h with h | h
 ·rw [List.drop_eq_nil_of_le h, dN]
 ·cases l.drop j with
  | nil => rw [dN]
  | cons c r => rw [dN, if_pos h]
theorem Kcj {l r : List UInt8} {bad ok : Bool} {n : Nat} (h : dN 0 0 l = some (n, r, ok)) : docN (l, bad) = (n, r, bad || !ok) := by unfold docN; simp only; rw [h]
theorem docN_none {l : List UInt8} {bad : Bool} (h : dN 0 0 l = none) : docN (l, bad) = (0, l, true) := by unfold docN; simp only; rw [h]
theorem step_u64 {a c j : Nat} (h : a < 18446744073709551616) : IntKind.u64.wrap ((a : Int) + IntKind.u64.wrap (((c : Int) % 128) * 2 ^ (7 * j))) = (((a + c % 128 * 2 ^ (7 * j)) % 18446744073709551616 : Nat) : Int) := by
 have e : ((c : Int) % 128) * 2 ^ (7 * j) = ((c % 128 * 2 ^ (7 * j) : Nat) : Int) := by push_cast; rfl
 rw [e, IntKind.wrap_u64, IntKind.wrap_u64]
 omega
theorem rd_at {W : World} {p : Option Addr} {c : Nat} {l : List UInt8} (h : RdB W (.slice p l.length c) l) (hl : 0 < l.length) : ∃ b o, p = some ⟨b, o, none⟩ ∧ ∀ j (hj : j < l.length), W.cell? ⟨b, o + j, none⟩ = some (.int .u8 ((l[j]).toNat : Int)) := by
 obtain ⟨a1, cap, heq, ⟨hn, hm, hz⟩, hcell⟩ := h
 cases heq
 cases p with
 | none => have := hz rfl; omega
 | some ad =>
   obtain ⟨hs, hc⟩ := hcell ad rfl
   obtain ⟨b, o, sp⟩ := ad
   have hs := hs (fun e => by rw [e] at hl; simp at hl)
   simp only at hs; subst hs
   exact ⟨b, o, rfl, fun j hj => hc j l[j] (List.getElem?_eq_getElem hj)⟩
theorem Kdi {W : World} {p : Option Addr} {n c : Nat} {l : List UInt8} (h : RdB W (.slice p n c) l) : (n : Int) ≤ 9223372036854775807 := by
 obtain ⟨a1, cap, heq, ⟨hn, hm, hz⟩, _⟩ := h
 cases heq; unfold maxLen at hm; omega
theorem dnum_any {w W : World} {q : Nat} {l : List UInt8} {bad : Bool} (h : DSt 40 w W q l bad) :
 Calls Tryz.prog 60 #[.pointer (some ⟨q, 0, none⟩)] W (Docs w W q (docN (l, bad)) fun n v _ => v = .int .u64 (n : Int)) := by
 obtain ⟨p, c, h1, h2⟩ := h.box
 have z1 := Kdi h2
 have hq0 := Kab (o := 0) h1 rfl
 have hq1 := Kab (o := 1) h1 rfl
 have hf1 := Kar (o := 1) h1
 have hf0 := Kar (o := 0) h1
 have H := Lib.hid (And.intro h (And.intro h1 h2))
 clear h h1 h2
 go_enter Tryz.func60, Tryz.ntmps60
 go_wp2
 go_loopw [3, 4] (fun n s wr => ∃ j a : Nat, j ≤ 10 ∧ j ≤ l.length ∧ a < 18446744073709551616 ∧ n = .int .u64 (a : Int) ∧ s = .int .i64 (j : Int) ∧ wr = W ∧ Hid (dN j a (l.drop j) = dN 0 0 l)) (fun _ s _ => 20 - (intOf s).toNat)
 case atStart => exact ⟨0, 0, by omega, by omega, by omega, rfl, rfl, rfl, Lib.hid rfl⟩
 case round =>
  obtain ⟨j, a, hj, hjl, ha, rfl, rfl, hwr, HD⟩ := hrel
  have hw := hwr.symm
  subst hw
  by_cases hlt : j < l.length
  ·by_cases ht : j < 10
   ·have hd := HD.out
    rw [dN_at hlt ht] at hd
    obtain ⟨b, o, rfl, hc⟩ := rd_at (H.out.2.2.below H.out.1.b) (by omega)
    have hlz : (j : Int) < (l.length : Int) := by omega
    have hlz : (j : Int) < (l.length : Int) := by omega
    have hlz : (j : Int) < (l.length : Int) := by omega
    have hlz : (j : Int) < (l.length : Int) := by omega
    have hlz : (j : Int) < (l.length : Int) := by omega
    have hlz : (j : Int) < (l.length : Int) := by omega
    have hlz : (j : Int) < (l.length : Int) := by omega
    have hcj := hc j hlt
    have hcv := (l[j]).toNat_lt
    have hst := step_u64 (a := a) (c := (l[j]).toNat) (j := j) ha
    generalize (l[j]).toNat = cv at *
    clear hc
    by_cases hlow : cv < 128
    ·have l1 : (cv : Int) < 128 := by omega
     rw [if_pos hlow] at hd
     have hcase : j = 0 ∨ (j ≠ 0 ∧ cv = 0) ∨ (j ≠ 0 ∧ cv ≠ 0 ∧ j < 9) ∨ (j = 9 ∧ cv ≠ 0 ∧ cv < 2) ∨ (j = 9 ∧ cv ≠ 0 ∧ 2 ≤ cv) := by omega
     cases bad <;> rcases hcase with hc1 | ⟨hc1, hc2⟩ | ⟨hc1, hc2, hc3⟩ | ⟨hc1, hc2, hc3⟩ | ⟨hc1, hc2, hc3⟩
     ·obtain rfl : j = 0 := hc1
      rw [Nat.add_zero] at hcj
      have hdn : dN 0 0 l = some ((a + cv % 128 * 2 ^ (7 * 0)) % 18446744073709551616, l.drop (0 + 1), true) := by
       rw [← hd]
       first
        | done
        | (congr 3; done)
        | (congr 3; rfl)
        | (congr 3; simp only [Bool.and_eq_true, Bool.or_eq_true, decide_eq_true_eq, Bool.and_eq_false_iff, Bool.or_eq_false_iff, decide_eq_false_iff_not]; omega)
      have HN := Lib.hid (Kcj (bad := false) hdn)
      obtain ⟨p1, c1, p', c', k1, k2, k3, k4, k5⟩ := H.out.1.rest (k := 0 + 1) (by omega)
      rw [H.out.2.1] at k1
      cases k1
      have hst1 := Ka4 (p := p') (n := l.length - (0 + 1)) (c := c') hq0 hf0
      have HSL := Lib.hid (fun W' => (Kap Tryz.underlying26 _ _ _ _ W').trans (k3 W'))
      have HST := Lib.hid hst1
      obtain ⟨p2, c2, m1, m2⟩ := k4.box
      have hq2 := Kab (o := 1) m1 rfl
      have hf2 := Kar (o := 1) m1
      have HF := Lib.hid (And.intro (k4.set false) k5)
      clear hd hdn k2 k3 k4 k5 m1 m2 hst1
      go_wp2_with (first
       | ((with_reducible apply Kbb); exact HSL.out _; exact rfl; exact rfl; exact rfl; exact rfl)
       | ((with_reducible apply Kac); exact HST.out; exact rfl; exact rfl; generalize hW1 : World.setCell _ _ _ = W1 at *; clear hW1))
      go_ret
      refine ⟨_, rfl, ?_⟩
      rw [HN.out]
      exact ⟨by first | rfl | (push_cast; rfl) | (simp; simp only [IntKind.wrap_u64]; done) | (simp; simp only [IntKind.wrap_u64]; omega), HF.out.1.1, HF.out.2.trans HF.out.1.2⟩
     ·obtain rfl : cv = 0 := hc2
      have j0 : ((j : Int) == 0) = false := by rw [beq_eq_false_iff_ne]; omega
      have hdn : dN 0 0 l = some ((a + 0 % 128 * 2 ^ (7 * j)) % 18446744073709551616, l.drop (j + 1), false) := by
       rw [← hd]
       first
        | done
        | (congr 3; done)
        | (congr 3; rfl)
        | (congr 3; simp only [Bool.and_eq_true, Bool.or_eq_true, decide_eq_true_eq, Bool.and_eq_false_iff, Bool.or_eq_false_iff, decide_eq_false_iff_not]; omega)
      have ez : (a + 0 % 128 * 2 ^ (7 * j)) % 18446744073709551616 = a := by rw [Nat.zero_mod, Nat.zero_mul, Nat.add_zero, Nat.mod_eq_of_lt ha]
      rw [ez] at hdn
      have HN := Lib.hid (Kcj (bad := false) hdn)
      obtain ⟨p1, c1, p', c', k1, k2, k3, k4, k5⟩ := H.out.1.rest (k := j + 1) (by omega)
      rw [H.out.2.1] at k1
      cases k1
      have hst1 := Ka4 (p := p') (n := l.length - (j + 1)) (c := c') hq0 hf0
      have HSL := Lib.hid (fun W' => (Kap Tryz.underlying26 _ _ _ _ W').trans (k3 W'))
      have HST := Lib.hid hst1
      obtain ⟨p2, c2, m1, m2⟩ := k4.box
      have hq2 := Kab (o := 1) m1 rfl
      have hf2 := Kar (o := 1) m1
      have HF := Lib.hid (And.intro (k4.set true) k5)
      clear hd hdn k2 k3 k4 k5 m1 m2 hst1
      go_wp2_with (first
       | ((with_reducible apply Kbb); exact HSL.out _; exact rfl; exact rfl; exact rfl; exact rfl)
       | ((with_reducible apply Kac); exact HST.out; exact rfl; exact rfl; generalize hW1 : World.setCell _ _ _ = W1 at *; clear hW1))
      go_ret
      refine ⟨_, rfl, ?_⟩
      rw [HN.out]
      exact ⟨by first | rfl | (push_cast; rfl) | (simp; simp only [IntKind.wrap_u64]; done) | (simp; simp only [IntKind.wrap_u64]; omega), HF.out.1.1, HF.out.2.trans HF.out.1.2⟩
     ·have c0 : ((cv : Int) != 0) = true := by rw [bne_iff_ne]; omega
      have j0 : ((j : Int) == 0) = false := by rw [beq_eq_false_iff_ne]; omega
      have j9 : (j : Int) < 9 := by omega
      have hdn : dN 0 0 l = some ((a + cv % 128 * 2 ^ (7 * j)) % 18446744073709551616, l.drop (j + 1), true) := by
       rw [← hd]
       first
        | done
        | (congr 3; done)
        | (congr 3; rfl)
        | (congr 3; simp only [Bool.and_eq_true, Bool.or_eq_true, decide_eq_true_eq, Bool.and_eq_false_iff, Bool.or_eq_false_iff, decide_eq_false_iff_not]; omega)
      have HN := Lib.hid (Kcj (bad := false) hdn)
      obtain ⟨p1, c1, p', c', k1, k2, k3, k4, k5⟩ := H.out.1.rest (k := j + 1) (by omega)
      rw [H.out.2.1] at k1
      cases k1
      have hst1 := Ka4 (p := p') (n := l.length - (j + 1)) (c := c') hq0 hf0
      have HSL := Lib.hid (fun W' => (Kap Tryz.underlying26 _ _ _ _ W').trans (k3 W'))
      have HST := Lib.hid hst1
      obtain ⟨p2, c2, m1, m2⟩ := k4.box
      have hq2 := Kab (o := 1) m1 rfl
      have hf2 := Kar (o := 1) m1
      have HF := Lib.hid (And.intro (k4.set false) k5)
      clear hd hdn k2 k3 k4 k5 m1 m2 hst1
      go_wp2_with (first
       | ((with_reducible apply Kbb); exact HSL.out _; exact rfl; exact rfl; exact rfl; exact rfl)
       | ((with_reducible apply Kac); exact HST.out; exact rfl; exact rfl; generalize hW1 : World.setCell _ _ _ = W1 at *; clear hW1))
      go_ret
      refine ⟨_, rfl, ?_⟩
      rw [HN.out]
      exact ⟨by first | rfl | (push_cast; rfl) | (simp; simp only [IntKind.wrap_u64]; done) | (simp; simp only [IntKind.wrap_u64]; omega), HF.out.1.1, HF.out.2.trans HF.out.1.2⟩
     ·have c0 : ((cv : Int) != 0) = true := by rw [bne_iff_ne]; omega
      obtain rfl : j = 9 := hc1
      have c9 : (cv : Int) < 2 := by omega
      have hdn : dN 0 0 l = some ((a + cv % 128 * 2 ^ (7 * 9)) % 18446744073709551616, l.drop (9 + 1), true) := by
       rw [← hd]
       first
        | done
        | (congr 3; done)
        | (congr 3; rfl)
        | (congr 3; simp only [Bool.and_eq_true, Bool.or_eq_true, decide_eq_true_eq, Bool.and_eq_false_iff, Bool.or_eq_false_iff, decide_eq_false_iff_not]; omega)
      have HN := Lib.hid (Kcj (bad := false) hdn)
      obtain ⟨p1, c1, p', c', k1, k2, k3, k4, k5⟩ := H.out.1.rest (k := 9 + 1) (by omega)
      rw [H.out.2.1] at k1
      cases k1
      have hst1 := Ka4 (p := p') (n := l.length - (9 + 1)) (c := c') hq0 hf0
      have HSL := Lib.hid (fun W' => (Kap Tryz.underlying26 _ _ _ _ W').trans (k3 W'))
      have HST := Lib.hid hst1
      obtain ⟨p2, c2, m1, m2⟩ := k4.box
      have hq2 := Kab (o := 1) m1 rfl
      have hf2 := Kar (o := 1) m1
      have HF := Lib.hid (And.intro (k4.set false) k5)
      clear hd hdn k2 k3 k4 k5 m1 m2 hst1
      go_wp2_with (first
       | ((with_reducible apply Kbb); exact HSL.out _; exact rfl; exact rfl; exact rfl; exact rfl)
       | ((with_reducible apply Kac); exact HST.out; exact rfl; exact rfl; generalize hW1 : World.setCell _ _ _ = W1 at *; clear hW1))
      go_ret
      refine ⟨_, rfl, ?_⟩
      rw [HN.out]
      exact ⟨by first | rfl | (push_cast; rfl) | (simp; simp only [IntKind.wrap_u64]; done) | (simp; simp only [IntKind.wrap_u64]; omega), HF.out.1.1, HF.out.2.trans HF.out.1.2⟩
     ·have c0 : ((cv : Int) != 0) = true := by rw [bne_iff_ne]; omega
      obtain rfl : j = 9 := hc1
      have c9 : ¬ (cv : Int) < 2 := by omega
      have hdn : dN 0 0 l = some ((a + cv % 128 * 2 ^ (7 * 9)) % 18446744073709551616, l.drop (9 + 1), false) := by
       rw [← hd]
       first
        | done
        | (congr 3; done)
        | (congr 3; rfl)
        | (congr 3; simp only [Bool.and_eq_true, Bool.or_eq_true, decide_eq_true_eq, Bool.and_eq_false_iff, Bool.or_eq_false_iff, decide_eq_false_iff_not]; omega)
      have HN := Lib.hid (Kcj (bad := false) hdn)
      obtain ⟨p1, c1, p', c', k1, k2, k3, k4, k5⟩ := H.out.1.rest (k := 9 + 1) (by omega)
      rw [H.out.2.1] at k1
      cases k1
      have hst1 := Ka4 (p := p') (n := l.length - (9 + 1)) (c := c') hq0 hf0
      have HSL := Lib.hid (fun W' => (Kap Tryz.underlying26 _ _ _ _ W').trans (k3 W'))
      have HST := Lib.hid hst1
      obtain ⟨p2, c2, m1, m2⟩ := k4.box
      have hq2 := Kab (o := 1) m1 rfl
      have hf2 := Kar (o := 1) m1
      have HF := Lib.hid (And.intro (k4.set true) k5)
      clear hd hdn k2 k3 k4 k5 m1 m2 hst1
      go_wp2_with (first
       | ((with_reducible apply Kbb); exact HSL.out _; exact rfl; exact rfl; exact rfl; exact rfl)
       | ((with_reducible apply Kac); exact HST.out; exact rfl; exact rfl; generalize hW1 : World.setCell _ _ _ = W1 at *; clear hW1))
      go_ret
      refine ⟨_, rfl, ?_⟩
      rw [HN.out]
      exact ⟨by first | rfl | (push_cast; rfl) | (simp; simp only [IntKind.wrap_u64]; done) | (simp; simp only [IntKind.wrap_u64]; omega), HF.out.1.1, HF.out.2.trans HF.out.1.2⟩
     ·obtain rfl : j = 0 := hc1
      rw [Nat.add_zero] at hcj
      have hdn : dN 0 0 l = some ((a + cv % 128 * 2 ^ (7 * 0)) % 18446744073709551616, l.drop (0 + 1), true) := by
       rw [← hd]
       first
        | done
        | (congr 3; done)
        | (congr 3; rfl)
        | (congr 3; simp only [Bool.and_eq_true, Bool.or_eq_true, decide_eq_true_eq, Bool.and_eq_false_iff, Bool.or_eq_false_iff, decide_eq_false_iff_not]; omega)
      have HN := Lib.hid (Kcj (bad := true) hdn)
      obtain ⟨p1, c1, p', c', k1, k2, k3, k4, k5⟩ := H.out.1.rest (k := 0 + 1) (by omega)
      rw [H.out.2.1] at k1
      cases k1
      have hst1 := Ka4 (p := p') (n := l.length - (0 + 1)) (c := c') hq0 hf0
      have HSL := Lib.hid (fun W' => (Kap Tryz.underlying26 _ _ _ _ W').trans (k3 W'))
      have HST := Lib.hid hst1
      obtain ⟨p2, c2, m1, m2⟩ := k4.box
      have hq2 := Kab (o := 1) m1 rfl
      have hf2 := Kar (o := 1) m1
      have HF := Lib.hid (And.intro (k4.set true) k5)
      clear hd hdn k2 k3 k4 k5 m1 m2 hst1
      go_wp2_with (first
       | ((with_reducible apply Kbb); exact HSL.out _; exact rfl; exact rfl; exact rfl; exact rfl)
       | ((with_reducible apply Kac); exact HST.out; exact rfl; exact rfl; generalize hW1 : World.setCell _ _ _ = W1 at *; clear hW1))
      go_ret
      refine ⟨_, rfl, ?_⟩
      rw [HN.out]
      exact ⟨by first | rfl | (push_cast; rfl) | (simp; simp only [IntKind.wrap_u64]; done) | (simp; simp only [IntKind.wrap_u64]; omega), HF.out.1.1, HF.out.2.trans HF.out.1.2⟩
     ·obtain rfl : cv = 0 := hc2
      have j0 : ((j : Int) == 0) = false := by rw [beq_eq_false_iff_ne]; omega
      have hdn : dN 0 0 l = some ((a + 0 % 128 * 2 ^ (7 * j)) % 18446744073709551616, l.drop (j + 1), false) := by
       rw [← hd]
       first
        | done
        | (congr 3; done)
        | (congr 3; rfl)
        | (congr 3; simp only [Bool.and_eq_true, Bool.or_eq_true, decide_eq_true_eq, Bool.and_eq_false_iff, Bool.or_eq_false_iff, decide_eq_false_iff_not]; omega)
      have ez : (a + 0 % 128 * 2 ^ (7 * j)) % 18446744073709551616 = a := by rw [Nat.zero_mod, Nat.zero_mul, Nat.add_zero, Nat.mod_eq_of_lt ha]
      rw [ez] at hdn
      have HN := Lib.hid (Kcj (bad := true) hdn)
      obtain ⟨p1, c1, p', c', k1, k2, k3, k4, k5⟩ := H.out.1.rest (k := j + 1) (by omega)
      rw [H.out.2.1] at k1
      cases k1
      have hst1 := Ka4 (p := p') (n := l.length - (j + 1)) (c := c') hq0 hf0
      have HSL := Lib.hid (fun W' => (Kap Tryz.underlying26 _ _ _ _ W').trans (k3 W'))
      have HST := Lib.hid hst1
      obtain ⟨p2, c2, m1, m2⟩ := k4.box
      have hq2 := Kab (o := 1) m1 rfl
      have hf2 := Kar (o := 1) m1
      have HF := Lib.hid (And.intro (k4.set true) k5)
      clear hd hdn k2 k3 k4 k5 m1 m2 hst1
      go_wp2_with (first
       | ((with_reducible apply Kbb); exact HSL.out _; exact rfl; exact rfl; exact rfl; exact rfl)
       | ((with_reducible apply Kac); exact HST.out; exact rfl; exact rfl; generalize hW1 : World.setCell _ _ _ = W1 at *; clear hW1))
      go_ret
      refine ⟨_, rfl, ?_⟩
      rw [HN.out]
      exact ⟨by first | rfl | (push_cast; rfl) | (simp; simp only [IntKind.wrap_u64]; done) | (simp; simp only [IntKind.wrap_u64]; omega), HF.out.1.1, HF.out.2.trans HF.out.1.2⟩
     ·have c0 : ((cv : Int) != 0) = true := by rw [bne_iff_ne]; omega
      have j0 : ((j : Int) == 0) = false := by rw [beq_eq_false_iff_ne]; omega
      have j9 : (j : Int) < 9 := by omega
      have hdn : dN 0 0 l = some ((a + cv % 128 * 2 ^ (7 * j)) % 18446744073709551616, l.drop (j + 1), true) := by
       rw [← hd]
       first
        | done
        | (congr 3; done)
        | (congr 3; rfl)
        | (congr 3; simp only [Bool.and_eq_true, Bool.or_eq_true, decide_eq_true_eq, Bool.and_eq_false_iff, Bool.or_eq_false_iff, decide_eq_false_iff_not]; omega)
      have HN := Lib.hid (Kcj (bad := true) hdn)
      obtain ⟨p1, c1, p', c', k1, k2, k3, k4, k5⟩ := H.out.1.rest (k := j + 1) (by omega)
      rw [H.out.2.1] at k1
      cases k1
      have hst1 := Ka4 (p := p') (n := l.length - (j + 1)) (c := c') hq0 hf0
      have HSL := Lib.hid (fun W' => (Kap Tryz.underlying26 _ _ _ _ W').trans (k3 W'))
      have HST := Lib.hid hst1
      obtain ⟨p2, c2, m1, m2⟩ := k4.box
      have hq2 := Kab (o := 1) m1 rfl
      have hf2 := Kar (o := 1) m1
      have HF := Lib.hid (And.intro (k4.set true) k5)
      clear hd hdn k2 k3 k4 k5 m1 m2 hst1
      go_wp2_with (first
       | ((with_reducible apply Kbb); exact HSL.out _; exact rfl; exact rfl; exact rfl; exact rfl)
       | ((with_reducible apply Kac); exact HST.out; exact rfl; exact rfl; generalize hW1 : World.setCell _ _ _ = W1 at *; clear hW1))
      go_ret
      refine ⟨_, rfl, ?_⟩
      rw [HN.out]
      exact ⟨by first | rfl | (push_cast; rfl) | (simp; simp only [IntKind.wrap_u64]; done) | (simp; simp only [IntKind.wrap_u64]; omega), HF.out.1.1, HF.out.2.trans HF.out.1.2⟩
     ·have c0 : ((cv : Int) != 0) = true := by rw [bne_iff_ne]; omega
      obtain rfl : j = 9 := hc1
      have c9 : (cv : Int) < 2 := by omega
      have hdn : dN 0 0 l = some ((a + cv % 128 * 2 ^ (7 * 9)) % 18446744073709551616, l.drop (9 + 1), true) := by
       rw [← hd]
       first
        | done
        | (congr 3; done)
        | (congr 3; rfl)
        | (congr 3; simp only [Bool.and_eq_true, Bool.or_eq_true, decide_eq_true_eq, Bool.and_eq_false_iff, Bool.or_eq_false_iff, decide_eq_false_iff_not]; omega)
      have HN := Lib.hid (Kcj (bad := true) hdn)
      obtain ⟨p1, c1, p', c', k1, k2, k3, k4, k5⟩ := H.out.1.rest (k := 9 + 1) (by omega)
      rw [H.out.2.1] at k1
      cases k1
      have hst1 := Ka4 (p := p') (n := l.length - (9 + 1)) (c := c') hq0 hf0
      have HSL := Lib.hid (fun W' => (Kap Tryz.underlying26 _ _ _ _ W').trans (k3 W'))
      have HST := Lib.hid hst1
      obtain ⟨p2, c2, m1, m2⟩ := k4.box
      have hq2 := Kab (o := 1) m1 rfl
      have hf2 := Kar (o := 1) m1
      have HF := Lib.hid (And.intro (k4.set true) k5)
      clear hd hdn k2 k3 k4 k5 m1 m2 hst1
      go_wp2_with (first
       | ((with_reducible apply Kbb); exact HSL.out _; exact rfl; exact rfl; exact rfl; exact rfl)
       | ((with_reducible apply Kac); exact HST.out; exact rfl; exact rfl; generalize hW1 : World.setCell _ _ _ = W1 at *; clear hW1))
      go_ret
      refine ⟨_, rfl, ?_⟩
      rw [HN.out]
      exact ⟨by first | rfl | (push_cast; rfl) | (simp; simp only [IntKind.wrap_u64]; done) | (simp; simp only [IntKind.wrap_u64]; omega), HF.out.1.1, HF.out.2.trans HF.out.1.2⟩
     ·have c0 : ((cv : Int) != 0) = true := by rw [bne_iff_ne]; omega
      obtain rfl : j = 9 := hc1
      have c9 : ¬ (cv : Int) < 2 := by omega
      have hdn : dN 0 0 l = some ((a + cv % 128 * 2 ^ (7 * 9)) % 18446744073709551616, l.drop (9 + 1), false) := by
       rw [← hd]
       first
        | done
        | (congr 3; done)
        | (congr 3; rfl)
        | (congr 3; simp only [Bool.and_eq_true, Bool.or_eq_true, decide_eq_true_eq, Bool.and_eq_false_iff, Bool.or_eq_false_iff, decide_eq_false_iff_not]; omega)
      have HN := Lib.hid (Kcj (bad := true) hdn)
      obtain ⟨p1, c1, p', c', k1, k2, k3, k4, k5⟩ := H.out.1.rest (k := 9 + 1) (by omega)
      rw [H.out.2.1] at k1
      cases k1
      have hst1 := Ka4 (p := p') (n := l.length - (9 + 1)) (c := c') hq0 hf0
      have HSL := Lib.hid (fun W' => (Kap Tryz.underlying26 _ _ _ _ W').trans (k3 W'))
      have HST := Lib.hid hst1
      obtain ⟨p2, c2, m1, m2⟩ := k4.box
      have hq2 := Kab (o := 1) m1 rfl
      have hf2 := Kar (o := 1) m1
      have HF := Lib.hid (And.intro (k4.set true) k5)
      clear hd hdn k2 k3 k4 k5 m1 m2 hst1
      go_wp2_with (first
       | ((with_reducible apply Kbb); exact HSL.out _; exact rfl; exact rfl; exact rfl; exact rfl)
       | ((with_reducible apply Kac); exact HST.out; exact rfl; exact rfl; generalize hW1 : World.setCell _ _ _ = W1 at *; clear hW1))
      go_ret
      refine ⟨_, rfl, ?_⟩
      rw [HN.out]
      exact ⟨by first | rfl | (push_cast; rfl) | (simp; simp only [IntKind.wrap_u64]; done) | (simp; simp only [IntKind.wrap_u64]; omega), HF.out.1.1, HF.out.2.trans HF.out.1.2⟩
    ·have l1 : ¬ (cv : Int) < 128 := by omega
     rw [if_neg hlow] at hd
     have hj1 : j + 1 ≤ l.length := hlt
     have hj2 : j + 1 ≤ 10 := ht
     have hm : (a + cv % 128 * 2 ^ (7 * j)) % 18446744073709551616 < 18446744073709551616 := Nat.mod_lt _ (by decide)
     generalize (a + cv % 128 * 2 ^ (7 * j)) % 18446744073709551616 = a' at *
     have HN := Lib.hid hd
     clear hd HD
     go_wp2
     go_roundw
     case rel => exact ⟨j + 1, a', hj2, hj1, hm, rfl, by go_num, (by first | trivial | rfl), HN⟩
     case measure => simp [intOf]; omega
   ·have hd := HD.out
    rw [dN_end (.inr (by omega))] at hd
    obtain rfl : j = 10 := by omega
    have HN := Lib.hid (docN_none (bad := bad) hd.symm)
    have hS := H.out.1.set true
    have HS := Lib.hid hS
    clear hd HD hS
    go_wp2
    go_ret
    refine ⟨_, rfl, ?_⟩
    rw [HN.out]
    exact ⟨rfl, HS.out⟩
  ·have hd := HD.out
   rw [dN_end (.inl (by omega))] at hd
   obtain rfl : j = l.length := by omega
   have HN := Lib.hid (docN_none (bad := bad) hd.symm)
   have hS := H.out.1.set true
   have HS := Lib.hid hS
   clear hd HD hS
   go_wp2
   go_ret
   refine ⟨_, rfl, ?_⟩
   rw [HN.out]
   exact ⟨rfl, HS.out⟩
end Go.Proofs.YthdfedfholmbmaaGreatDoor

namespace Go.Proofs.YthdfedfholmbmaaGreatDoor
open Go.RowKit
theorem Out.rd {w : World} {b : List UInt8} {err : Int} {e : Ending} {W' : World} (h : Out w b err e W') : ∃ p c, e = .returned (.tuple #[.slice p b.length c, .int .i64 err]) ∧ RdB W' (.slice p b.length c) b ∧ Below w.heap.size w W' := by
 obtain ⟨o, rfl, ho, hb⟩ := h
 obtain ⟨p, c, rfl, hr⟩ := own_rdB ho
 exact ⟨p, c, rfl, hr, hb⟩
theorem readW_dec {α : Type} {d : Dec α} {ok : α → Bool} {b : List UInt8} {x : α} (h : readW d ok b = some x) : d b = some (x, []) ∧ ok x = true := by
 unfold readW at h
 split at h
 ·rename_i y hd
  split at h
  ·rename_i hk
   cases h
   exact ⟨hd, hk⟩
  ·cases h
 ·cases h
theorem readV_tot {b : List UInt8} {x : V} (h : readW (rdVal 64) okV b = some x) : totV x ≤ b.length ∧ rngV x ∧ okV x = true ∧ b = valC x := by
 obtain ⟨h1, h2⟩ := readW_dec h
 obtain ⟨h3, h4⟩ := tot_of (rt_val 64) (df_val 64) (ds_val 64) h1
 exact ⟨by simpa using h3, h4, h2, (readW_some (rt_val 64) h).1⟩
def Lies (g : Nat) (T : TypeId) (x : Array Value) (W : World) : Prop := W.heap[g]? = some (.cells x T (0, 0))
theorem Lies.below {g : Nat} {T : TypeId} {x : Array Value} {W W' : World} (h : Lies g T x W) (b : Below W.heap.size W W') : Lies g T x W' := Kas b (Array.getElem?_eq_some_iff.1 h).1 h
theorem Lies.get {g : Nat} {x : Array Value} {W : World} (h : Lies g 48 x W) (hs : x.size = 6) : (loadVar 48 ⟨g, 0, none⟩).run Tryz.prog W = .ok (.agg x) W := StT.get Ka0 hs h
theorem Kef {v : V} (hr : rngV v) (ht : totV v ≤ 3000) : (valC v).length ≤ 900000 := by
 have := valC_len v hr (by omega); omega
end Go.Proofs.YthdfedfholmbmaaGreatDoor

namespace Go.Proofs.YthdfedfholmbmaaGreatDoor
open Go.RowKit
theorem dcount_any {w W : World} {q : Nat} {l : List UInt8} {bad : Bool} (h : DSt 40 w W q l bad) :
 Calls Tryz.prog 57 #[.pointer (some ⟨q, 0, none⟩)] W (Docs w W q (Kbh (l, bad)) fun n v _ => v = .int .i64 (n : Int)) := by
 have hn := dnum_any h
 have hr := Kcz.rng (l, bad)
 unfold Kbh
 generalize docN (l, bad) = r at *
 obtain ⟨n, l', b'⟩ := r
 have hr' : n < 18446744073709551616 := hr
 have HN := Lib.hid hn
 clear h hn hr
 simp only
 by_cases hc : l'.length < n
 ·have hci : ((l'.length : Int)) < (n : Int) := by omega
  rw [if_pos hc]
  go_enter Tryz.func57, Tryz.ntmps57
  go_wp2_with (go_at_call 60
               (
                refine HN.out.mono ?_
                rintro e W1 ⟨v, rfl, rfl, hD, hT⟩
                replace hD : DSt 40 w W1 q l' b' := hD
                obtain ⟨p, c, h1, h2⟩ := hD.box
                have z1 := Kdi h2
                have q0 := Kab (o := 0) h1 rfl
                have q1 := Kab (o := 1) h1 rfl
                have f1 := Kar (o := 1) h1
                have HF := Lib.hid (And.intro (hD.set true) hT)
                clear hD hT h1 h2))
  go_ret
  exact ⟨_, rfl, rfl, HF.out.1.1, HF.out.2.trans HF.out.1.2⟩
 ·have hci : ¬ ((l'.length : Int)) < (n : Int) := by omega
  rw [if_neg hc]
  go_enter Tryz.func57, Tryz.ntmps57
  go_wp2_with (go_at_call 60
               (
                refine HN.out.mono ?_
                rintro e W1 ⟨v, rfl, rfl, hD, hT⟩
                replace hD : DSt 40 w W1 q l' b' := hD
                obtain ⟨p, c, h1, h2⟩ := hD.box
                have z1 := Kdi h2
                have z2 : (n : Int) ≤ 9223372036854775807 := by omega
                have q0 := Kab (o := 0) h1 rfl
                have HF := Lib.hid (And.intro hD hT)
                clear hD hT h1 h2))
  go_ret
  exact ⟨_, rfl, rfl, HF.out.1, HF.out.2⟩
theorem unzz_odd {n : Nat} (h : n % 2 = 1) : unzz n = -((n / 2 : Nat) : Int) - 1 := by unfold unzz; rw [if_pos h]
theorem unzz_even {n : Nat} (h : ¬ n % 2 = 1) : unzz n = ((n / 2 : Nat) : Int) := by unfold unzz; rw [if_neg h]
theorem dsign_any {w W : World} {q : Nat} {l : List UInt8} {bad : Bool} (h : DSt 40 w W q l bad) :
 Calls Tryz.prog 73 #[.pointer (some ⟨q, 0, none⟩)] W (Docs w W q (Kch (l, bad)) fun n v _ => v = .int .i64 n) := by
 have hn := dnum_any h
 have hr := Kcz.rng (l, bad)
 unfold Kch
 generalize docN (l, bad) = r at *
 obtain ⟨n, l', b'⟩ := r
 have hr' : n < 18446744073709551616 := hr
 have HN := Lib.hid hn
 clear h hn hr
 simp only
 by_cases hc : n % 2 = 1
 ·have hci : ((n : Int) % 2) = 1 := by omega
  have HE := Lib.hid (unzz_odd hc)
  clear hc
  go_enter Tryz.func73, Tryz.ntmps73
  go_wp2_with (go_at_call 60; refine HN.out.mono ?_; rintro e W1 ⟨v, rfl, rfl, hD, hT⟩; have HF := Lib.hid (And.intro hD hT); clear hD hT)
  go_ret
  refine ⟨_, rfl, ?_, HF.out⟩
  show Value.int .i64 _ = Value.int .i64 (unzz n)
  rw [HE.out]
  congr 1
 ·have hci : ((n : Int) % 2) = 0 := by omega
  have HE := Lib.hid (unzz_even hc)
  clear hc
  go_enter Tryz.func73, Tryz.ntmps73
  go_wp2_with (go_at_call 60; refine HN.out.mono ?_; rintro e W1 ⟨v, rfl, rfl, hD, hT⟩; have HF := Lib.hid (And.intro hD hT); clear hD hT)
  go_ret
  refine ⟨_, rfl, ?_, HF.out⟩
  show Value.int .i64 _ = Value.int .i64 (unzz n)
  rw [HE.out]
  congr 1
theorem dtxt_any {w W : World} {q : Nat} {l : List UInt8} {bad : Bool} (h : DSt 40 w W q l bad) :
 Calls Tryz.prog 74 #[.pointer (some ⟨q, 0, none⟩)] W (Docs w W q (Kbi (l, bad)) fun s v _ => v = .string (strB s)) := by
 have hn := dcount_any h
 have hr := count_le (l, bad)
 unfold Kbi
 generalize Kbh (l, bad) = r at *
 obtain ⟨n, l', b'⟩ := r
 have hnr : n ≤ l'.length := hr
 have HN := Lib.hid hn
 clear h hn hr
 simp only
 go_enter Tryz.func74, Tryz.ntmps74
 go_wp2_with (first
  | (go_at_call 57
     (
      refine HN.out.mono ?_
      rintro e W1 ⟨v, rfl, rfl, hD, hT⟩
      obtain ⟨p1, c1, p2, c2, hbx, hrd, hsl, hst, hto⟩ := hD.rest hnr
      obtain ⟨a3, hs3, hrd3, _⟩ := sub_rdB hrd none (some (n : Int)) 0 n (by simp) (by simp) (by simp) (by simp) (Nat.zero_le _) hnr
      simp only [Nat.sub_zero, List.drop_zero, Option.map_none, Option.map_some] at hs3 hrd3
      have hcq := Kab (o := 0) hbx rfl
      have HS1 := Lib.hid hs3
      have HCV := Lib.hid (bytes_str hrd3)
      have HS2 := Lib.hid (fun W' => (Kap Tryz.underlying26 _ _ _ _ W').trans (hsl W'))
      have HST := Lib.hid (Ka4 (p := p2) (n := l'.length - n) (c := c2) hcq (Kar (o := 0) hbx))
      have HF := Lib.hid (And.intro hst (hT.trans hto))
      clear hD hT hbx hrd hsl hst hto hs3 hrd3))
  | ((with_reducible apply Kbb); exact HS1.out _; exact rfl; exact rfl; exact rfl; exact rfl)
  | ((with_reducible apply Kbq); exact HCV.out; exact rfl)
  | ((with_reducible apply Kbb); exact HS2.out _; exact rfl; exact rfl; exact rfl; exact rfl)
  | ((with_reducible apply Kac); exact HST.out; exact rfl; exact rfl))
 go_ret
 exact ⟨_, rfl, rfl, HF.out⟩
end Go.Proofs.YthdfedfholmbmaaGreatDoor

namespace Go.Proofs.YthdfedfholmbmaaGreatDoor
open Go.RowKit
theorem DSt.other {T : TypeId} {w W W' : World} {q : Nat} {l : List UInt8} {bad : Bool} (h : DSt T w W q l bad) (hb : Below w.heap.size w W') (hx : W'.heap[q]? = W.heap[q]?) : DSt T w W' q l bad := by
 obtain ⟨p, c, h1, h2⟩ := h.box
 exact ⟨hb, h.base, p, c, hx.trans h1, h2⟩
section
variable {T : TypeId} {K : Nat} {z cs : Array Value} {w W W' W'' : World} {q B : Nat} {l : List UInt8} {bad : Bool}
theorem BX.finD (hT : StT Tryz.prog T K) (h : BX T W q z B cs W') (hs : cs.size = K) (hz : z.size = K) (h1 : ∀ u ∈ cs.toList, u.oneCell' = true) (g : DSt 40 w W' q l bad) :
 (loadVar T ⟨B, 0, none⟩).run Tryz.prog W' = .ok (.agg cs) W' ∧ (storeVar T ⟨W.heap.size, 0, none⟩ (.agg cs)).run Tryz.prog W' = .ok () (W'.setRow W.heap.size cs) ∧
 (loadVar T ⟨W.heap.size, 0, none⟩).run Tryz.prog (W'.setRow W.heap.size cs) = .ok (.agg cs) (W'.setRow W.heap.size cs) ∧ DSt 40 w (W'.setRow W.heap.size cs) q l bad ∧ RTo q W (W'.setRow W.heap.size cs) ∧
 (∀ b, b ≠ W.heap.size → (W'.setRow W.heap.size cs).heap[b]? = W'.heap[b]?) := by
 have ho : ∀ b, b ≠ W.heap.size → (W'.setRow W.heap.size cs).heap[b]? = W'.heap[b]? := fun b hb => setRow_other W' _ b cs hb
 have hq := h.ql
 have hbase := g.base
 have hsz : (W'.setRow W.heap.size cs).heap.size = W'.heap.size := by simp
 have hB : Below w.heap.size w (W'.setRow W.heap.size cs) := Kcy g.b (by omega) cs
 exact ⟨hT.get hs h.p3, hT.put hs h1 h.p2 hz, hT.get hs (setRow_heap W' _ z cs _ _ h.p2), g.other hB (ho q (by omega)), ⟨by rw [hsz]; exact h.tr.size, fun b hb hqb => (ho b (by omega)).trans (h.tr.keep b hb hqb)⟩, ho⟩
theorem BX.setD (h : BX T W q z B cs W') (g : DSt 40 w W' q l bad) (i : Nat) (u : Value) : DSt 40 w (W'.setCell ⟨B, i, none⟩ u) q l bad :=
 g.other (Kbn g.b (by have := g.base; have := h.lo; have := h.ql; omega) u) (Below.heap_setCell _ _ _ _ (by show q ≠ B; have := h.lo; have := h.ql; omega))
end
section
variable {α : Type} {E : World → (Nat → Prop) → α → Array Value → Prop} {K : Nat} {Pg : Program} {t T : TypeId} {w w' W W1 : World} {P P' : Nat → Prop} {l m : List α}
theorem GIn.stepo (hE : EL E K) (hG : GT Pg t T K) {P P' : Nat → Prop} {ov : Value} {v : α} {x : Array Value} (h : GIn E t K P W ov m) (hb : ∀ b, P b → b < W.heap.size → W1.heap[b]? = W.heap[b]?) (hsz : W.heap.size ≤ W1.heap.size) (hP : ∀ b, b < W.heap.size → P b → P' b) (hnew : ∀ b, W1.heap.size ≤ b → P' b)
 (hx : E W1 (fun b => W.heap.size ≤ b ∧ P' b) v x) (hm : m.length ≤ 1000000) (ty : TypeId) :
 ∃ v' W2, (Builtin.append_ #[T, T] ty #[ov, .slice (some ⟨W1.heap.size, 0, none⟩) 1 1]).run Pg (W1.alloc (.cells x t)) = .ok v' W2 ∧ GIn E t K P' W2 v' (m ++ [v]) ∧ Touch (fun b => ov.ownBlock = some b) (W1.alloc (.cells x t)) W2 ∧ (v'.ownBlock = ov.ownBlock ∨ v'.ownBlock = some (W1.heap.size + 1)) := by
 have ha : Below W1.heap.size W1 (W1.alloc (.cells x t)) := Kae _
 have hlt : ∀ g, ov.ownBlock = some g → g < W.heap.size := fun g hg => (h.lt g hg).1
 obtain ⟨xs, h1, h2⟩ := h.kept (P' := P') hE (W' := W1.alloc (.cells x t)) (fun b hp hlt => (ha.block b (by omega)).trans (hb b hp hlt)) hP
 have hx' : E (W1.alloc (.cells x t)) (fun b => W.heap.size ≤ b ∧ P' b) v x := hE.keep (fun b _ hb => ha.block b hb) hx
 have hs1 : (W1.alloc (.cells x t)).heap.size = W1.heap.size + 1 := by simp
 obtain ⟨v', W2, a1, a2, a3, a4, a5⟩ := hG.app h1.1 (hE.size hx) (hE.ones hx) (heap_alloc_new W1 _) hm ty
 refine ⟨v', W2, a1, ⟨xs ++ [x], ⟨?_, fun g hg => ?_⟩, ?_⟩, a3, by rw [hs1] at a4; exact a4⟩
 ·rw [List.flatMap_append, List.length_append]
  simpa using a2
 ·rcases a4 with e | e
  ·exact h1.2 g (e.symm.trans hg)
  ·rw [e] at hg
   cases hg
   exact hnew _ (by omega)
 ·have hs : GOwns E (W1.alloc (.cells x t)) (fun b => P' b ∧ ov.ownBlock ≠ some b ∧ b < (W1.alloc (.cells x t)).heap.size) (m ++ [v]) (xs ++ [x]) :=
   (h2.imp hE fun b hb hp => ⟨hp.1, hp.2, hb⟩).snoc (hE.imp (fun b hb hp => ⟨hp.2, fun e => by have := hlt b e; omega, hb⟩) hx')
  refine (hs.keep hE (w' := W2) fun b hp hb => a3.block b hb hp.2.1).imp hE fun b _ hp => ⟨hp.1, ?_⟩
  rcases a4 with e | e
  ·rw [e]; exact hp.2.1
  ·rw [e]; intro e2; cases e2; have := hp.2.2; omega
end
structure DX (T : TypeId) (w W : World) (q : Nat) (z : Array Value) (B : Nat) (cs : Array Value) (Wb : World) (l : List UInt8) (bad : Bool) (W' : World) : Prop where
 bx : BX T W q z B cs W'
 ds : DSt 40 w W' q l bad
 keep : ∀ b, b < Wb.heap.size → b ≠ q → b ≠ B → W'.heap[b]? = Wb.heap[b]?
 sz : Wb.heap.size ≤ W'.heap.size
 lo : B < Wb.heap.size
section
variable {T : TypeId} {z cs : Array Value} {w W W' W1 W2 Wb : World} {q B i : Nat} {l l' : List UInt8} {bad bad' : Bool} {α : Type} {E : World → (Nat → Prop) → α → Array Value → Prop} {t Tr : TypeId} {K : Nat} {m : List α} {v : α} {x : Array Value} {ov : Value} {P : Nat → Prop}
theorem DX.start (h : BX T W q z B cs Wb) (g : DSt 40 w Wb q l bad) : DX T w W q z B cs Wb l bad Wb := ⟨h, g, fun _ _ _ _ => rfl, Nat.le_refl _, h.lt⟩
theorem DX.step (h : DX T w W q z B cs Wb l bad W') (t1 : RTo q W' W1) (d1 : DSt 40 w W1 q l' bad') : DX T w W q z B cs Wb l' bad' W1 :=
 ⟨h.bx.step t1, d1, fun b hb hq hB => (t1.keep b (Nat.lt_of_lt_of_le hb h.sz) hq).trans (h.keep b hb hq hB), Nat.le_trans h.sz t1.size, h.lo⟩
theorem DX.below (h : DX T w W q z B cs Wb l bad W') (g : Below W'.heap.size W' W1) : DX T w W q z B cs Wb l bad W1 := h.step (RTo.of_below g) (h.ds.below g)
theorem DX.push (h : DX T w W q z B cs Wb l bad W2) (hE : EL E K) (hG : GT Tryz.prog t Tr K) (hPw : ∀ b, P b → Wb.heap.size ≤ b) (hPn : ∀ b, W2.heap.size ≤ b → P b) (row : GIn E t K P W' ov m) (hsz : W'.heap.size ≤ W2.heap.size) (hkeep : ∀ b, P b → b < W'.heap.size → W2.heap[b]? = W'.heap[b]?) (hov : cs[i]? = some ov)
 (hx : E W2 (fun b => W'.heap.size ≤ b ∧ P b) v x) (hm : m.length ≤ 1000000) (ty : TypeId) :
 ∃ p c W3, (Builtin.append_ #[Tr, Tr] ty #[ov, .slice (some ⟨W2.heap.size, 0, none⟩) 1 1]).run Tryz.prog (W2.alloc (.cells x t)) = .ok (.slice p (m.length + 1) c) W3 ∧ W3.cell? ⟨B, i, none⟩ = some ov ∧ W3.frozen? ⟨B, i, none⟩ = false ∧
  DX T w W q z B (cs.setIfInBounds i (.slice p (m.length + 1) c)) Wb l bad (W3.setCell ⟨B, i, none⟩ (.slice p (m.length + 1) c)) ∧ GIn E t K P (W3.setCell ⟨B, i, none⟩ (.slice p (m.length + 1) c)) (.slice p (m.length + 1) c) (m ++ [v]) ∧
  (∀ b, b < W2.heap.size → b ≠ B → ov.ownBlock ≠ some b → (W3.setCell ⟨B, i, none⟩ (.slice p (m.length + 1) c)).heap[b]? = W2.heap[b]?) ∧ (∀ g, (Value.slice p (m.length + 1) c).ownBlock = some g → ov.ownBlock = some g ∨ W2.heap.size ≤ g) := by
 obtain ⟨v', W3, a1, a2, a3, a4⟩ := row.stepo hE hG (P' := P) (W1 := W2) hkeep hsz (fun b _ h => h) hPn hx hm ty
 obtain ⟨p, c, rfl⟩ := a2.slice
 have el : (m ++ [v]).length = m.length + 1 := by simp
 rw [el] at a1 a2 a4
 have hlow : ∀ b, ov.ownBlock = some b → Wb.heap.size ≤ b := fun b e => hPw b (row.lt b e).2
 have hbn := Kae (w := W2) (.cells x t)
 have hB2 : B < W2.heap.size := Nat.lt_of_lt_of_le h.lo h.sz
 have hq := h.bx.ql
 have hlo := h.bx.lo
 have hloB := h.lo
 have hW3 : ∀ b, b < W2.heap.size → ov.ownBlock ≠ some b → W3.heap[b]? = W2.heap[b]? := fun b hb ho => (a3.block b (Nat.lt_of_lt_of_le hb hbn.size) ho).trans (hbn.block b hb)
 have hBx : W3.heap[B]? = some (.cells cs T (0, 0)) := (hW3 B hB2 fun e => by have := hlow B e; omega).trans h.bx.p3
 have hcell : W3.cell? ⟨B, i, none⟩ = some ov := Kab (o := i) hBx hov
 have hs3 : W2.heap.size ≤ W3.heap.size := by have := a3.size; simp only [World.size_alloc] at this; omega
 have hset : ∀ b, b ≠ B → (W3.setCell ⟨B, i, none⟩ (.slice p (m.length + 1) c)).heap[b]? = W3.heap[b]? := fun b hb => Below.heap_setCell W3 ⟨B, i, none⟩ _ b hb
 have hss : (W3.setCell ⟨B, i, none⟩ (.slice p (m.length + 1) c)).heap.size = W3.heap.size := by simp [World.setCell]
 have hB3 : Below w.heap.size w W3 := a3.below (Kaa h.ds.b hbn) (fun b hb e => by have := hlow b e; have := h.ds.base; omega) (by have := h.ds.b.size; have := hbn.size; omega)
 refine ⟨p, c, W3, a1, hcell, Kar (o := i) hBx, ⟨?_, ?_, fun b hb hbq hbB => ?_, by rw [hss]; have := h.sz; omega, h.lo⟩, ?_, fun b hb hbB ho => (hset b hbB).trans (hW3 b hb ho), fun g hg => ?_⟩
 ·have h2 : BX T W q z B cs W3 := ⟨(hW3 _ (by omega) fun e => by have := hlow _ e; omega).trans h.bx.p2, hBx, h.bx.lo, h.bx.ql, ⟨by have := h.bx.tr.size; omega, fun b hb hbq => (hW3 b (by have := h.bx.tr.size; omega) fun e => by have := hlow _ e; omega).trans (h.bx.tr.keep b hb hbq)⟩⟩
  exact h2.set i _
 ·exact h.ds.other (Kbn hB3 (by have := h.ds.base; omega) _) ((hset q (by omega)).trans (hW3 q (by omega) fun e => by have := hlow _ e; omega))
 ·exact (hset b hbB).trans ((hW3 b (by have := h.sz; omega) fun e => by have := hlow _ e; omega).trans (h.keep b hb hbq hbB))
 ·exact a2.kept hE (fun b hp _ => hset b (by have := hPw b hp; omega)) (fun b _ h => h)
 ·rcases a4 with e | e
  ·exact .inl (e.symm.trans hg)
  ·rw [e] at hg; cases hg; exact .inr (by omega)
end
end Go.Proofs.YthdfedfholmbmaaGreatDoor

namespace Go.Proofs.YthdfedfholmbmaaGreatDoor
open Go.RowKit
abbrev zV : V := .mk 0 false 0 [] [] []
theorem docVal_no {d : Nat} {l : List UInt8} {bad : Bool} (h : l = [] ∨ d = 0 ∨ bad = true) : Ka1 d (l, bad) = (zV, l, true) := by
 cases d with
 | zero => rw [Ka1]
 | succ d =>
   cases l with
   | nil => rw [Ka1]
   | cons c r =>
     rcases h with h | h | h
     ·cases h
     ·omega
     ·subst h; rw [Ka1, if_pos rfl]
theorem docVal_cons {d : Nat} {l : List UInt8} (h : 0 < l.length) : Ka1 (d + 1) (l, false) =
 if (l[0]).toNat = 0 then (.mk 0 false 0 [] [] [], l.drop 1, false)
  else if (l[0]).toNat = 1 then (.mk 1 ((docN (l.drop 1, false)).1 == 1) 0 [] [] [], (docN (l.drop 1, false)).2.1, (docN (l.drop 1, false)).2.2 || decide (1 < (docN (l.drop 1, false)).1))
  else if (l[0]).toNat = 2 then (.mk 2 false (Kch (l.drop 1, false)).1 [] [] [], (Kch (l.drop 1, false)).2)
  else if (l[0]).toNat = 3 then (.mk 3 false 0 (Kbi (l.drop 1, false)).1 [] [], (Kbi (l.drop 1, false)).2)
  else if (l[0]).toNat = 4 then (.mk 4 false 0 [] [] (Kbr (Ka1 d) (l.drop 1, false)).1, (Kbr (Ka1 d) (l.drop 1, false)).2)
  else if (l[0]).toNat = 5 then (.mk 5 false 0 [] ((Kbr (Kcf Kbi (Ka1 d)) (l.drop 1, false)).1.map Prod.fst) ((Kbr (Kcf Kbi (Ka1 d)) (l.drop 1, false)).1.map Prod.snd), (Kbr (Kcf Kbi (Ka1 d)) (l.drop 1, false)).2)
  else if (l[0]).toNat = 6 ∨ (l[0]).toNat = 7 then (.mk ((l[0]).toNat : Int) false (Kdr (l.drop 1, false)).1 [] [] [], (Kdr (l.drop 1, false)).2)
  else (.mk ((l[0]).toNat : Int) false 0 [] [] [], l.drop 1, true) := by
 cases l with
 | nil => simp at h
 | cons c r => rw [Ka1, if_neg (by simp)]; rfl
theorem vfin {w W W' : World} {q B : Nat} {cs : Array Value} {l : List UInt8} {bad : Bool} {v : V} (hx : BX 48 W q #[.int .i64 0, .bool false, .int .i64 0, .string ⟨#[]⟩, .slice none 0 0, .slice none 0 0] B cs W') (g : DSt 40 w W' q l bad) (ho : VOwn W' (fun b => B < b) v cs) :
 (loadVar 48 ⟨B, 0, none⟩).run Tryz.prog W' = .ok (.agg cs) W' ∧ (storeVar 48 ⟨W.heap.size, 0, none⟩ (.agg cs)).run Tryz.prog W' = .ok () (W'.setRow W.heap.size cs) ∧
 (loadVar 48 ⟨W.heap.size, 0, none⟩).run Tryz.prog (W'.setRow W.heap.size cs) = .ok (.agg cs) (W'.setRow W.heap.size cs) ∧
 ∀ (r : V × Rs), r = (v, l, bad) → Docs w W q r (okVal W) (.returned (.agg cs)) (W'.setRow W.heap.size cs) := by
 obtain ⟨f1, f2, f3, f4, f5, f6⟩ := hx.finD Ka0 ho.size6 rfl ho.ones g
 refine ⟨f1, f2, f3, fun r hr => ?_⟩
 subst hr
 refine ⟨_, rfl, ⟨cs, rfl, ?_⟩, f4, f5⟩
 have hlo := hx.lo
 exact (ho.keep (w' := W'.setRow W.heap.size cs) fun b hb _ => f6 b (by omega)).imp fun b _ hb => by omega
def DValR (w : World) (d : Nat) : Prop := ∀ (W : World) (q : Nat) (l : List UInt8) (bad : Bool), DSt 40 w W q l bad → l.length ≤ 1000000 → Calls Tryz.prog 24 #[.pointer (some ⟨q, 0, none⟩), .int .i64 (d : Int)] W (Docs w W q (Ka1 d (l, bad)) (okVal W))
theorem dval_no {w W : World} {q d : Nat} {l : List UInt8} {bad : Bool} (h : DSt 40 w W q l bad) (hd : d ≤ 64) (hno : l = [] ∨ d = 0 ∨ bad = true) : Calls Tryz.prog 24 #[.pointer (some ⟨q, 0, none⟩), .int .i64 (d : Int)] W (Docs w W q (Ka1 d (l, bad)) (okVal W)) := by
 have hz : ∀ (X : World), (storeVar 48 ⟨X.heap.size, 0, none⟩ (.agg #[.int .i64 0, .bool false, .int .i64 0, .string ⟨#[]⟩, .slice none 0 0, .slice none 0 0])).run Tryz.prog (X.alloc (.cells #[.int .i64 0, .bool false, .int .i64 0, .string ⟨#[]⟩, .slice none 0 0, .slice none 0 0] 48)) = .ok () (X.alloc (.cells #[.int .i64 0, .bool false, .int .i64 0, .string ⟨#[]⟩, .slice none 0 0, .slice none 0 0] 48)) := fun X => Ka0.fresh rfl (by simp [Value.oneCell']) _ rfl
 have hb : Below W.heap.size W ((W.alloc (.cells #[.int .i64 0, .bool false, .int .i64 0, .string ⟨#[]⟩, .slice none 0 0, .slice none 0 0] 48)).alloc (.cells #[.int .i64 0, .bool false, .int .i64 0, .string ⟨#[]⟩, .slice none 0 0, .slice none 0 0] 48)) := (Kae _).alloc (by simp) _
 have h0 : BX 48 W q #[.int .i64 0, .bool false, .int .i64 0, .string ⟨#[]⟩, .slice none 0 0, .slice none 0 0] (W.alloc (.cells #[.int .i64 0, .bool false, .int .i64 0, .string ⟨#[]⟩, .slice none 0 0, .slice none 0 0] 48)).heap.size #[.int .i64 0, .bool false, .int .i64 0, .string ⟨#[]⟩, .slice none 0 0, .slice none 0 0] ((W.alloc (.cells #[.int .i64 0, .bool false, .int .i64 0, .string ⟨#[]⟩, .slice none 0 0, .slice none 0 0] 48)).alloc (.cells #[.int .i64 0, .bool false, .int .i64 0, .string ⟨#[]⟩, .slice none 0 0, .slice none 0 0] 48)) := BX.start h.lt (RTo.refl _ _)
 have d0 := h.below hb
 have hzz := hz (W.alloc (.cells #[.int .i64 0, .bool false, .int .i64 0, .string ⟨#[]⟩, .slice none 0 0, .slice none 0 0] 48))
 simp only [World.size_alloc] at h0 hzz
 by_cases hl : l = []
 ·subst hl
  obtain ⟨p, c, q1, q2⟩ := d0.box
  have hf1 := Kar (o := 1) q1
  have zl := Kdi q2
  have c0 := Kab (o := 0) q1 rfl
  have c1 := Kab (o := 1) q1 rfl
  have dS := d0.set true
  have hx1 := h0.step dS.2
  have g1 := vfin (v := zV) hx1 dS.1 (Kbl _ _ 0 false 0 [])
  have HZ := Lib.hid hzz
  have HL5 := Lib.hid g1.1
  have HS4 := Lib.hid g1.2.1
  have HLD := Lib.hid g1.2.2.1
  have HF := Lib.hid (g1.2.2.2 _ (docVal_no hno))
  clear h hz hb h0 d0 hzz q1 q2 dS hx1 g1 hno
  go_enter Tryz.func24, Tryz.ntmps24
  go_wp2_with (first
   | ((with_reducible apply Kac); exact HZ.out; exact rfl; exact rfl; clear HZ)
   | ((with_reducible apply Kal); exact HL5.out; exact rfl)
   | ((with_reducible apply Kac); exact HS4.out; exact rfl; exact rfl))
  refine bodyPost_ret (Kak rfl _ _ ⟨W.heap.size, 0, none⟩ _ rfl HLD.out) rfl ?_
  exact HF.out
 have hlp : ((l.length : Int) == 0) = false := by rw [beq_eq_false_iff_ne]; have := List.length_pos_iff.2 hl; omega
 by_cases hd0 : d = 0
 ·subst hd0
  clear hl
  obtain ⟨p, c, q1, q2⟩ := d0.box
  have hf1 := Kar (o := 1) q1
  have zl := Kdi q2
  have c0 := Kab (o := 0) q1 rfl
  have c1 := Kab (o := 1) q1 rfl
  have dS := d0.set true
  have hx1 := h0.step dS.2
  have g1 := vfin (v := zV) hx1 dS.1 (Kbl _ _ 0 false 0 [])
  have HZ := Lib.hid hzz
  have HL5 := Lib.hid g1.1
  have HS4 := Lib.hid g1.2.1
  have HLD := Lib.hid g1.2.2.1
  have HF := Lib.hid (g1.2.2.2 _ (docVal_no hno))
  clear h hz hb h0 d0 hzz q1 q2 dS hx1 g1 hno
  go_enter Tryz.func24, Tryz.ntmps24
  go_wp2_with (first
   | ((with_reducible apply Kac); exact HZ.out; exact rfl; exact rfl; clear HZ)
   | ((with_reducible apply Kal); exact HL5.out; exact rfl)
   | ((with_reducible apply Kac); exact HS4.out; exact rfl; exact rfl))
  refine bodyPost_ret (Kak rfl _ _ ⟨W.heap.size, 0, none⟩ _ rfl HLD.out) rfl ?_
  exact HF.out
 have hdp : ¬ (d : Int) ≤ 0 := by omega
 have hdb : decide ((d : Int) ≤ 0) = false := decide_eq_false hdp
 obtain rfl : bad = true := by rcases hno with h1 | h1 | h1; exact absurd h1 hl; exact absurd h1 hd0; exact h1
 clear hl hd0
 obtain ⟨p, c, q1, q2⟩ := d0.box
 have hf1 := Kar (o := 1) q1
 have zl := Kdi q2
 have c0 := Kab (o := 0) q1 rfl
 have c1 := Kab (o := 1) q1 rfl
 have dS := d0.set true
 have hx1 := h0.step dS.2
 have g1 := vfin (v := zV) hx1 dS.1 (Kbl _ _ 0 false 0 [])
 have HZ := Lib.hid hzz
 have HL5 := Lib.hid g1.1
 have HS4 := Lib.hid g1.2.1
 have HLD := Lib.hid g1.2.2.1
 have HF := Lib.hid (g1.2.2.2 _ (docVal_no hno))
 clear h hz hb h0 d0 hzz q1 q2 dS hx1 g1 hno
 go_enter Tryz.func24, Tryz.ntmps24
 go_wp2_with (first
  | ((with_reducible apply Kac); exact HZ.out; exact rfl; exact rfl; clear HZ)
  | ((with_reducible apply Kal); exact HL5.out; exact rfl)
  | ((with_reducible apply Kac); exact HS4.out; exact rfl; exact rfl))
 refine bodyPost_ret (Kak rfl _ _ ⟨W.heap.size, 0, none⟩ _ rfl HLD.out) rfl ?_
 exact HF.out
theorem Kcv {w : World} {ad : Addr} {n : Int} {u : Value} (hc : w.cell? ad = some u) (hf : w.frozen? ad = false) : (storeVar 44 ad (.int .i64 n)).run Tryz.prog w = .ok () (w.setCell ad (.int .i64 n)) := by
 simp [storeVar, go_sem, hc, hf]
theorem dval_flat {w W : World} {q d : Nat} {l : List UInt8} (h : DSt 40 w W q l false) (hd : d + 1 ≤ 64) (hlen : 0 < l.length) (h4 : (l[0]).toNat ≠ 4) (h5 : (l[0]).toNat ≠ 5) : Calls Tryz.prog 24 #[.pointer (some ⟨q, 0, none⟩), .int .i64 ((d + 1 : Nat) : Int)] W (Docs w W q (Ka1 (d + 1) (l, false)) (okVal W)) := by
 have hlp : ((l.length : Int) == 0) = false := by rw [beq_eq_false_iff_ne]; omega
 have hdp : ¬ ((d + 1 : Nat) : Int) ≤ 0 := by omega
 have hdb : decide (((d + 1 : Nat) : Int) ≤ 0) = false := decide_eq_false hdp
 rw [docVal_cons hlen]
 have hcl := (l[0]).toNat_lt
 generalize hdd : d + 1 = dd at *
 clear hdd
 generalize hc0 : (l[0]).toNat = c0 at *
 have hcase : c0 = 0 ∨ c0 = 1 ∨ c0 = 2 ∨ c0 = 3 ∨ c0 = 6 ∨ c0 = 7 ∨ 8 ≤ c0 := by omega
 rcases hcase with rfl | rfl | rfl | rfl | rfl | rfl | hc8
 ·have hz : ∀ (X : World), (storeVar 48 ⟨X.heap.size, 0, none⟩ (.agg #[.int .i64 0, .bool false, .int .i64 0, .string ⟨#[]⟩, .slice none 0 0, .slice none 0 0])).run Tryz.prog (X.alloc (.cells #[.int .i64 0, .bool false, .int .i64 0, .string ⟨#[]⟩, .slice none 0 0, .slice none 0 0] 48)) = .ok () (X.alloc (.cells #[.int .i64 0, .bool false, .int .i64 0, .string ⟨#[]⟩, .slice none 0 0, .slice none 0 0] 48)) := fun X => Ka0.fresh rfl (by simp [Value.oneCell']) _ rfl
  have hb : Below W.heap.size W ((W.alloc (.cells #[.int .i64 0, .bool false, .int .i64 0, .string ⟨#[]⟩, .slice none 0 0, .slice none 0 0] 48)).alloc (.cells #[.int .i64 0, .bool false, .int .i64 0, .string ⟨#[]⟩, .slice none 0 0, .slice none 0 0] 48)) := (Kae _).alloc (by simp) _
  have h0 : BX 48 W q #[.int .i64 0, .bool false, .int .i64 0, .string ⟨#[]⟩, .slice none 0 0, .slice none 0 0] (W.alloc (.cells #[.int .i64 0, .bool false, .int .i64 0, .string ⟨#[]⟩, .slice none 0 0, .slice none 0 0] 48)).heap.size #[.int .i64 0, .bool false, .int .i64 0, .string ⟨#[]⟩, .slice none 0 0, .slice none 0 0] ((W.alloc (.cells #[.int .i64 0, .bool false, .int .i64 0, .string ⟨#[]⟩, .slice none 0 0, .slice none 0 0] 48)).alloc (.cells #[.int .i64 0, .bool false, .int .i64 0, .string ⟨#[]⟩, .slice none 0 0, .slice none 0 0] 48)) := BX.start h.lt (RTo.refl _ _)
  have d0 := h.below hb
  have hzz := hz (W.alloc (.cells #[.int .i64 0, .bool false, .int .i64 0, .string ⟨#[]⟩, .slice none 0 0, .slice none 0 0] 48))
  simp only [World.size_alloc] at h0 hzz
  have d1 := h0.setD d0 0 (.int .i64 0)
  obtain ⟨p, c, q1, q2⟩ := d0.box
  obtain ⟨p1, c1, p', c', k1, k2, k3, k4, k5⟩ := d1.rest (k := 1) hlen
  have hqB : q ≠ W.heap.size + 1 := by have := h0.lo; have := h0.ql; omega
  have q3 : (((W.alloc (.cells #[.int .i64 0, .bool false, .int .i64 0, .string ⟨#[]⟩, .slice none 0 0, .slice none 0 0] 48)).alloc (.cells #[.int .i64 0, .bool false, .int .i64 0, .string ⟨#[]⟩, .slice none 0 0, .slice none 0 0] 48)).setCell ⟨W.heap.size + 1, 0, none⟩ (.int .i64 0)).heap[q]? = some (.cells #[.slice p l.length c, .bool false] 40 (0, 0)) := (Below.heap_setCell _ ⟨W.heap.size + 1, 0, none⟩ _ q hqB).trans q1
  rw [q3] at k1
  cases k1
  have zl := Kdi q2
  have r0 := Kab (o := 0) q1 rfl
  have r1 := Kab (o := 1) q1 rfl
  have b0 := Kab (o := 0) h0.p3 rfl
  have hst0 := Kcv b0 (Kar (o := 0) h0.p3) (n := 0)
  obtain ⟨bb, oo, rfl, hbyte⟩ := Kc9 q2 hlen
  have hbyw : ((W.alloc (.cells #[.int .i64 0, .bool false, .int .i64 0, .string ⟨#[]⟩, .slice none 0 0, .slice none 0 0] 48)).alloc (.cells #[.int .i64 0, .bool false, .int .i64 0, .string ⟨#[]⟩, .slice none 0 0, .slice none 0 0] 48)).cell? ⟨bb, oo, none⟩ = some (.int .u8 0) := by rw [hc0] at hbyte; exact Kam d0.b (ltOf hbyte) hbyte
  clear hbyte
  have r01 := Kab (o := 0) q3 rfl
  have hst1 := Ka4 (p := p') (n := l.length - 1) (c := c') r01 (Kar (o := 0) q3)
  have hx1 : BX 48 W q #[.int .i64 0, .bool false, .int .i64 0, .string ⟨#[]⟩, .slice none 0 0, .slice none 0 0] (W.heap.size + 1) #[.int .i64 0, .bool false, .int .i64 0, .string ⟨#[]⟩, .slice none 0 0, .slice none 0 0] (((W.alloc (.cells #[.int .i64 0, .bool false, .int .i64 0, .string ⟨#[]⟩, .slice none 0 0, .slice none 0 0] 48)).alloc (.cells #[.int .i64 0, .bool false, .int .i64 0, .string ⟨#[]⟩, .slice none 0 0, .slice none 0 0] 48)).setCell ⟨W.heap.size + 1, 0, none⟩ (.int .i64 0)) := by simpa using h0.set 0 (.int .i64 0)
  have hx2 := hx1.step k5
  have b02 := Kab (o := 0) hx2.p3 rfl
  have hsl := fun W' => (Kap Tryz.underlying26 _ _ _ _ W').trans (k3 W')
  have HZ := Lib.hid hzz
  have HST0 := Lib.hid hst0
  have HST1 := Lib.hid hst1
  have HSL := Lib.hid hsl
  have HX2 := Lib.hid hx2
  have HD2 := Lib.hid k4
  clear h hz hb h0 d0 hzz d1 q1 q2 k2 k3 k4 k5 q3 hqB hst0 hst1 hx1 hx2 hsl
  rw [if_pos rfl]
  have g1 := vfin (v := (V.mk 0 false 0 [] [] [])) HX2.out HD2.out (Kbl _ _ _ _ _ _)
  have HL5 := Lib.hid g1.1
  have HS4 := Lib.hid g1.2.1
  have HLD := Lib.hid g1.2.2.1
  have HF := Lib.hid (g1.2.2.2)
  clear g1
  clear h4 h5
  go_enter Tryz.func24, Tryz.ntmps24
  go_wp2_with (first
   | ((with_reducible apply Kac); exact HZ.out; exact rfl; exact rfl; clear HZ)
   | ((with_reducible apply Kac); exact HST0.out; exact rfl; exact rfl; clear HST0; generalize hW1 : World.setCell _ _ _ = W1 at *; clear hW1)
   | ((with_reducible apply Kbb); exact HSL.out _; exact rfl; exact rfl; exact rfl; exact rfl; clear HSL)
   | ((with_reducible apply Kac); exact HST1.out; exact rfl; exact rfl; clear HST1; generalize hW2 : World.setCell _ _ _ = W2 at *; clear hW2)
   | ((with_reducible apply Kal); exact HL5.out; exact rfl)
   | ((with_reducible apply Kac); exact HS4.out; exact rfl; exact rfl))
  refine bodyPost_ret (Kak rfl _ _ ⟨W.heap.size, 0, none⟩ _ rfl HLD.out) rfl ?_
  exact HF.out _ (by first | rfl | simp)
 ·have hz : ∀ (X : World), (storeVar 48 ⟨X.heap.size, 0, none⟩ (.agg #[.int .i64 0, .bool false, .int .i64 0, .string ⟨#[]⟩, .slice none 0 0, .slice none 0 0])).run Tryz.prog (X.alloc (.cells #[.int .i64 0, .bool false, .int .i64 0, .string ⟨#[]⟩, .slice none 0 0, .slice none 0 0] 48)) = .ok () (X.alloc (.cells #[.int .i64 0, .bool false, .int .i64 0, .string ⟨#[]⟩, .slice none 0 0, .slice none 0 0] 48)) := fun X => Ka0.fresh rfl (by simp [Value.oneCell']) _ rfl
  have hb : Below W.heap.size W ((W.alloc (.cells #[.int .i64 0, .bool false, .int .i64 0, .string ⟨#[]⟩, .slice none 0 0, .slice none 0 0] 48)).alloc (.cells #[.int .i64 0, .bool false, .int .i64 0, .string ⟨#[]⟩, .slice none 0 0, .slice none 0 0] 48)) := (Kae _).alloc (by simp) _
  have h0 : BX 48 W q #[.int .i64 0, .bool false, .int .i64 0, .string ⟨#[]⟩, .slice none 0 0, .slice none 0 0] (W.alloc (.cells #[.int .i64 0, .bool false, .int .i64 0, .string ⟨#[]⟩, .slice none 0 0, .slice none 0 0] 48)).heap.size #[.int .i64 0, .bool false, .int .i64 0, .string ⟨#[]⟩, .slice none 0 0, .slice none 0 0] ((W.alloc (.cells #[.int .i64 0, .bool false, .int .i64 0, .string ⟨#[]⟩, .slice none 0 0, .slice none 0 0] 48)).alloc (.cells #[.int .i64 0, .bool false, .int .i64 0, .string ⟨#[]⟩, .slice none 0 0, .slice none 0 0] 48)) := BX.start h.lt (RTo.refl _ _)
  have d0 := h.below hb
  have hzz := hz (W.alloc (.cells #[.int .i64 0, .bool false, .int .i64 0, .string ⟨#[]⟩, .slice none 0 0, .slice none 0 0] 48))
  simp only [World.size_alloc] at h0 hzz
  have d1 := h0.setD d0 0 (.int .i64 1)
  obtain ⟨p, c, q1, q2⟩ := d0.box
  obtain ⟨p1, c1, p', c', k1, k2, k3, k4, k5⟩ := d1.rest (k := 1) hlen
  have hqB : q ≠ W.heap.size + 1 := by have := h0.lo; have := h0.ql; omega
  have q3 : (((W.alloc (.cells #[.int .i64 0, .bool false, .int .i64 0, .string ⟨#[]⟩, .slice none 0 0, .slice none 0 0] 48)).alloc (.cells #[.int .i64 0, .bool false, .int .i64 0, .string ⟨#[]⟩, .slice none 0 0, .slice none 0 0] 48)).setCell ⟨W.heap.size + 1, 0, none⟩ (.int .i64 1)).heap[q]? = some (.cells #[.slice p l.length c, .bool false] 40 (0, 0)) := (Below.heap_setCell _ ⟨W.heap.size + 1, 0, none⟩ _ q hqB).trans q1
  rw [q3] at k1
  cases k1
  have zl := Kdi q2
  have r0 := Kab (o := 0) q1 rfl
  have r1 := Kab (o := 1) q1 rfl
  have b0 := Kab (o := 0) h0.p3 rfl
  have hst0 := Kcv b0 (Kar (o := 0) h0.p3) (n := 1)
  obtain ⟨bb, oo, rfl, hbyte⟩ := Kc9 q2 hlen
  have hbyw : ((W.alloc (.cells #[.int .i64 0, .bool false, .int .i64 0, .string ⟨#[]⟩, .slice none 0 0, .slice none 0 0] 48)).alloc (.cells #[.int .i64 0, .bool false, .int .i64 0, .string ⟨#[]⟩, .slice none 0 0, .slice none 0 0] 48)).cell? ⟨bb, oo, none⟩ = some (.int .u8 1) := by rw [hc0] at hbyte; exact Kam d0.b (ltOf hbyte) hbyte
  clear hbyte
  have r01 := Kab (o := 0) q3 rfl
  have hst1 := Ka4 (p := p') (n := l.length - 1) (c := c') r01 (Kar (o := 0) q3)
  have hx1 : BX 48 W q #[.int .i64 0, .bool false, .int .i64 0, .string ⟨#[]⟩, .slice none 0 0, .slice none 0 0] (W.heap.size + 1) #[.int .i64 1, .bool false, .int .i64 0, .string ⟨#[]⟩, .slice none 0 0, .slice none 0 0] (((W.alloc (.cells #[.int .i64 0, .bool false, .int .i64 0, .string ⟨#[]⟩, .slice none 0 0, .slice none 0 0] 48)).alloc (.cells #[.int .i64 0, .bool false, .int .i64 0, .string ⟨#[]⟩, .slice none 0 0, .slice none 0 0] 48)).setCell ⟨W.heap.size + 1, 0, none⟩ (.int .i64 1)) := by simpa using h0.set 0 (.int .i64 1)
  have hx2 := hx1.step k5
  have b02 := Kab (o := 0) hx2.p3 rfl
  have hsl := fun W' => (Kap Tryz.underlying26 _ _ _ _ W').trans (k3 W')
  have HZ := Lib.hid hzz
  have HST0 := Lib.hid hst0
  have HST1 := Lib.hid hst1
  have HSL := Lib.hid hsl
  have HX2 := Lib.hid hx2
  have HD2 := Lib.hid k4
  clear h hz hb h0 d0 hzz d1 q1 q2 k2 k3 k4 k5 q3 hqB hst0 hst1 hx1 hx2 hsl
  rw [if_neg (by decide), if_pos rfl]
  have hN := dnum_any HD2.out
  generalize docN (l.drop 1, false) = r at *
  obtain ⟨n, l3, b3⟩ := r
  have HN := Lib.hid hN
  clear hN h4 h5
  have hn3 : n = 0 ∨ n = 1 ∨ 2 ≤ n := by omega
  cases b3 <;> rcases hn3 with rfl | rfl | hn2
  ·go_enter Tryz.func24, Tryz.ntmps24
   go_wp2_with (first
    | ((with_reducible apply Kac); exact HZ.out; exact rfl; exact rfl; clear HZ)
    | ((with_reducible apply Kac); exact HST0.out; exact rfl; exact rfl; clear HST0; generalize hW1 : World.setCell _ _ _ = W1 at *; clear hW1)
    | ((with_reducible apply Kbb); exact HSL.out _; exact rfl; exact rfl; exact rfl; exact rfl; clear HSL)
    | ((with_reducible apply Kac); exact HST1.out; exact rfl; exact rfl; clear HST1; generalize hW2 : World.setCell _ _ _ = W2 at *; clear hW2)
    | (go_at_call 60
       (
        refine HN.out.mono ?_
        rintro e W3 ⟨v3, rfl, rfl, hD, hT⟩
        replace hD : DSt 40 w W3 q l3 false := hD
        have hx3 := HX2.out.step hT
        have hx4 := hx3.set 1 (.bool false)
        simp only [List.setIfInBounds_toArray, List.set_cons_zero, List.set_cons_succ] at hx4
        have HSP := Lib.hid (Kcs (n := false) (Kab (o := 1) hx3.p3 rfl) (Kar (o := 1) hx3.p3))
        have hD4 := hx3.setD hD 1 (.bool false)
        obtain ⟨pz, cz, m1, m2⟩ := hD4.box
        have r5 := Kab (o := 1) m1 rfl
        have HSQ := Lib.hid (Kcs (n := false) r5 (Kar (o := 1) m1))
        have hD5 := hD4.set false
        have hx5 := hx4.step hD5.2
        have g1 := vfin (v := (V.mk 1 false 0 [] [] [])) hx5 hD5.1 (Kbl _ _ _ _ _ _)
        have HL5 := Lib.hid g1.1
        have HS4 := Lib.hid g1.2.1
        have HLD := Lib.hid g1.2.2.1
        have HF := Lib.hid (g1.2.2.2)
        clear g1
        clear hD hT hx3 hx4 hx5 hD4 hD5 m1 m2))
    | ((with_reducible apply Kac); exact HSP.out; exact rfl; exact rfl; clear HSP; generalize hW4 : World.setCell _ _ _ = W4 at *; clear hW4)
    | ((with_reducible apply Kac); exact HSQ.out; exact rfl; exact rfl; clear HSQ)
    | ((with_reducible apply Kal); exact HL5.out; exact rfl)
    | ((with_reducible apply Kac); exact HS4.out; exact rfl; exact rfl))
   refine bodyPost_ret (Kak rfl _ _ ⟨W.heap.size, 0, none⟩ _ rfl HLD.out) rfl ?_
   exact HF.out _ (by simp; try omega)
  ·go_enter Tryz.func24, Tryz.ntmps24
   go_wp2_with (first
    | ((with_reducible apply Kac); exact HZ.out; exact rfl; exact rfl; clear HZ)
    | ((with_reducible apply Kac); exact HST0.out; exact rfl; exact rfl; clear HST0; generalize hW1 : World.setCell _ _ _ = W1 at *; clear hW1)
    | ((with_reducible apply Kbb); exact HSL.out _; exact rfl; exact rfl; exact rfl; exact rfl; clear HSL)
    | ((with_reducible apply Kac); exact HST1.out; exact rfl; exact rfl; clear HST1; generalize hW2 : World.setCell _ _ _ = W2 at *; clear hW2)
    | (go_at_call 60
       (
        refine HN.out.mono ?_
        rintro e W3 ⟨v3, rfl, rfl, hD, hT⟩
        replace hD : DSt 40 w W3 q l3 false := hD
        have hx3 := HX2.out.step hT
        have hx4 := hx3.set 1 (.bool true)
        simp only [List.setIfInBounds_toArray, List.set_cons_zero, List.set_cons_succ] at hx4
        have HSP := Lib.hid (Kcs (n := true) (Kab (o := 1) hx3.p3 rfl) (Kar (o := 1) hx3.p3))
        have hD4 := hx3.setD hD 1 (.bool true)
        obtain ⟨pz, cz, m1, m2⟩ := hD4.box
        have r5 := Kab (o := 1) m1 rfl
        have HSQ := Lib.hid (Kcs (n := false) r5 (Kar (o := 1) m1))
        have hD5 := hD4.set false
        have hx5 := hx4.step hD5.2
        have g1 := vfin (v := (V.mk 1 true 0 [] [] [])) hx5 hD5.1 (Kbl _ _ _ _ _ _)
        have HL5 := Lib.hid g1.1
        have HS4 := Lib.hid g1.2.1
        have HLD := Lib.hid g1.2.2.1
        have HF := Lib.hid (g1.2.2.2)
        clear g1
        clear hD hT hx3 hx4 hx5 hD4 hD5 m1 m2))
    | ((with_reducible apply Kac); exact HSP.out; exact rfl; exact rfl; clear HSP; generalize hW4 : World.setCell _ _ _ = W4 at *; clear hW4)
    | ((with_reducible apply Kac); exact HSQ.out; exact rfl; exact rfl; clear HSQ)
    | ((with_reducible apply Kal); exact HL5.out; exact rfl)
    | ((with_reducible apply Kac); exact HS4.out; exact rfl; exact rfl))
   refine bodyPost_ret (Kak rfl _ _ ⟨W.heap.size, 0, none⟩ _ rfl HLD.out) rfl ?_
   exact HF.out _ (by simp; try omega)
  ·have n1 : ((n : Int) == 1) = false := by rw [beq_eq_false_iff_ne]; omega
   have n2 : (1 : Int) < (n : Int) := by omega
   have n3 : (n == 1) = false := by rw [beq_eq_false_iff_ne]; omega
   have n4 : decide (1 < n) = true := decide_eq_true (by omega)
   clear hn2
   go_enter Tryz.func24, Tryz.ntmps24
   go_wp2_with (first
    | ((with_reducible apply Kac); exact HZ.out; exact rfl; exact rfl; clear HZ)
    | ((with_reducible apply Kac); exact HST0.out; exact rfl; exact rfl; clear HST0; generalize hW1 : World.setCell _ _ _ = W1 at *; clear hW1)
    | ((with_reducible apply Kbb); exact HSL.out _; exact rfl; exact rfl; exact rfl; exact rfl; clear HSL)
    | ((with_reducible apply Kac); exact HST1.out; exact rfl; exact rfl; clear HST1; generalize hW2 : World.setCell _ _ _ = W2 at *; clear hW2)
    | (go_at_call 60
       (
        refine HN.out.mono ?_
        rintro e W3 ⟨v3, rfl, rfl, hD, hT⟩
        replace hD : DSt 40 w W3 q l3 false := hD
        have hx3 := HX2.out.step hT
        have hx4 := hx3.set 1 (.bool false)
        simp only [List.setIfInBounds_toArray, List.set_cons_zero, List.set_cons_succ] at hx4
        have HSP := Lib.hid (Kcs (n := false) (Kab (o := 1) hx3.p3 rfl) (Kar (o := 1) hx3.p3))
        have hD4 := hx3.setD hD 1 (.bool false)
        obtain ⟨pz, cz, m1, m2⟩ := hD4.box
        have r5 := Kab (o := 1) m1 rfl
        have HSQ := Lib.hid (Kcs (n := true) r5 (Kar (o := 1) m1))
        have hD5 := hD4.set true
        have hx5 := hx4.step hD5.2
        have g1 := vfin (v := (V.mk 1 false 0 [] [] [])) hx5 hD5.1 (Kbl _ _ _ _ _ _)
        have HL5 := Lib.hid g1.1
        have HS4 := Lib.hid g1.2.1
        have HLD := Lib.hid g1.2.2.1
        have HF := Lib.hid (g1.2.2.2)
        clear g1
        clear hD hT hx3 hx4 hx5 hD4 hD5 m1 m2))
    | ((with_reducible apply Kac); exact HSP.out; exact rfl; exact rfl; clear HSP; generalize hW4 : World.setCell _ _ _ = W4 at *; clear hW4)
    | ((with_reducible apply Kac); exact HSQ.out; exact rfl; exact rfl; clear HSQ)
    | ((with_reducible apply Kal); exact HL5.out; exact rfl)
    | ((with_reducible apply Kac); exact HS4.out; exact rfl; exact rfl))
   refine bodyPost_ret (Kak rfl _ _ ⟨W.heap.size, 0, none⟩ _ rfl HLD.out) rfl ?_
   exact HF.out _ (by simp; try omega)
  ·go_enter Tryz.func24, Tryz.ntmps24
   go_wp2_with (first
    | ((with_reducible apply Kac); exact HZ.out; exact rfl; exact rfl; clear HZ)
    | ((with_reducible apply Kac); exact HST0.out; exact rfl; exact rfl; clear HST0; generalize hW1 : World.setCell _ _ _ = W1 at *; clear hW1)
    | ((with_reducible apply Kbb); exact HSL.out _; exact rfl; exact rfl; exact rfl; exact rfl; clear HSL)
    | ((with_reducible apply Kac); exact HST1.out; exact rfl; exact rfl; clear HST1; generalize hW2 : World.setCell _ _ _ = W2 at *; clear hW2)
    | (go_at_call 60
       (
        refine HN.out.mono ?_
        rintro e W3 ⟨v3, rfl, rfl, hD, hT⟩
        replace hD : DSt 40 w W3 q l3 true := hD
        have hx3 := HX2.out.step hT
        have hx4 := hx3.set 1 (.bool false)
        simp only [List.setIfInBounds_toArray, List.set_cons_zero, List.set_cons_succ] at hx4
        have HSP := Lib.hid (Kcs (n := false) (Kab (o := 1) hx3.p3 rfl) (Kar (o := 1) hx3.p3))
        have hD4 := hx3.setD hD 1 (.bool false)
        obtain ⟨pz, cz, m1, m2⟩ := hD4.box
        have r5 := Kab (o := 1) m1 rfl
        have HSQ := Lib.hid (Kcs (n := true) r5 (Kar (o := 1) m1))
        have hD5 := hD4.set true
        have hx5 := hx4.step hD5.2
        have g1 := vfin (v := (V.mk 1 false 0 [] [] [])) hx5 hD5.1 (Kbl _ _ _ _ _ _)
        have HL5 := Lib.hid g1.1
        have HS4 := Lib.hid g1.2.1
        have HLD := Lib.hid g1.2.2.1
        have HF := Lib.hid (g1.2.2.2)
        clear g1
        clear hD hT hx3 hx4 hx5 hD4 hD5 m1 m2))
    | ((with_reducible apply Kac); exact HSP.out; exact rfl; exact rfl; clear HSP; generalize hW4 : World.setCell _ _ _ = W4 at *; clear hW4)
    | ((with_reducible apply Kac); exact HSQ.out; exact rfl; exact rfl; clear HSQ)
    | ((with_reducible apply Kal); exact HL5.out; exact rfl)
    | ((with_reducible apply Kac); exact HS4.out; exact rfl; exact rfl))
   refine bodyPost_ret (Kak rfl _ _ ⟨W.heap.size, 0, none⟩ _ rfl HLD.out) rfl ?_
   exact HF.out _ (by simp; try omega)
  ·go_enter Tryz.func24, Tryz.ntmps24
   go_wp2_with (first
    | ((with_reducible apply Kac); exact HZ.out; exact rfl; exact rfl; clear HZ)
    | ((with_reducible apply Kac); exact HST0.out; exact rfl; exact rfl; clear HST0; generalize hW1 : World.setCell _ _ _ = W1 at *; clear hW1)
    | ((with_reducible apply Kbb); exact HSL.out _; exact rfl; exact rfl; exact rfl; exact rfl; clear HSL)
    | ((with_reducible apply Kac); exact HST1.out; exact rfl; exact rfl; clear HST1; generalize hW2 : World.setCell _ _ _ = W2 at *; clear hW2)
    | (go_at_call 60
       (
        refine HN.out.mono ?_
        rintro e W3 ⟨v3, rfl, rfl, hD, hT⟩
        replace hD : DSt 40 w W3 q l3 true := hD
        have hx3 := HX2.out.step hT
        have hx4 := hx3.set 1 (.bool true)
        simp only [List.setIfInBounds_toArray, List.set_cons_zero, List.set_cons_succ] at hx4
        have HSP := Lib.hid (Kcs (n := true) (Kab (o := 1) hx3.p3 rfl) (Kar (o := 1) hx3.p3))
        have hD4 := hx3.setD hD 1 (.bool true)
        obtain ⟨pz, cz, m1, m2⟩ := hD4.box
        have r5 := Kab (o := 1) m1 rfl
        have HSQ := Lib.hid (Kcs (n := true) r5 (Kar (o := 1) m1))
        have hD5 := hD4.set true
        have hx5 := hx4.step hD5.2
        have g1 := vfin (v := (V.mk 1 true 0 [] [] [])) hx5 hD5.1 (Kbl _ _ _ _ _ _)
        have HL5 := Lib.hid g1.1
        have HS4 := Lib.hid g1.2.1
        have HLD := Lib.hid g1.2.2.1
        have HF := Lib.hid (g1.2.2.2)
        clear g1
        clear hD hT hx3 hx4 hx5 hD4 hD5 m1 m2))
    | ((with_reducible apply Kac); exact HSP.out; exact rfl; exact rfl; clear HSP; generalize hW4 : World.setCell _ _ _ = W4 at *; clear hW4)
    | ((with_reducible apply Kac); exact HSQ.out; exact rfl; exact rfl; clear HSQ)
    | ((with_reducible apply Kal); exact HL5.out; exact rfl)
    | ((with_reducible apply Kac); exact HS4.out; exact rfl; exact rfl))
   refine bodyPost_ret (Kak rfl _ _ ⟨W.heap.size, 0, none⟩ _ rfl HLD.out) rfl ?_
   exact HF.out _ (by simp; try omega)
  ·have n1 : ((n : Int) == 1) = false := by rw [beq_eq_false_iff_ne]; omega
   have n2 : (1 : Int) < (n : Int) := by omega
   have n3 : (n == 1) = false := by rw [beq_eq_false_iff_ne]; omega
   have n4 : decide (1 < n) = true := decide_eq_true (by omega)
   clear hn2
   go_enter Tryz.func24, Tryz.ntmps24
   go_wp2_with (first
    | ((with_reducible apply Kac); exact HZ.out; exact rfl; exact rfl; clear HZ)
    | ((with_reducible apply Kac); exact HST0.out; exact rfl; exact rfl; clear HST0; generalize hW1 : World.setCell _ _ _ = W1 at *; clear hW1)
    | ((with_reducible apply Kbb); exact HSL.out _; exact rfl; exact rfl; exact rfl; exact rfl; clear HSL)
    | ((with_reducible apply Kac); exact HST1.out; exact rfl; exact rfl; clear HST1; generalize hW2 : World.setCell _ _ _ = W2 at *; clear hW2)
    | (go_at_call 60
       (
        refine HN.out.mono ?_
        rintro e W3 ⟨v3, rfl, rfl, hD, hT⟩
        replace hD : DSt 40 w W3 q l3 true := hD
        have hx3 := HX2.out.step hT
        have hx4 := hx3.set 1 (.bool false)
        simp only [List.setIfInBounds_toArray, List.set_cons_zero, List.set_cons_succ] at hx4
        have HSP := Lib.hid (Kcs (n := false) (Kab (o := 1) hx3.p3 rfl) (Kar (o := 1) hx3.p3))
        have hD4 := hx3.setD hD 1 (.bool false)
        obtain ⟨pz, cz, m1, m2⟩ := hD4.box
        have r5 := Kab (o := 1) m1 rfl
        have HSQ := Lib.hid (Kcs (n := true) r5 (Kar (o := 1) m1))
        have hD5 := hD4.set true
        have hx5 := hx4.step hD5.2
        have g1 := vfin (v := (V.mk 1 false 0 [] [] [])) hx5 hD5.1 (Kbl _ _ _ _ _ _)
        have HL5 := Lib.hid g1.1
        have HS4 := Lib.hid g1.2.1
        have HLD := Lib.hid g1.2.2.1
        have HF := Lib.hid (g1.2.2.2)
        clear g1
        clear hD hT hx3 hx4 hx5 hD4 hD5 m1 m2))
    | ((with_reducible apply Kac); exact HSP.out; exact rfl; exact rfl; clear HSP; generalize hW4 : World.setCell _ _ _ = W4 at *; clear hW4)
    | ((with_reducible apply Kac); exact HSQ.out; exact rfl; exact rfl; clear HSQ)
    | ((with_reducible apply Kal); exact HL5.out; exact rfl)
    | ((with_reducible apply Kac); exact HS4.out; exact rfl; exact rfl))
   refine bodyPost_ret (Kak rfl _ _ ⟨W.heap.size, 0, none⟩ _ rfl HLD.out) rfl ?_
   exact HF.out _ (by simp; try omega)
 ·have hz : ∀ (X : World), (storeVar 48 ⟨X.heap.size, 0, none⟩ (.agg #[.int .i64 0, .bool false, .int .i64 0, .string ⟨#[]⟩, .slice none 0 0, .slice none 0 0])).run Tryz.prog (X.alloc (.cells #[.int .i64 0, .bool false, .int .i64 0, .string ⟨#[]⟩, .slice none 0 0, .slice none 0 0] 48)) = .ok () (X.alloc (.cells #[.int .i64 0, .bool false, .int .i64 0, .string ⟨#[]⟩, .slice none 0 0, .slice none 0 0] 48)) := fun X => Ka0.fresh rfl (by simp [Value.oneCell']) _ rfl
  have hb : Below W.heap.size W ((W.alloc (.cells #[.int .i64 0, .bool false, .int .i64 0, .string ⟨#[]⟩, .slice none 0 0, .slice none 0 0] 48)).alloc (.cells #[.int .i64 0, .bool false, .int .i64 0, .string ⟨#[]⟩, .slice none 0 0, .slice none 0 0] 48)) := (Kae _).alloc (by simp) _
  have h0 : BX 48 W q #[.int .i64 0, .bool false, .int .i64 0, .string ⟨#[]⟩, .slice none 0 0, .slice none 0 0] (W.alloc (.cells #[.int .i64 0, .bool false, .int .i64 0, .string ⟨#[]⟩, .slice none 0 0, .slice none 0 0] 48)).heap.size #[.int .i64 0, .bool false, .int .i64 0, .string ⟨#[]⟩, .slice none 0 0, .slice none 0 0] ((W.alloc (.cells #[.int .i64 0, .bool false, .int .i64 0, .string ⟨#[]⟩, .slice none 0 0, .slice none 0 0] 48)).alloc (.cells #[.int .i64 0, .bool false, .int .i64 0, .string ⟨#[]⟩, .slice none 0 0, .slice none 0 0] 48)) := BX.start h.lt (RTo.refl _ _)
  have d0 := h.below hb
  have hzz := hz (W.alloc (.cells #[.int .i64 0, .bool false, .int .i64 0, .string ⟨#[]⟩, .slice none 0 0, .slice none 0 0] 48))
  simp only [World.size_alloc] at h0 hzz
  have d1 := h0.setD d0 0 (.int .i64 2)
  obtain ⟨p, c, q1, q2⟩ := d0.box
  obtain ⟨p1, c1, p', c', k1, k2, k3, k4, k5⟩ := d1.rest (k := 1) hlen
  have hqB : q ≠ W.heap.size + 1 := by have := h0.lo; have := h0.ql; omega
  have q3 : (((W.alloc (.cells #[.int .i64 0, .bool false, .int .i64 0, .string ⟨#[]⟩, .slice none 0 0, .slice none 0 0] 48)).alloc (.cells #[.int .i64 0, .bool false, .int .i64 0, .string ⟨#[]⟩, .slice none 0 0, .slice none 0 0] 48)).setCell ⟨W.heap.size + 1, 0, none⟩ (.int .i64 2)).heap[q]? = some (.cells #[.slice p l.length c, .bool false] 40 (0, 0)) := (Below.heap_setCell _ ⟨W.heap.size + 1, 0, none⟩ _ q hqB).trans q1
  rw [q3] at k1
  cases k1
  have zl := Kdi q2
  have r0 := Kab (o := 0) q1 rfl
  have r1 := Kab (o := 1) q1 rfl
  have b0 := Kab (o := 0) h0.p3 rfl
  have hst0 := Kcv b0 (Kar (o := 0) h0.p3) (n := 2)
  obtain ⟨bb, oo, rfl, hbyte⟩ := Kc9 q2 hlen
  have hbyw : ((W.alloc (.cells #[.int .i64 0, .bool false, .int .i64 0, .string ⟨#[]⟩, .slice none 0 0, .slice none 0 0] 48)).alloc (.cells #[.int .i64 0, .bool false, .int .i64 0, .string ⟨#[]⟩, .slice none 0 0, .slice none 0 0] 48)).cell? ⟨bb, oo, none⟩ = some (.int .u8 2) := by rw [hc0] at hbyte; exact Kam d0.b (ltOf hbyte) hbyte
  clear hbyte
  have r01 := Kab (o := 0) q3 rfl
  have hst1 := Ka4 (p := p') (n := l.length - 1) (c := c') r01 (Kar (o := 0) q3)
  have hx1 : BX 48 W q #[.int .i64 0, .bool false, .int .i64 0, .string ⟨#[]⟩, .slice none 0 0, .slice none 0 0] (W.heap.size + 1) #[.int .i64 2, .bool false, .int .i64 0, .string ⟨#[]⟩, .slice none 0 0, .slice none 0 0] (((W.alloc (.cells #[.int .i64 0, .bool false, .int .i64 0, .string ⟨#[]⟩, .slice none 0 0, .slice none 0 0] 48)).alloc (.cells #[.int .i64 0, .bool false, .int .i64 0, .string ⟨#[]⟩, .slice none 0 0, .slice none 0 0] 48)).setCell ⟨W.heap.size + 1, 0, none⟩ (.int .i64 2)) := by simpa using h0.set 0 (.int .i64 2)
  have hx2 := hx1.step k5
  have b02 := Kab (o := 0) hx2.p3 rfl
  have hsl := fun W' => (Kap Tryz.underlying26 _ _ _ _ W').trans (k3 W')
  have HZ := Lib.hid hzz
  have HST0 := Lib.hid hst0
  have HST1 := Lib.hid hst1
  have HSL := Lib.hid hsl
  have HX2 := Lib.hid hx2
  have HD2 := Lib.hid k4
  clear h hz hb h0 d0 hzz d1 q1 q2 k2 k3 k4 k5 q3 hqB hst0 hst1 hx1 hx2 hsl
  rw [if_neg (by decide)]
  rw [if_neg (by decide)]
  rw [if_pos rfl]
  have hN := dsign_any HD2.out
  generalize Kch (l.drop 1, false) = r at *
  obtain ⟨n, l3, b3⟩ := r
  have HN := Lib.hid hN
  clear hN h4 h5
  go_enter Tryz.func24, Tryz.ntmps24
  go_wp2_with (first
   | ((with_reducible apply Kac); exact HZ.out; exact rfl; exact rfl; clear HZ)
   | ((with_reducible apply Kac); exact HST0.out; exact rfl; exact rfl; clear HST0; generalize hW1 : World.setCell _ _ _ = W1 at *; clear hW1)
   | ((with_reducible apply Kbb); exact HSL.out _; exact rfl; exact rfl; exact rfl; exact rfl; clear HSL)
   | ((with_reducible apply Kac); exact HST1.out; exact rfl; exact rfl; clear HST1; generalize hW2 : World.setCell _ _ _ = W2 at *; clear hW2)
   | (go_at_call 73
      (
       refine HN.out.mono ?_
       rintro e W3 ⟨v3, rfl, rfl, hD, hT⟩
       replace hD : DSt 40 w W3 q l3 b3 := hD
       have hx3 := HX2.out.step hT
       have hx4 := hx3.set 2 (.int .i64 n)
       simp only [List.setIfInBounds_toArray, List.set_cons_zero, List.set_cons_succ] at hx4
       have HSP := Lib.hid (Kd7 (n := n) (Kab (o := 2) hx3.p3 rfl) (Kar (o := 2) hx3.p3))
       have g1 := vfin (v := (V.mk 2 false n [] [] [])) hx4 (hx3.setD hD 2 _) (Kbl _ _ _ _ _ _)
       have HL5 := Lib.hid g1.1
       have HS4 := Lib.hid g1.2.1
       have HLD := Lib.hid g1.2.2.1
       have HF := Lib.hid (g1.2.2.2)
       clear g1
       clear hD hT hx3 hx4))
   | ((with_reducible apply Kbq); exact HCV.out _; exact rfl)
   | ((with_reducible apply Kac); exact HSP.out; exact rfl; exact rfl; clear HSP)
   | ((with_reducible apply Kal); exact HL5.out; exact rfl)
   | ((with_reducible apply Kac); exact HS4.out; exact rfl; exact rfl))
  refine bodyPost_ret (Kak rfl _ _ ⟨W.heap.size, 0, none⟩ _ rfl HLD.out) rfl ?_
  exact HF.out _ (by first | rfl | simp)
 ·have hz : ∀ (X : World), (storeVar 48 ⟨X.heap.size, 0, none⟩ (.agg #[.int .i64 0, .bool false, .int .i64 0, .string ⟨#[]⟩, .slice none 0 0, .slice none 0 0])).run Tryz.prog (X.alloc (.cells #[.int .i64 0, .bool false, .int .i64 0, .string ⟨#[]⟩, .slice none 0 0, .slice none 0 0] 48)) = .ok () (X.alloc (.cells #[.int .i64 0, .bool false, .int .i64 0, .string ⟨#[]⟩, .slice none 0 0, .slice none 0 0] 48)) := fun X => Ka0.fresh rfl (by simp [Value.oneCell']) _ rfl
  have hb : Below W.heap.size W ((W.alloc (.cells #[.int .i64 0, .bool false, .int .i64 0, .string ⟨#[]⟩, .slice none 0 0, .slice none 0 0] 48)).alloc (.cells #[.int .i64 0, .bool false, .int .i64 0, .string ⟨#[]⟩, .slice none 0 0, .slice none 0 0] 48)) := (Kae _).alloc (by simp) _
  have h0 : BX 48 W q #[.int .i64 0, .bool false, .int .i64 0, .string ⟨#[]⟩, .slice none 0 0, .slice none 0 0] (W.alloc (.cells #[.int .i64 0, .bool false, .int .i64 0, .string ⟨#[]⟩, .slice none 0 0, .slice none 0 0] 48)).heap.size #[.int .i64 0, .bool false, .int .i64 0, .string ⟨#[]⟩, .slice none 0 0, .slice none 0 0] ((W.alloc (.cells #[.int .i64 0, .bool false, .int .i64 0, .string ⟨#[]⟩, .slice none 0 0, .slice none 0 0] 48)).alloc (.cells #[.int .i64 0, .bool false, .int .i64 0, .string ⟨#[]⟩, .slice none 0 0, .slice none 0 0] 48)) := BX.start h.lt (RTo.refl _ _)
  have d0 := h.below hb
  have hzz := hz (W.alloc (.cells #[.int .i64 0, .bool false, .int .i64 0, .string ⟨#[]⟩, .slice none 0 0, .slice none 0 0] 48))
  simp only [World.size_alloc] at h0 hzz
  have d1 := h0.setD d0 0 (.int .i64 3)
  obtain ⟨p, c, q1, q2⟩ := d0.box
  obtain ⟨p1, c1, p', c', k1, k2, k3, k4, k5⟩ := d1.rest (k := 1) hlen
  have hqB : q ≠ W.heap.size + 1 := by have := h0.lo; have := h0.ql; omega
  have q3 : (((W.alloc (.cells #[.int .i64 0, .bool false, .int .i64 0, .string ⟨#[]⟩, .slice none 0 0, .slice none 0 0] 48)).alloc (.cells #[.int .i64 0, .bool false, .int .i64 0, .string ⟨#[]⟩, .slice none 0 0, .slice none 0 0] 48)).setCell ⟨W.heap.size + 1, 0, none⟩ (.int .i64 3)).heap[q]? = some (.cells #[.slice p l.length c, .bool false] 40 (0, 0)) := (Below.heap_setCell _ ⟨W.heap.size + 1, 0, none⟩ _ q hqB).trans q1
  rw [q3] at k1
  cases k1
  have zl := Kdi q2
  have r0 := Kab (o := 0) q1 rfl
  have r1 := Kab (o := 1) q1 rfl
  have b0 := Kab (o := 0) h0.p3 rfl
  have hst0 := Kcv b0 (Kar (o := 0) h0.p3) (n := 3)
  obtain ⟨bb, oo, rfl, hbyte⟩ := Kc9 q2 hlen
  have hbyw : ((W.alloc (.cells #[.int .i64 0, .bool false, .int .i64 0, .string ⟨#[]⟩, .slice none 0 0, .slice none 0 0] 48)).alloc (.cells #[.int .i64 0, .bool false, .int .i64 0, .string ⟨#[]⟩, .slice none 0 0, .slice none 0 0] 48)).cell? ⟨bb, oo, none⟩ = some (.int .u8 3) := by rw [hc0] at hbyte; exact Kam d0.b (ltOf hbyte) hbyte
  clear hbyte
  have r01 := Kab (o := 0) q3 rfl
  have hst1 := Ka4 (p := p') (n := l.length - 1) (c := c') r01 (Kar (o := 0) q3)
  have hx1 : BX 48 W q #[.int .i64 0, .bool false, .int .i64 0, .string ⟨#[]⟩, .slice none 0 0, .slice none 0 0] (W.heap.size + 1) #[.int .i64 3, .bool false, .int .i64 0, .string ⟨#[]⟩, .slice none 0 0, .slice none 0 0] (((W.alloc (.cells #[.int .i64 0, .bool false, .int .i64 0, .string ⟨#[]⟩, .slice none 0 0, .slice none 0 0] 48)).alloc (.cells #[.int .i64 0, .bool false, .int .i64 0, .string ⟨#[]⟩, .slice none 0 0, .slice none 0 0] 48)).setCell ⟨W.heap.size + 1, 0, none⟩ (.int .i64 3)) := by simpa using h0.set 0 (.int .i64 3)
  have hx2 := hx1.step k5
  have b02 := Kab (o := 0) hx2.p3 rfl
  have hsl := fun W' => (Kap Tryz.underlying26 _ _ _ _ W').trans (k3 W')
  have HZ := Lib.hid hzz
  have HST0 := Lib.hid hst0
  have HST1 := Lib.hid hst1
  have HSL := Lib.hid hsl
  have HX2 := Lib.hid hx2
  have HD2 := Lib.hid k4
  clear h hz hb h0 d0 hzz d1 q1 q2 k2 k3 k4 k5 q3 hqB hst0 hst1 hx1 hx2 hsl
  rw [if_neg (by decide)]
  rw [if_neg (by decide)]
  rw [if_neg (by decide)]
  rw [if_pos rfl]
  have hN := dtxt_any HD2.out
  generalize Kbi (l.drop 1, false) = r at *
  obtain ⟨n, l3, b3⟩ := r
  have HN := Lib.hid hN
  clear hN h4 h5
  go_enter Tryz.func24, Tryz.ntmps24
  go_wp2_with (first
   | ((with_reducible apply Kac); exact HZ.out; exact rfl; exact rfl; clear HZ)
   | ((with_reducible apply Kac); exact HST0.out; exact rfl; exact rfl; clear HST0; generalize hW1 : World.setCell _ _ _ = W1 at *; clear hW1)
   | ((with_reducible apply Kbb); exact HSL.out _; exact rfl; exact rfl; exact rfl; exact rfl; clear HSL)
   | ((with_reducible apply Kac); exact HST1.out; exact rfl; exact rfl; clear HST1; generalize hW2 : World.setCell _ _ _ = W2 at *; clear hW2)
   | (go_at_call 74
      (
       refine HN.out.mono ?_
       rintro e W3 ⟨v3, rfl, rfl, hD, hT⟩
       replace hD : DSt 40 w W3 q l3 b3 := hD
       have hx3 := HX2.out.step hT
       have hx4 := hx3.set 3 (.string (strB n))
       simp only [List.setIfInBounds_toArray, List.set_cons_zero, List.set_cons_succ] at hx4
       have HSP := Lib.hid (put_str (s := strB n) (Kab (o := 3) hx3.p3 rfl) (Kar (o := 3) hx3.p3))
       have g1 := vfin (v := (V.mk 3 false 0 n [] [])) hx4 (hx3.setD hD 3 _) (Kbl _ _ _ _ _ _)
       have HL5 := Lib.hid g1.1
       have HS4 := Lib.hid g1.2.1
       have HLD := Lib.hid g1.2.2.1
       have HF := Lib.hid (g1.2.2.2)
       clear g1
       clear hD hT hx3 hx4))
   | ((with_reducible apply Kbq); exact HCV.out _; exact rfl)
   | ((with_reducible apply Kac); exact HSP.out; exact rfl; exact rfl; clear HSP)
   | ((with_reducible apply Kal); exact HL5.out; exact rfl)
   | ((with_reducible apply Kac); exact HS4.out; exact rfl; exact rfl))
  refine bodyPost_ret (Kak rfl _ _ ⟨W.heap.size, 0, none⟩ _ rfl HLD.out) rfl ?_
  exact HF.out _ (by first | rfl | simp)
 ·have hz : ∀ (X : World), (storeVar 48 ⟨X.heap.size, 0, none⟩ (.agg #[.int .i64 0, .bool false, .int .i64 0, .string ⟨#[]⟩, .slice none 0 0, .slice none 0 0])).run Tryz.prog (X.alloc (.cells #[.int .i64 0, .bool false, .int .i64 0, .string ⟨#[]⟩, .slice none 0 0, .slice none 0 0] 48)) = .ok () (X.alloc (.cells #[.int .i64 0, .bool false, .int .i64 0, .string ⟨#[]⟩, .slice none 0 0, .slice none 0 0] 48)) := fun X => Ka0.fresh rfl (by simp [Value.oneCell']) _ rfl
  have hb : Below W.heap.size W ((W.alloc (.cells #[.int .i64 0, .bool false, .int .i64 0, .string ⟨#[]⟩, .slice none 0 0, .slice none 0 0] 48)).alloc (.cells #[.int .i64 0, .bool false, .int .i64 0, .string ⟨#[]⟩, .slice none 0 0, .slice none 0 0] 48)) := (Kae _).alloc (by simp) _
  have h0 : BX 48 W q #[.int .i64 0, .bool false, .int .i64 0, .string ⟨#[]⟩, .slice none 0 0, .slice none 0 0] (W.alloc (.cells #[.int .i64 0, .bool false, .int .i64 0, .string ⟨#[]⟩, .slice none 0 0, .slice none 0 0] 48)).heap.size #[.int .i64 0, .bool false, .int .i64 0, .string ⟨#[]⟩, .slice none 0 0, .slice none 0 0] ((W.alloc (.cells #[.int .i64 0, .bool false, .int .i64 0, .string ⟨#[]⟩, .slice none 0 0, .slice none 0 0] 48)).alloc (.cells #[.int .i64 0, .bool false, .int .i64 0, .string ⟨#[]⟩, .slice none 0 0, .slice none 0 0] 48)) := BX.start h.lt (RTo.refl _ _)
  have d0 := h.below hb
  have hzz := hz (W.alloc (.cells #[.int .i64 0, .bool false, .int .i64 0, .string ⟨#[]⟩, .slice none 0 0, .slice none 0 0] 48))
  simp only [World.size_alloc] at h0 hzz
  have d1 := h0.setD d0 0 (.int .i64 6)
  obtain ⟨p, c, q1, q2⟩ := d0.box
  obtain ⟨p1, c1, p', c', k1, k2, k3, k4, k5⟩ := d1.rest (k := 1) hlen
  have hqB : q ≠ W.heap.size + 1 := by have := h0.lo; have := h0.ql; omega
  have q3 : (((W.alloc (.cells #[.int .i64 0, .bool false, .int .i64 0, .string ⟨#[]⟩, .slice none 0 0, .slice none 0 0] 48)).alloc (.cells #[.int .i64 0, .bool false, .int .i64 0, .string ⟨#[]⟩, .slice none 0 0, .slice none 0 0] 48)).setCell ⟨W.heap.size + 1, 0, none⟩ (.int .i64 6)).heap[q]? = some (.cells #[.slice p l.length c, .bool false] 40 (0, 0)) := (Below.heap_setCell _ ⟨W.heap.size + 1, 0, none⟩ _ q hqB).trans q1
  rw [q3] at k1
  cases k1
  have zl := Kdi q2
  have r0 := Kab (o := 0) q1 rfl
  have r1 := Kab (o := 1) q1 rfl
  have b0 := Kab (o := 0) h0.p3 rfl
  have hst0 := Kcv b0 (Kar (o := 0) h0.p3) (n := 6)
  obtain ⟨bb, oo, rfl, hbyte⟩ := Kc9 q2 hlen
  have hbyw : ((W.alloc (.cells #[.int .i64 0, .bool false, .int .i64 0, .string ⟨#[]⟩, .slice none 0 0, .slice none 0 0] 48)).alloc (.cells #[.int .i64 0, .bool false, .int .i64 0, .string ⟨#[]⟩, .slice none 0 0, .slice none 0 0] 48)).cell? ⟨bb, oo, none⟩ = some (.int .u8 6) := by rw [hc0] at hbyte; exact Kam d0.b (ltOf hbyte) hbyte
  clear hbyte
  have r01 := Kab (o := 0) q3 rfl
  have hst1 := Ka4 (p := p') (n := l.length - 1) (c := c') r01 (Kar (o := 0) q3)
  have hx1 : BX 48 W q #[.int .i64 0, .bool false, .int .i64 0, .string ⟨#[]⟩, .slice none 0 0, .slice none 0 0] (W.heap.size + 1) #[.int .i64 6, .bool false, .int .i64 0, .string ⟨#[]⟩, .slice none 0 0, .slice none 0 0] (((W.alloc (.cells #[.int .i64 0, .bool false, .int .i64 0, .string ⟨#[]⟩, .slice none 0 0, .slice none 0 0] 48)).alloc (.cells #[.int .i64 0, .bool false, .int .i64 0, .string ⟨#[]⟩, .slice none 0 0, .slice none 0 0] 48)).setCell ⟨W.heap.size + 1, 0, none⟩ (.int .i64 6)) := by simpa using h0.set 0 (.int .i64 6)
  have hx2 := hx1.step k5
  have b02 := Kab (o := 0) hx2.p3 rfl
  have hsl := fun W' => (Kap Tryz.underlying26 _ _ _ _ W').trans (k3 W')
  have HZ := Lib.hid hzz
  have HST0 := Lib.hid hst0
  have HST1 := Lib.hid hst1
  have HSL := Lib.hid hsl
  have HX2 := Lib.hid hx2
  have HD2 := Lib.hid k4
  clear h hz hb h0 d0 hzz d1 q1 q2 k2 k3 k4 k5 q3 hqB hst0 hst1 hx1 hx2 hsl
  rw [if_neg (by decide)]
  rw [if_neg (by decide)]
  rw [if_neg (by decide)]
  rw [if_neg (by decide)]
  rw [if_neg (by decide)]
  rw [if_neg (by decide)]
  rw [if_pos (by decide)]
  unfold Kdr
  have hnl := Kcz.rng (l.drop 1, false)
  have hN := dnum_any HD2.out
  generalize docN (l.drop 1, false) = r at *
  obtain ⟨n, l3, b3⟩ := r
  have HN := Lib.hid hN
  have hn64 : n < 18446744073709551616 := hnl
  have HCV := Lib.hid (fun W' : World => Kd0 hn64 W')
  clear hnl
  clear hN h4 h5
  go_enter Tryz.func24, Tryz.ntmps24
  go_wp2_with (first
   | ((with_reducible apply Kac); exact HZ.out; exact rfl; exact rfl; clear HZ)
   | ((with_reducible apply Kac); exact HST0.out; exact rfl; exact rfl; clear HST0; generalize hW1 : World.setCell _ _ _ = W1 at *; clear hW1)
   | ((with_reducible apply Kbb); exact HSL.out _; exact rfl; exact rfl; exact rfl; exact rfl; clear HSL)
   | ((with_reducible apply Kac); exact HST1.out; exact rfl; exact rfl; clear HST1; generalize hW2 : World.setCell _ _ _ = W2 at *; clear hW2)
   | (go_at_call 60
      (
       refine HN.out.mono ?_
       rintro e W3 ⟨v3, rfl, rfl, hD, hT⟩
       replace hD : DSt 40 w W3 q l3 b3 := hD
       have hx3 := HX2.out.step hT
       have hx4 := hx3.set 2 (.int .i64 (toI n))
       simp only [List.setIfInBounds_toArray, List.set_cons_zero, List.set_cons_succ] at hx4
       have HSP := Lib.hid (Kd7 (n := toI n) (Kab (o := 2) hx3.p3 rfl) (Kar (o := 2) hx3.p3))
       have g1 := vfin (v := (V.mk 6 false (toI n) [] [] [])) hx4 (hx3.setD hD 2 _) (Kbl _ _ _ _ _ _)
       have HL5 := Lib.hid g1.1
       have HS4 := Lib.hid g1.2.1
       have HLD := Lib.hid g1.2.2.1
       have HF := Lib.hid (g1.2.2.2)
       clear g1
       clear hD hT hx3 hx4))
   | ((with_reducible apply Kbq); exact HCV.out _; exact rfl)
   | ((with_reducible apply Kac); exact HSP.out; exact rfl; exact rfl; clear HSP)
   | ((with_reducible apply Kal); exact HL5.out; exact rfl)
   | ((with_reducible apply Kac); exact HS4.out; exact rfl; exact rfl))
  refine bodyPost_ret (Kak rfl _ _ ⟨W.heap.size, 0, none⟩ _ rfl HLD.out) rfl ?_
  exact HF.out _ (by first | rfl | simp)
 ·have hz : ∀ (X : World), (storeVar 48 ⟨X.heap.size, 0, none⟩ (.agg #[.int .i64 0, .bool false, .int .i64 0, .string ⟨#[]⟩, .slice none 0 0, .slice none 0 0])).run Tryz.prog (X.alloc (.cells #[.int .i64 0, .bool false, .int .i64 0, .string ⟨#[]⟩, .slice none 0 0, .slice none 0 0] 48)) = .ok () (X.alloc (.cells #[.int .i64 0, .bool false, .int .i64 0, .string ⟨#[]⟩, .slice none 0 0, .slice none 0 0] 48)) := fun X => Ka0.fresh rfl (by simp [Value.oneCell']) _ rfl
  have hb : Below W.heap.size W ((W.alloc (.cells #[.int .i64 0, .bool false, .int .i64 0, .string ⟨#[]⟩, .slice none 0 0, .slice none 0 0] 48)).alloc (.cells #[.int .i64 0, .bool false, .int .i64 0, .string ⟨#[]⟩, .slice none 0 0, .slice none 0 0] 48)) := (Kae _).alloc (by simp) _
  have h0 : BX 48 W q #[.int .i64 0, .bool false, .int .i64 0, .string ⟨#[]⟩, .slice none 0 0, .slice none 0 0] (W.alloc (.cells #[.int .i64 0, .bool false, .int .i64 0, .string ⟨#[]⟩, .slice none 0 0, .slice none 0 0] 48)).heap.size #[.int .i64 0, .bool false, .int .i64 0, .string ⟨#[]⟩, .slice none 0 0, .slice none 0 0] ((W.alloc (.cells #[.int .i64 0, .bool false, .int .i64 0, .string ⟨#[]⟩, .slice none 0 0, .slice none 0 0] 48)).alloc (.cells #[.int .i64 0, .bool false, .int .i64 0, .string ⟨#[]⟩, .slice none 0 0, .slice none 0 0] 48)) := BX.start h.lt (RTo.refl _ _)
  have d0 := h.below hb
  have hzz := hz (W.alloc (.cells #[.int .i64 0, .bool false, .int .i64 0, .string ⟨#[]⟩, .slice none 0 0, .slice none 0 0] 48))
  simp only [World.size_alloc] at h0 hzz
  have d1 := h0.setD d0 0 (.int .i64 7)
  obtain ⟨p, c, q1, q2⟩ := d0.box
  obtain ⟨p1, c1, p', c', k1, k2, k3, k4, k5⟩ := d1.rest (k := 1) hlen
  have hqB : q ≠ W.heap.size + 1 := by have := h0.lo; have := h0.ql; omega
  have q3 : (((W.alloc (.cells #[.int .i64 0, .bool false, .int .i64 0, .string ⟨#[]⟩, .slice none 0 0, .slice none 0 0] 48)).alloc (.cells #[.int .i64 0, .bool false, .int .i64 0, .string ⟨#[]⟩, .slice none 0 0, .slice none 0 0] 48)).setCell ⟨W.heap.size + 1, 0, none⟩ (.int .i64 7)).heap[q]? = some (.cells #[.slice p l.length c, .bool false] 40 (0, 0)) := (Below.heap_setCell _ ⟨W.heap.size + 1, 0, none⟩ _ q hqB).trans q1
  rw [q3] at k1
  cases k1
  have zl := Kdi q2
  have r0 := Kab (o := 0) q1 rfl
  have r1 := Kab (o := 1) q1 rfl
  have b0 := Kab (o := 0) h0.p3 rfl
  have hst0 := Kcv b0 (Kar (o := 0) h0.p3) (n := 7)
  obtain ⟨bb, oo, rfl, hbyte⟩ := Kc9 q2 hlen
  have hbyw : ((W.alloc (.cells #[.int .i64 0, .bool false, .int .i64 0, .string ⟨#[]⟩, .slice none 0 0, .slice none 0 0] 48)).alloc (.cells #[.int .i64 0, .bool false, .int .i64 0, .string ⟨#[]⟩, .slice none 0 0, .slice none 0 0] 48)).cell? ⟨bb, oo, none⟩ = some (.int .u8 7) := by rw [hc0] at hbyte; exact Kam d0.b (ltOf hbyte) hbyte
  clear hbyte
  have r01 := Kab (o := 0) q3 rfl
  have hst1 := Ka4 (p := p') (n := l.length - 1) (c := c') r01 (Kar (o := 0) q3)
  have hx1 : BX 48 W q #[.int .i64 0, .bool false, .int .i64 0, .string ⟨#[]⟩, .slice none 0 0, .slice none 0 0] (W.heap.size + 1) #[.int .i64 7, .bool false, .int .i64 0, .string ⟨#[]⟩, .slice none 0 0, .slice none 0 0] (((W.alloc (.cells #[.int .i64 0, .bool false, .int .i64 0, .string ⟨#[]⟩, .slice none 0 0, .slice none 0 0] 48)).alloc (.cells #[.int .i64 0, .bool false, .int .i64 0, .string ⟨#[]⟩, .slice none 0 0, .slice none 0 0] 48)).setCell ⟨W.heap.size + 1, 0, none⟩ (.int .i64 7)) := by simpa using h0.set 0 (.int .i64 7)
  have hx2 := hx1.step k5
  have b02 := Kab (o := 0) hx2.p3 rfl
  have hsl := fun W' => (Kap Tryz.underlying26 _ _ _ _ W').trans (k3 W')
  have HZ := Lib.hid hzz
  have HST0 := Lib.hid hst0
  have HST1 := Lib.hid hst1
  have HSL := Lib.hid hsl
  have HX2 := Lib.hid hx2
  have HD2 := Lib.hid k4
  clear h hz hb h0 d0 hzz d1 q1 q2 k2 k3 k4 k5 q3 hqB hst0 hst1 hx1 hx2 hsl
  rw [if_neg (by decide)]
  rw [if_neg (by decide)]
  rw [if_neg (by decide)]
  rw [if_neg (by decide)]
  rw [if_neg (by decide)]
  rw [if_neg (by decide)]
  rw [if_pos (by decide)]
  unfold Kdr
  have hnl := Kcz.rng (l.drop 1, false)
  have hN := dnum_any HD2.out
  generalize docN (l.drop 1, false) = r at *
  obtain ⟨n, l3, b3⟩ := r
  have HN := Lib.hid hN
  have hn64 : n < 18446744073709551616 := hnl
  have HCV := Lib.hid (fun W' : World => Kd0 hn64 W')
  clear hnl
  clear hN h4 h5
  go_enter Tryz.func24, Tryz.ntmps24
  go_wp2_with (first
   | ((with_reducible apply Kac); exact HZ.out; exact rfl; exact rfl; clear HZ)
   | ((with_reducible apply Kac); exact HST0.out; exact rfl; exact rfl; clear HST0; generalize hW1 : World.setCell _ _ _ = W1 at *; clear hW1)
   | ((with_reducible apply Kbb); exact HSL.out _; exact rfl; exact rfl; exact rfl; exact rfl; clear HSL)
   | ((with_reducible apply Kac); exact HST1.out; exact rfl; exact rfl; clear HST1; generalize hW2 : World.setCell _ _ _ = W2 at *; clear hW2)
   | (go_at_call 60
      (
       refine HN.out.mono ?_
       rintro e W3 ⟨v3, rfl, rfl, hD, hT⟩
       replace hD : DSt 40 w W3 q l3 b3 := hD
       have hx3 := HX2.out.step hT
       have hx4 := hx3.set 2 (.int .i64 (toI n))
       simp only [List.setIfInBounds_toArray, List.set_cons_zero, List.set_cons_succ] at hx4
       have HSP := Lib.hid (Kd7 (n := toI n) (Kab (o := 2) hx3.p3 rfl) (Kar (o := 2) hx3.p3))
       have g1 := vfin (v := (V.mk 7 false (toI n) [] [] [])) hx4 (hx3.setD hD 2 _) (Kbl _ _ _ _ _ _)
       have HL5 := Lib.hid g1.1
       have HS4 := Lib.hid g1.2.1
       have HLD := Lib.hid g1.2.2.1
       have HF := Lib.hid (g1.2.2.2)
       clear g1
       clear hD hT hx3 hx4))
   | ((with_reducible apply Kbq); exact HCV.out _; exact rfl)
   | ((with_reducible apply Kac); exact HSP.out; exact rfl; exact rfl; clear HSP)
   | ((with_reducible apply Kal); exact HL5.out; exact rfl)
   | ((with_reducible apply Kac); exact HS4.out; exact rfl; exact rfl))
  refine bodyPost_ret (Kak rfl _ _ ⟨W.heap.size, 0, none⟩ _ rfl HLD.out) rfl ?_
  exact HF.out _ (by first | rfl | simp)
 ·have hz : ∀ (X : World), (storeVar 48 ⟨X.heap.size, 0, none⟩ (.agg #[.int .i64 0, .bool false, .int .i64 0, .string ⟨#[]⟩, .slice none 0 0, .slice none 0 0])).run Tryz.prog (X.alloc (.cells #[.int .i64 0, .bool false, .int .i64 0, .string ⟨#[]⟩, .slice none 0 0, .slice none 0 0] 48)) = .ok () (X.alloc (.cells #[.int .i64 0, .bool false, .int .i64 0, .string ⟨#[]⟩, .slice none 0 0, .slice none 0 0] 48)) := fun X => Ka0.fresh rfl (by simp [Value.oneCell']) _ rfl
  have hb : Below W.heap.size W ((W.alloc (.cells #[.int .i64 0, .bool false, .int .i64 0, .string ⟨#[]⟩, .slice none 0 0, .slice none 0 0] 48)).alloc (.cells #[.int .i64 0, .bool false, .int .i64 0, .string ⟨#[]⟩, .slice none 0 0, .slice none 0 0] 48)) := (Kae _).alloc (by simp) _
  have h0 : BX 48 W q #[.int .i64 0, .bool false, .int .i64 0, .string ⟨#[]⟩, .slice none 0 0, .slice none 0 0] (W.alloc (.cells #[.int .i64 0, .bool false, .int .i64 0, .string ⟨#[]⟩, .slice none 0 0, .slice none 0 0] 48)).heap.size #[.int .i64 0, .bool false, .int .i64 0, .string ⟨#[]⟩, .slice none 0 0, .slice none 0 0] ((W.alloc (.cells #[.int .i64 0, .bool false, .int .i64 0, .string ⟨#[]⟩, .slice none 0 0, .slice none 0 0] 48)).alloc (.cells #[.int .i64 0, .bool false, .int .i64 0, .string ⟨#[]⟩, .slice none 0 0, .slice none 0 0] 48)) := BX.start h.lt (RTo.refl _ _)
  have d0 := h.below hb
  have hzz := hz (W.alloc (.cells #[.int .i64 0, .bool false, .int .i64 0, .string ⟨#[]⟩, .slice none 0 0, .slice none 0 0] 48))
  simp only [World.size_alloc] at h0 hzz
  have d1 := h0.setD d0 0 (.int .i64 (c0 : Int))
  obtain ⟨p, c, q1, q2⟩ := d0.box
  obtain ⟨p1, c1, p', c', k1, k2, k3, k4, k5⟩ := d1.rest (k := 1) hlen
  have hqB : q ≠ W.heap.size + 1 := by have := h0.lo; have := h0.ql; omega
  have q3 : (((W.alloc (.cells #[.int .i64 0, .bool false, .int .i64 0, .string ⟨#[]⟩, .slice none 0 0, .slice none 0 0] 48)).alloc (.cells #[.int .i64 0, .bool false, .int .i64 0, .string ⟨#[]⟩, .slice none 0 0, .slice none 0 0] 48)).setCell ⟨W.heap.size + 1, 0, none⟩ (.int .i64 (c0 : Int))).heap[q]? = some (.cells #[.slice p l.length c, .bool false] 40 (0, 0)) := (Below.heap_setCell _ ⟨W.heap.size + 1, 0, none⟩ _ q hqB).trans q1
  rw [q3] at k1
  cases k1
  have zl := Kdi q2
  have r0 := Kab (o := 0) q1 rfl
  have r1 := Kab (o := 1) q1 rfl
  have b0 := Kab (o := 0) h0.p3 rfl
  have hst0 := Kcv b0 (Kar (o := 0) h0.p3) (n := (c0 : Int))
  obtain ⟨bb, oo, rfl, hbyte⟩ := Kc9 q2 hlen
  have hbyw : ((W.alloc (.cells #[.int .i64 0, .bool false, .int .i64 0, .string ⟨#[]⟩, .slice none 0 0, .slice none 0 0] 48)).alloc (.cells #[.int .i64 0, .bool false, .int .i64 0, .string ⟨#[]⟩, .slice none 0 0, .slice none 0 0] 48)).cell? ⟨bb, oo, none⟩ = some (.int .u8 (c0 : Int)) := by rw [hc0] at hbyte; exact Kam d0.b (ltOf hbyte) hbyte
  clear hbyte
  have r01 := Kab (o := 0) q3 rfl
  have hst1 := Ka4 (p := p') (n := l.length - 1) (c := c') r01 (Kar (o := 0) q3)
  have hx1 : BX 48 W q #[.int .i64 0, .bool false, .int .i64 0, .string ⟨#[]⟩, .slice none 0 0, .slice none 0 0] (W.heap.size + 1) #[.int .i64 (c0 : Int), .bool false, .int .i64 0, .string ⟨#[]⟩, .slice none 0 0, .slice none 0 0] (((W.alloc (.cells #[.int .i64 0, .bool false, .int .i64 0, .string ⟨#[]⟩, .slice none 0 0, .slice none 0 0] 48)).alloc (.cells #[.int .i64 0, .bool false, .int .i64 0, .string ⟨#[]⟩, .slice none 0 0, .slice none 0 0] 48)).setCell ⟨W.heap.size + 1, 0, none⟩ (.int .i64 (c0 : Int))) := by simpa using h0.set 0 (.int .i64 (c0 : Int))
  have hx2 := hx1.step k5
  have b02 := Kab (o := 0) hx2.p3 rfl
  have hsl := fun W' => (Kap Tryz.underlying26 _ _ _ _ W').trans (k3 W')
  have HZ := Lib.hid hzz
  have HST0 := Lib.hid hst0
  have HST1 := Lib.hid hst1
  have HSL := Lib.hid hsl
  have HX2 := Lib.hid hx2
  have HD2 := Lib.hid k4
  clear h hz hb h0 d0 hzz d1 q1 q2 k2 k3 k4 k5 q3 hqB hst0 hst1 hx1 hx2 hsl
  rw [if_neg (by omega), if_neg (by omega), if_neg (by omega), if_neg (by omega), if_neg (by omega), if_neg (by omega), if_neg (by omega)]
  have f0 : ((c0 : Int) == 0) = false := by rw [beq_eq_false_iff_ne]; omega
  have f1 : ((c0 : Int) == 1) = false := by rw [beq_eq_false_iff_ne]; omega
  have f2 : ((c0 : Int) == 2) = false := by rw [beq_eq_false_iff_ne]; omega
  have f3 : ((c0 : Int) == 3) = false := by rw [beq_eq_false_iff_ne]; omega
  have f4 : ((c0 : Int) == 4) = false := by rw [beq_eq_false_iff_ne]; omega
  have f5 : ((c0 : Int) == 5) = false := by rw [beq_eq_false_iff_ne]; omega
  have f6 : ((c0 : Int) == 6) = false := by rw [beq_eq_false_iff_ne]; omega
  have f7 : ((c0 : Int) == 7) = false := by rw [beq_eq_false_iff_ne]; omega
  have hc256 : (c0 : Int) < 256 := by omega
  have hw1 : IntKind.i64.wrap (c0 : Int) = (c0 : Int) := by simp only [IntKind.wrap, IntKind.signed, IntKind.bits]; simp; omega
  have hw2 : wrap64 (c0 : Int) = (c0 : Int) := by unfold wrap64; omega
  clear h4 h5 hc8 hcl
  obtain ⟨pz, cz, m1, m2⟩ := HD2.out.box
  have r5 := Kab (o := 1) m1 rfl
  have HSQ := Lib.hid (Kcs (n := true) r5 (Kar (o := 1) m1))
  have hD5 := HD2.out.set true
  have hx5 := HX2.out.step hD5.2
  have g1 := vfin (v := (V.mk (c0 : Int) false 0 [] [] [])) hx5 hD5.1 (Kbl _ _ _ _ _ _)
  have HL5 := Lib.hid g1.1
  have HS4 := Lib.hid g1.2.1
  have HLD := Lib.hid g1.2.2.1
  have HF := Lib.hid (g1.2.2.2)
  clear g1
  clear hD5 hx5 m1 m2
  go_enter Tryz.func24, Tryz.ntmps24
  go_wp2_with (first
   | ((with_reducible apply Kac); exact HZ.out; exact rfl; exact rfl; clear HZ)
   | ((with_reducible apply Kac); exact HST0.out; exact rfl; exact rfl; clear HST0; generalize hW1 : World.setCell _ _ _ = W1 at *; clear hW1)
   | ((with_reducible apply Kbb); exact HSL.out _; exact rfl; exact rfl; exact rfl; exact rfl; clear HSL)
   | ((with_reducible apply Kac); exact HST1.out; exact rfl; exact rfl; clear HST1; generalize hW2 : World.setCell _ _ _ = W2 at *; clear hW2)
   | ((with_reducible apply Kac); exact HSQ.out; exact rfl; exact rfl; clear HSQ)
   | ((with_reducible apply Kal); exact HL5.out; exact rfl)
   | ((with_reducible apply Kac); exact HS4.out; exact rfl; exact rfl))
  refine bodyPost_ret (Kak rfl _ _ ⟨W.heap.size, 0, none⟩ _ rfl HLD.out) rfl ?_
  exact HF.out _ (by first | rfl | simp)
end Go.Proofs.YthdfedfholmbmaaGreatDoor

namespace Go.Proofs.YthdfedfholmbmaaGreatDoor
open Go.RowKit
theorem own_list {W : World} {n B : Nat} {ov : Value} {ls : List V} (hB : B < n) (h : GIn VOwn 48 6 (fun b => n ≤ b) W ov ls) : VOwn W (fun b => B < b) (.mk 4 false 0 [] [] ls) #[.int .i64 4, .bool false, .int .i64 0, .string ⟨#[]⟩, .slice none 0 0, ov] := by
 have h1 : GOwn (fun w P (a : V) x => VOwn w P (id a) x) 48 6 W (fun b => B < b) ov ls := (h.own Kcu).imp Kcu fun b _ hb => by omega
 have h2 := h1.low
 rw [List.map_id] at h2
 exact VOwn.mk' (v := .mk 4 false 0 [] [] ls) ⟨⟨by simp [V.keys], .inl ⟨rfl, rfl⟩⟩, fun g hg => by simp [Value.ownBlock] at hg⟩ h2
theorem dval_list {w W : World} {q d : Nat} {l : List UInt8} (hv : DValR w d) (h : DSt 40 w W q l false) (hd : d + 1 ≤ 64) (hll : l.length ≤ 1000000) (hlen : 0 < l.length) (hc0 : (l[0]).toNat = 4) : Calls Tryz.prog 24 #[.pointer (some ⟨q, 0, none⟩), .int .i64 ((d + 1 : Nat) : Int)] W (Docs w W q (Ka1 (d + 1) (l, false)) (okVal W)) := by
 have hlp : ((l.length : Int) == 0) = false := by rw [beq_eq_false_iff_ne]; omega
 have hdp : ¬ ((d + 1 : Nat) : Int) ≤ 0 := by omega
 have hdb : decide (((d + 1 : Nat) : Int) ≤ 0) = false := decide_eq_false hdp
 have hdm : ((d + 1 : Nat) : Int) - 1 = (d : Int) := by omega
 have hds : d ≤ 64 := by omega
 rw [docVal_cons hlen, if_neg (by rw [hc0]; decide), if_neg (by rw [hc0]; decide), if_neg (by rw [hc0]; decide), if_neg (by rw [hc0]; decide), if_pos hc0]
 have HV := Lib.hid hv
 clear hv
 generalize hdd : ((d + 1 : Nat) : Int) = di at *
 clear hdd hd
 have hz : ∀ (X : World), (storeVar 48 ⟨X.heap.size, 0, none⟩ (.agg #[.int .i64 0, .bool false, .int .i64 0, .string ⟨#[]⟩, .slice none 0 0, .slice none 0 0])).run Tryz.prog (X.alloc (.cells #[.int .i64 0, .bool false, .int .i64 0, .string ⟨#[]⟩, .slice none 0 0, .slice none 0 0] 48)) = .ok () (X.alloc (.cells #[.int .i64 0, .bool false, .int .i64 0, .string ⟨#[]⟩, .slice none 0 0, .slice none 0 0] 48)) := fun X => Ka0.fresh rfl (by simp [Value.oneCell']) _ rfl
 have hb : Below W.heap.size W ((W.alloc (.cells #[.int .i64 0, .bool false, .int .i64 0, .string ⟨#[]⟩, .slice none 0 0, .slice none 0 0] 48)).alloc (.cells #[.int .i64 0, .bool false, .int .i64 0, .string ⟨#[]⟩, .slice none 0 0, .slice none 0 0] 48)) := (Kae _).alloc (by simp) _
 have h0 : BX 48 W q #[.int .i64 0, .bool false, .int .i64 0, .string ⟨#[]⟩, .slice none 0 0, .slice none 0 0] (W.alloc (.cells #[.int .i64 0, .bool false, .int .i64 0, .string ⟨#[]⟩, .slice none 0 0, .slice none 0 0] 48)).heap.size #[.int .i64 0, .bool false, .int .i64 0, .string ⟨#[]⟩, .slice none 0 0, .slice none 0 0] ((W.alloc (.cells #[.int .i64 0, .bool false, .int .i64 0, .string ⟨#[]⟩, .slice none 0 0, .slice none 0 0] 48)).alloc (.cells #[.int .i64 0, .bool false, .int .i64 0, .string ⟨#[]⟩, .slice none 0 0, .slice none 0 0] 48)) := BX.start h.lt (RTo.refl _ _)
 have d0 := h.below hb
 have hzz := hz (W.alloc (.cells #[.int .i64 0, .bool false, .int .i64 0, .string ⟨#[]⟩, .slice none 0 0, .slice none 0 0] 48))
 simp only [World.size_alloc] at h0 hzz
 have d1 := h0.setD d0 0 (.int .i64 4)
 obtain ⟨p, c, q1, q2⟩ := d0.box
 obtain ⟨p1, c1, p', c', k1, k2, k3, k4, k5⟩ := d1.rest (k := 1) hlen
 have hqB : q ≠ W.heap.size + 1 := by have := h0.lo; have := h0.ql; omega
 have q3 : (((W.alloc (.cells #[.int .i64 0, .bool false, .int .i64 0, .string ⟨#[]⟩, .slice none 0 0, .slice none 0 0] 48)).alloc (.cells #[.int .i64 0, .bool false, .int .i64 0, .string ⟨#[]⟩, .slice none 0 0, .slice none 0 0] 48)).setCell ⟨W.heap.size + 1, 0, none⟩ (.int .i64 4)).heap[q]? = some (.cells #[.slice p l.length c, .bool false] 40 (0, 0)) := (Below.heap_setCell _ ⟨W.heap.size + 1, 0, none⟩ _ q hqB).trans q1
 rw [q3] at k1
 cases k1
 have zl := Kdi q2
 have r0 := Kab (o := 0) q1 rfl
 have r1 := Kab (o := 1) q1 rfl
 have b0 := Kab (o := 0) h0.p3 rfl
 have hst0 := Kcv b0 (Kar (o := 0) h0.p3) (n := 4)
 obtain ⟨bb, oo, rfl, hbyte⟩ := Kc9 q2 hlen
 have hbyw : ((W.alloc (.cells #[.int .i64 0, .bool false, .int .i64 0, .string ⟨#[]⟩, .slice none 0 0, .slice none 0 0] 48)).alloc (.cells #[.int .i64 0, .bool false, .int .i64 0, .string ⟨#[]⟩, .slice none 0 0, .slice none 0 0] 48)).cell? ⟨bb, oo, none⟩ = some (.int .u8 4) := by rw [hc0] at hbyte; exact Kam d0.b (ltOf hbyte) hbyte
 clear hbyte
 have r01 := Kab (o := 0) q3 rfl
 have hst1 := Ka4 (p := p') (n := l.length - 1) (c := c') r01 (Kar (o := 0) q3)
 have hx1 : BX 48 W q #[.int .i64 0, .bool false, .int .i64 0, .string ⟨#[]⟩, .slice none 0 0, .slice none 0 0] (W.heap.size + 1) #[.int .i64 4, .bool false, .int .i64 0, .string ⟨#[]⟩, .slice none 0 0, .slice none 0 0] (((W.alloc (.cells #[.int .i64 0, .bool false, .int .i64 0, .string ⟨#[]⟩, .slice none 0 0, .slice none 0 0] 48)).alloc (.cells #[.int .i64 0, .bool false, .int .i64 0, .string ⟨#[]⟩, .slice none 0 0, .slice none 0 0] 48)).setCell ⟨W.heap.size + 1, 0, none⟩ (.int .i64 4)) := by simpa using h0.set 0 (.int .i64 4)
 have hx2 := hx1.step k5
 have b02 := Kab (o := 0) hx2.p3 rfl
 have hsl := fun W' => (Kap Tryz.underlying26 _ _ _ _ W').trans (k3 W')
 have HZ := Lib.hid hzz
 have HST0 := Lib.hid hst0
 have HST1 := Lib.hid hst1
 have HSL := Lib.hid hsl
 have HX2 := Lib.hid hx2
 have HD2 := Lib.hid k4
 clear h hz hb h0 d0 hzz d1 q1 q2 k2 k3 k4 k5 q3 hqB hst0 hst1 hx1 hx2 hsl
 have hN := dcount_any HD2.out
 have hcl := count_le (l.drop 1, false)
 have hcs := Kdy.less (l.drop 1, false)
 unfold Kbr
 generalize Kbh (l.drop 1, false) = r at *
 obtain ⟨n, l3, b3⟩ := r
 have hn1 : n ≤ 1000000 := by simp only [List.length_drop] at hcl hcs; omega
 have hl3 : l3.length ≤ l.length := by simp only [List.length_drop] at hcs; omega
 have HN := Lib.hid hN
 clear hN hcl hcs hc0
 go_enter Tryz.func24, Tryz.ntmps24
 go_wp2_with (first
  | ((with_reducible apply Kac); exact HZ.out; exact rfl; exact rfl; clear HZ)
  | ((with_reducible apply Kac); exact HST0.out; exact rfl; exact rfl; clear HST0; generalize hW1 : World.setCell _ _ _ = W1 at *; clear hW1)
  | ((with_reducible apply Kbb); exact HSL.out _; exact rfl; exact rfl; exact rfl; exact rfl; clear HSL)
  | ((with_reducible apply Kac); exact HST1.out; exact rfl; exact rfl; clear HST1; generalize hW2 : World.setCell _ _ _ = W2 at *; clear hW2)
  | (go_at_call 57
     (
      refine HN.out.mono ?_
      rintro e W3 ⟨v3, rfl, rfl, hD, hT⟩
      replace hD : DSt 40 w W3 q l3 b3 := hD
      have HX3 := Lib.hid (And.intro (HX2.out.step hT) hD)
      clear hD hT HN HX2 HD2)))
 go_loopw [8] (fun i wr => ∃ j : Nat, j ≤ n ∧ i = .int .i64 (j : Int) ∧ Hid (∃ (ls : List V) (l' : List UInt8) (b' : Bool) (ov : Value), ls.length = j ∧ LoopAt (Ka1 d) n (l3, b3) ls (l', b') ∧ l'.length ≤ l.length ∧ DX 48 w W q #[.int .i64 0, .bool false, .int .i64 0, .string ⟨#[]⟩, .slice none 0 0, .slice none 0 0] (W.heap.size + 1) #[.int .i64 4, .bool false, .int .i64 0, .string ⟨#[]⟩, .slice none 0 0, ov] W3 l' b' wr ∧ GIn VOwn 48 6 (fun b => W3.heap.size ≤ b) wr ov ls)) (fun i _ => n - (intOf i).toNat)
 case atStart => exact ⟨0, Nat.zero_le _, rfl, Lib.hid ⟨[], l3, b3, .slice none 0 0, rfl, LoopAt.start _ _ _, hl3, DX.start HX3.out.1 HX3.out.2, GIn.start⟩⟩
 case round =>
  obtain ⟨j, hj, rfl, HI⟩ := hrel
  obtain ⟨ls, l', b', ov, hlj, hloop, hl', hdx, hg⟩ := HI.out
  clear HI
  obtain ⟨po, co, rfl⟩ := hg.slice
  obtain ⟨pz, cz, m1, m2⟩ := hdx.ds.box
  have r1 := Kab (o := 1) m1 rfl
  have p0 := Kab (o := 0) hdx.bx.p3 rfl
  by_cases hlt : j < n
  ·have hji : (j : Int) < (n : Int) := by omega
   cases b'
   ·have hstep := hloop.step (by omega) rfl
    have hcall := HV.out wr q l' false hdx.ds (by omega)
    have hless := (ds_val d).less (l', false)
    generalize Ka1 d (l', false) = r4 at *
    obtain ⟨v4, l4, b4⟩ := r4
    have hless' : l4.length ≤ l.length := Nat.le_trans hless hl'
    have hm : ls.length ≤ 1000000 := by omega
    have hlt1 : j + 1 ≤ n := hlt
    have HC := Lib.hid hcall
    have HQ := Lib.hid (And.intro hdx (And.intro hg (And.intro hstep (And.intro hless' hlj))))
    clear hcall hdx hg hstep hless hloop m1 m2 hlj
    go_wp2_with (first
     | (go_at_call 24
        (
         refine HC.out.mono ?_
         rintro e W4 ⟨v, rfl, ⟨cs, rfl, hown⟩, hD, hT⟩
         replace hD : DSt 40 w W4 q l4 b4 := hD
         replace hown : VOwn W4 (fun b => wr.heap.size ≤ b) v4 cs := hown
         obtain ⟨hdx, hg, hstep, hless', hlj⟩ := HQ.out
         have hs := hown.size6
         have hones := hown.ones
         have hdx4 := hdx.step hT hD
         have hbn := Kae (w := W4) (.cells cs 48)
         have hdx5 := hdx4.below hbn
         have hqW : q < W3.heap.size := by have := hdx.bx.ql; have := hdx.bx.lo; have := hdx.lo; omega
         have hw3 := hdx.sz
         have hw4 := hT.size
         have hown5 : VOwn (W4.alloc (.cells cs 48)) (fun b => wr.heap.size ≤ b ∧ W3.heap.size ≤ b) v4 cs := (hown.keep fun b _ hb => hbn.block b hb).imp fun b _ hb => ⟨hb, by omega⟩
         obtain ⟨p6, c6, W6, a1, a2, a3, hdx6, hg6, _, _⟩ := hdx5.push (i := 5) (P := fun b => W3.heap.size ≤ b) Kcu gt_val (fun b h => h) (fun b h => by simp only [World.size_alloc] at h; omega) hg (by simp only [World.size_alloc]; omega) (fun b hp hb => (hbn.block b (by omega)).trans (hT.keep b hb (by omega))) rfl hown5 hm 46
         have hbs := Kat (P := Tryz.prog) (w := W4.alloc (.cells cs 48)) (v := .agg cs) Tryz.underlying46 Tryz.sizeOf48 Tryz.zeroValue48 hs (by omega) (by omega)
         have p5 := Kab (o := 5) hdx5.bx.p3 rfl
         have HS := Lib.hid (StT.fresh Ka0 hs hones (W := W4))
         have HL := Lib.hid (StT.get Ka0 hs (heap_alloc_new W4 (.cells cs 48)))
         have HB := Lib.hid hbs
         have HA := Lib.hid a1
         have HST := Lib.hid (put_vas (p := p6) (n := ls.length + 1) (c := c6) a2 a3)
         have HR := Lib.hid (And.intro hdx6 hg6)
         clear hown hD hT hdx hg hstep hlj hs hones hdx4 hbn hdx5 hqW hw3 hw4 hown5 a1 a2 a3 hdx6 hg6 hbs HC))
     | ((with_reducible apply Kac); exact HS.out _ rfl; exact rfl; exact rfl; clear HS)
     | ((with_reducible apply Kal); exact HL.out; exact rfl; clear HL)
     | ((with_reducible apply Kee); exact HB.out; exact rfl; clear HB)
     | ((with_reducible apply Kba); exact HA.out; exact rfl; exact rfl; clear HA)
     | ((with_reducible apply Kac); exact HST.out; exact rfl; exact rfl; clear HST))
    go_roundw
    case rel => exact ⟨j + 1, hlt1, by go_num, Lib.hid ⟨ls ++ [v4], l4, b4, _, by rw [List.length_append]; simp only [List.length_cons, List.length_nil]; have := HQ.out.2.2.2.2; omega, HQ.out.2.2.1, HQ.out.2.2.2.1, HR.out.1, HR.out.2⟩⟩
    case measure => simp [intOf]; omega
   ·have hstop := hloop.stop (.inl rfl)
    have g1 := vfin (v := V.mk 4 false 0 [] [] ls) hdx.bx hdx.ds (own_list (by have := hdx.lo; omega) hg)
    have HL5 := Lib.hid g1.1
    have HS4 := Lib.hid g1.2.1
    have HLD := Lib.hid g1.2.2.1
    have HF := Lib.hid (g1.2.2.2)
    have HDL := Lib.hid hstop
    clear g1 hdx hloop hg hstop m1 m2 hlj
    go_wp2_with (first
     | ((with_reducible apply Kal); exact HL5.out; exact rfl)
     | ((with_reducible apply Kac); exact HS4.out; exact rfl; exact rfl))
    refine bodyPost_ret (Kak rfl _ _ ⟨W.heap.size, 0, none⟩ _ rfl HLD.out) rfl ?_
    exact HF.out _ (by rw [HDL.out])
  ·have hji : ¬ (j : Int) < (n : Int) := by omega
   have hstop := hloop.stop (.inr (by omega))
   have g1 := vfin (v := V.mk 4 false 0 [] [] ls) hdx.bx hdx.ds (own_list (by have := hdx.lo; omega) hg)
   have HL5 := Lib.hid g1.1
   have HS4 := Lib.hid g1.2.1
   have HLD := Lib.hid g1.2.2.1
   have HF := Lib.hid (g1.2.2.2)
   have HDL := Lib.hid hstop
   clear g1 hdx hloop hg hstop m1 m2 hlj
   go_wp2_with (first
    | ((with_reducible apply Kal); exact HL5.out; exact rfl)
    | ((with_reducible apply Kac); exact HS4.out; exact rfl; exact rfl))
   refine bodyPost_ret (Kak rfl _ _ ⟨W.heap.size, 0, none⟩ _ rfl HLD.out) rfl ?_
   exact HF.out _ (by rw [HDL.out])
end Go.Proofs.YthdfedfholmbmaaGreatDoor

namespace Go.Proofs.YthdfedfholmbmaaGreatDoor
open Go.RowKit
theorem str_only {W : World} {P : Nat → Prop} {kv : Value} {ks : List (List UInt8)} (h : GIn SOwn 9 1 P W kv ks) : GIn SOwn 9 1 (fun b => kv.ownBlock = some b) W kv ks := by
 obtain ⟨xs, h1, h2⟩ := h
 exact ⟨xs, ⟨h1.1, fun g hg => hg⟩, h2.1, fun j v hj => by obtain ⟨x, a, b⟩ := h2.2 j v hj; exact ⟨x, a, b⟩⟩
theorem str_flat {W : World} {P : Nat → Prop} {ks : List (List UInt8)} {xs : List (Array Value)} (h : GOwns SOwn W P ks xs) : xs.flatMap Array.toList = ks.map strV := by
 have e : xs = ks.map fun s => #[strV s] := by
  refine List.ext_getElem? fun j => ?_
  by_cases hj : j < ks.length
  ·obtain ⟨x, a, b⟩ := h.2 j ks[j] (List.getElem?_eq_getElem hj)
   rw [a, List.getElem?_map, List.getElem?_eq_getElem hj]
   exact congrArg some b
  ·rw [List.getElem?_eq_none (by rw [h.1]; omega), List.getElem?_eq_none (by rw [List.length_map]; omega)]
 rw [e, List.flatMap_map]
 clear e h
 induction ks with
 | nil => rfl
 | cons a r ih => rw [List.flatMap_cons, ih]; rfl
theorem own_map {W : World} {n B : Nat} {P : Nat → Prop} {kv ov : Value} {ks : List (List UInt8)} {ls : List V} (hB : B < n) (hk : GIn SOwn 9 1 (fun b => n ≤ b) W kv ks) (h : GIn VOwn 48 6 (fun b => n ≤ b ∧ P b) W ov ls) : VOwn W (fun b => B < b) (.mk 5 false 0 [] ks ls) #[.int .i64 5, .bool false, .int .i64 0, .string ⟨#[]⟩, kv, ov] := by
 have h1 : GOwn (fun w P (a : V) x => VOwn w P (id a) x) 48 6 W (fun b => B < b) ov ls := (h.own Kcu).imp Kcu fun b _ hb => by have := hb.1; omega
 have h2 := h1.low
 rw [List.map_id] at h2
 obtain ⟨xs, k1, k2⟩ := hk
 rw [str_flat k2] at k1
 exact VOwn.mk' (v := .mk 5 false 0 [] ks ls) ⟨k1.1, fun g hg => by have := k1.2 g hg; omega⟩ h2
section
variable {w W wr W4 W8 Wb : World} {q B : Nat} {z : Array Value} {kv ov : Value} {ks : List (List UInt8)} {ls : List V} {l l4 : List UInt8} {bad b4 : Bool}
theorem dm_key (hdx : DX 48 w W q z B #[.int .i64 5, .bool false, .int .i64 0, .string ⟨#[]⟩, kv, ov] Wb l bad wr) (hk : GIn SOwn 9 1 (fun b => Wb.heap.size ≤ b) wr kv ks) (hg : GIn VOwn 48 6 (fun b => Wb.heap.size ≤ b ∧ kv.ownBlock ≠ some b) wr ov ls) (hT : RTo q wr W4) (hD : DSt 40 w W4 q l4 b4) (hm : ks.length ≤ 1000000) (s : List UInt8) :
 ∃ p c W6 W7, (Builtin.append_ #[45, 45] 45 #[kv, .slice (some ⟨W4.heap.size, 0, none⟩) 1 1]).run Tryz.prog (W4.alloc (.cells #[.string (strB s)] 9)) = .ok (.slice p (ks.length + 1) c) W6 ∧ W6.cell? ⟨B, 4, none⟩ = some kv ∧ (storeVar 45 ⟨B, 4, none⟩ (.slice p (ks.length + 1) c)).run Tryz.prog W6 = .ok () W7 ∧
  DX 48 w W q z B #[.int .i64 5, .bool false, .int .i64 0, .string ⟨#[]⟩, (.slice p (ks.length + 1) c), ov] Wb l4 b4 W7 ∧ GIn SOwn 9 1 (fun b => Wb.heap.size ≤ b) W7 (.slice p (ks.length + 1) c) (ks ++ [s]) ∧ GIn VOwn 48 6 (fun b => Wb.heap.size ≤ b ∧ (Value.slice p (ks.length + 1) c).ownBlock ≠ some b) W7 ov ls := by
 have hq : q < Wb.heap.size := by have := hdx.bx.ql; have := hdx.bx.lo; have := hdx.lo; omega
 have hs := hT.size
 have hw := hdx.sz
 have hlo := hdx.lo
 have hdx4 := hdx.step hT hD
 obtain ⟨p, c, W6, a1, a2, a3, hdx6, hk6, hkeep, hnew⟩ := hdx4.push (i := 4) (P := fun b => Wb.heap.size ≤ b) (x := #[.string (strB s)]) (v := s) el_str gt_str (fun b h => h) (fun b h => by omega) hk hs (fun b hp hb => hT.keep b hb (by omega)) rfl rfl hm 45
 refine ⟨p, c, W6, _, a1, a2, put_strs a2 a3, by simpa using hdx6, hk6, hg.kept Kcu (fun b hb hlt => (hkeep b (by omega) (by have := hb.1; omega) hb.2).trans (hT.keep b hlt (by have := hb.1; omega))) fun b hlt hb => ⟨hb.1, fun e => ?_⟩⟩
 rcases hnew b e with e | e
 ·exact hb.2 e
 ·omega
theorem dm_val {cs : Array Value} {v : V} (hdx : DX 48 w W q z B #[.int .i64 5, .bool false, .int .i64 0, .string ⟨#[]⟩, kv, ov] Wb l bad wr) (hk : GIn SOwn 9 1 (fun b => Wb.heap.size ≤ b) wr kv ks) (hg : GIn VOwn 48 6 (fun b => Wb.heap.size ≤ b ∧ kv.ownBlock ≠ some b) wr ov ls) (hT : RTo q wr W4) (hD : DSt 40 w W4 q l4 b4) (hown : VOwn W4 (fun b => wr.heap.size ≤ b) v cs) (hm : ls.length ≤ 1000000) :
 ∃ p c W6 W7, (Builtin.append_ #[46, 46] 46 #[ov, .slice (some ⟨W4.heap.size + 1, 0, none⟩) 1 1]).run Tryz.prog ((W4.alloc (.cells cs 48)).alloc (.cells cs 48)) = .ok (.slice p (ls.length + 1) c) W6 ∧ (W4.alloc (.cells cs 48)).cell? ⟨B, 5, none⟩ = some ov ∧ (storeVar 46 ⟨B, 5, none⟩ (.slice p (ls.length + 1) c)).run Tryz.prog W6 = .ok () W7 ∧
  DX 48 w W q z B #[.int .i64 5, .bool false, .int .i64 0, .string ⟨#[]⟩, kv, (.slice p (ls.length + 1) c)] Wb l4 b4 W7 ∧ GIn SOwn 9 1 (fun b => Wb.heap.size ≤ b) W7 kv ks ∧ GIn VOwn 48 6 (fun b => Wb.heap.size ≤ b ∧ kv.ownBlock ≠ some b) W7 (.slice p (ls.length + 1) c) (ls ++ [v]) := by
 have hq : q < Wb.heap.size := by have := hdx.bx.ql; have := hdx.bx.lo; have := hdx.lo; omega
 have hs := hT.size
 have hw := hdx.sz
 have hlo := hdx.lo
 have hbn := Kae (w := W4) (.cells cs 48)
 have hs1 : (W4.alloc (.cells cs 48)).heap.size = W4.heap.size + 1 := by simp
 have hdx4 := hdx.step hT hD
 have hdx5 := hdx4.below hbn
 have hown5 : VOwn (W4.alloc (.cells cs 48)) (fun b => wr.heap.size ≤ b ∧ (Wb.heap.size ≤ b ∧ kv.ownBlock ≠ some b)) v cs := (hown.keep fun b _ hb => hbn.block b hb).imp fun b _ hb => ⟨hb, by omega, fun e => by have := (hk.lt b e).1; omega⟩
 obtain ⟨p, c, W6, a1, a2, a3, hdx6, hg6, hkeep, hnew⟩ := hdx5.push (i := 5) (P := fun b => Wb.heap.size ≤ b ∧ kv.ownBlock ≠ some b) Kcu gt_val (fun b h => h.1) (fun b h => ⟨by omega, fun e => by have := (hk.lt b e).1; omega⟩) hg (by omega) (fun b hp hb => (hbn.block b (by omega)).trans (hT.keep b hb (by have := hp.1; omega))) rfl hown5 hm 46
 rw [hs1] at a1
 refine ⟨p, c, W6, _, a1, Kab (o := 5) hdx5.bx.p3 rfl, put_vas a2 a3, by simpa using hdx6, (str_only hk).kept el_str (fun b hb hlt => ?_) fun b _ hb => (hk.lt b hb).2, hg6⟩
 have hbl := (hk.lt b hb).2
 exact (hkeep b (by omega) (by omega) fun e => (hg.lt b e).2.2 hb).trans ((hbn.block b (by omega)).trans (hT.keep b hlt (by omega)))
end
end Go.Proofs.YthdfedfholmbmaaGreatDoor

namespace Go.Proofs.YthdfedfholmbmaaGreatDoor
open Go.RowKit
theorem dval_map {w W : World} {q d : Nat} {l : List UInt8} (hv : DValR w d) (h : DSt 40 w W q l false) (hd : d + 1 ≤ 64) (hll : l.length ≤ 1000000) (hlen : 0 < l.length) (hc0 : (l[0]).toNat = 5) : Calls Tryz.prog 24 #[.pointer (some ⟨q, 0, none⟩), .int .i64 ((d + 1 : Nat) : Int)] W (Docs w W q (Ka1 (d + 1) (l, false)) (okVal W)) := by
 have hlp : ((l.length : Int) == 0) = false := by rw [beq_eq_false_iff_ne]; omega
 have hdp : ¬ ((d + 1 : Nat) : Int) ≤ 0 := by omega
 have hdb : decide (((d + 1 : Nat) : Int) ≤ 0) = false := decide_eq_false hdp
 have hdm : ((d + 1 : Nat) : Int) - 1 = (d : Int) := by omega
 have hds : d ≤ 64 := by omega
 rw [docVal_cons hlen, if_neg (by rw [hc0]; decide), if_neg (by rw [hc0]; decide), if_neg (by rw [hc0]; decide), if_neg (by rw [hc0]; decide), if_neg (by rw [hc0]; decide), if_pos hc0]
 have HV := Lib.hid hv
 clear hv
 generalize hdd : ((d + 1 : Nat) : Int) = di at *
 clear hdd hd
 have hz : ∀ (X : World), (storeVar 48 ⟨X.heap.size, 0, none⟩ (.agg #[.int .i64 0, .bool false, .int .i64 0, .string ⟨#[]⟩, .slice none 0 0, .slice none 0 0])).run Tryz.prog (X.alloc (.cells #[.int .i64 0, .bool false, .int .i64 0, .string ⟨#[]⟩, .slice none 0 0, .slice none 0 0] 48)) = .ok () (X.alloc (.cells #[.int .i64 0, .bool false, .int .i64 0, .string ⟨#[]⟩, .slice none 0 0, .slice none 0 0] 48)) := fun X => Ka0.fresh rfl (by simp [Value.oneCell']) _ rfl
 have hb : Below W.heap.size W ((W.alloc (.cells #[.int .i64 0, .bool false, .int .i64 0, .string ⟨#[]⟩, .slice none 0 0, .slice none 0 0] 48)).alloc (.cells #[.int .i64 0, .bool false, .int .i64 0, .string ⟨#[]⟩, .slice none 0 0, .slice none 0 0] 48)) := (Kae _).alloc (by simp) _
 have h0 : BX 48 W q #[.int .i64 0, .bool false, .int .i64 0, .string ⟨#[]⟩, .slice none 0 0, .slice none 0 0] (W.alloc (.cells #[.int .i64 0, .bool false, .int .i64 0, .string ⟨#[]⟩, .slice none 0 0, .slice none 0 0] 48)).heap.size #[.int .i64 0, .bool false, .int .i64 0, .string ⟨#[]⟩, .slice none 0 0, .slice none 0 0] ((W.alloc (.cells #[.int .i64 0, .bool false, .int .i64 0, .string ⟨#[]⟩, .slice none 0 0, .slice none 0 0] 48)).alloc (.cells #[.int .i64 0, .bool false, .int .i64 0, .string ⟨#[]⟩, .slice none 0 0, .slice none 0 0] 48)) := BX.start h.lt (RTo.refl _ _)
 have d0 := h.below hb
 have hzz := hz (W.alloc (.cells #[.int .i64 0, .bool false, .int .i64 0, .string ⟨#[]⟩, .slice none 0 0, .slice none 0 0] 48))
 simp only [World.size_alloc] at h0 hzz
 have d1 := h0.setD d0 0 (.int .i64 5)
 obtain ⟨p, c, q1, q2⟩ := d0.box
 obtain ⟨p1, c1, p', c', k1, k2, k3, k4, k5⟩ := d1.rest (k := 1) hlen
 have hqB : q ≠ W.heap.size + 1 := by have := h0.lo; have := h0.ql; omega
 have q3 : (((W.alloc (.cells #[.int .i64 0, .bool false, .int .i64 0, .string ⟨#[]⟩, .slice none 0 0, .slice none 0 0] 48)).alloc (.cells #[.int .i64 0, .bool false, .int .i64 0, .string ⟨#[]⟩, .slice none 0 0, .slice none 0 0] 48)).setCell ⟨W.heap.size + 1, 0, none⟩ (.int .i64 5)).heap[q]? = some (.cells #[.slice p l.length c, .bool false] 40 (0, 0)) := (Below.heap_setCell _ ⟨W.heap.size + 1, 0, none⟩ _ q hqB).trans q1
 rw [q3] at k1
 cases k1
 have zl := Kdi q2
 have r0 := Kab (o := 0) q1 rfl
 have r1 := Kab (o := 1) q1 rfl
 have b0 := Kab (o := 0) h0.p3 rfl
 have hst0 := Kcv b0 (Kar (o := 0) h0.p3) (n := 5)
 obtain ⟨bb, oo, rfl, hbyte⟩ := Kc9 q2 hlen
 have hbyw : ((W.alloc (.cells #[.int .i64 0, .bool false, .int .i64 0, .string ⟨#[]⟩, .slice none 0 0, .slice none 0 0] 48)).alloc (.cells #[.int .i64 0, .bool false, .int .i64 0, .string ⟨#[]⟩, .slice none 0 0, .slice none 0 0] 48)).cell? ⟨bb, oo, none⟩ = some (.int .u8 5) := by rw [hc0] at hbyte; exact Kam d0.b (ltOf hbyte) hbyte
 clear hbyte
 have r01 := Kab (o := 0) q3 rfl
 have hst1 := Ka4 (p := p') (n := l.length - 1) (c := c') r01 (Kar (o := 0) q3)
 have hx1 : BX 48 W q #[.int .i64 0, .bool false, .int .i64 0, .string ⟨#[]⟩, .slice none 0 0, .slice none 0 0] (W.heap.size + 1) #[.int .i64 5, .bool false, .int .i64 0, .string ⟨#[]⟩, .slice none 0 0, .slice none 0 0] (((W.alloc (.cells #[.int .i64 0, .bool false, .int .i64 0, .string ⟨#[]⟩, .slice none 0 0, .slice none 0 0] 48)).alloc (.cells #[.int .i64 0, .bool false, .int .i64 0, .string ⟨#[]⟩, .slice none 0 0, .slice none 0 0] 48)).setCell ⟨W.heap.size + 1, 0, none⟩ (.int .i64 5)) := by simpa using h0.set 0 (.int .i64 5)
 have hx2 := hx1.step k5
 have b02 := Kab (o := 0) hx2.p3 rfl
 have hsl := fun W' => (Kap Tryz.underlying26 _ _ _ _ W').trans (k3 W')
 have HZ := Lib.hid hzz
 have HST0 := Lib.hid hst0
 have HST1 := Lib.hid hst1
 have HSL := Lib.hid hsl
 have HX2 := Lib.hid hx2
 have HD2 := Lib.hid k4
 clear h hz hb h0 d0 hzz d1 q1 q2 k2 k3 k4 k5 q3 hqB hst0 hst1 hx1 hx2 hsl
 have hN := dcount_any HD2.out
 have hcl := count_le (l.drop 1, false)
 have hcs := Kdy.less (l.drop 1, false)
 unfold Kbr
 generalize Kbh (l.drop 1, false) = r at *
 obtain ⟨n, l3, b3⟩ := r
 have hn1 : n ≤ 1000000 := by simp only [List.length_drop] at hcl hcs; omega
 have hl3 : l3.length ≤ l.length := by simp only [List.length_drop] at hcs; omega
 have HN := Lib.hid hN
 clear hN hcl hcs hc0
 go_enter Tryz.func24, Tryz.ntmps24
 go_wp2_with (first
  | ((with_reducible apply Kac); exact HZ.out; exact rfl; exact rfl; clear HZ)
  | ((with_reducible apply Kac); exact HST0.out; exact rfl; exact rfl; clear HST0; generalize hW1 : World.setCell _ _ _ = W1 at *; clear hW1)
  | ((with_reducible apply Kbb); exact HSL.out _; exact rfl; exact rfl; exact rfl; exact rfl; clear HSL)
  | ((with_reducible apply Kac); exact HST1.out; exact rfl; exact rfl; clear HST1; generalize hW2 : World.setCell _ _ _ = W2 at *; clear hW2)
  | (go_at_call 57
     (
      refine HN.out.mono ?_
      rintro e W3 ⟨v3, rfl, rfl, hD, hT⟩
      replace hD : DSt 40 w W3 q l3 b3 := hD
      have HX3 := Lib.hid (And.intro (HX2.out.step hT) hD)
      clear hD hT HN HX2 HD2)))
 go_loopw [8] (fun i wr => ∃ j : Nat, j ≤ n ∧ i = .int .i64 (j : Int) ∧ Hid (∃ (ps : List (List UInt8 × V)) (l' : List UInt8) (b' : Bool) (kv ov : Value), ps.length = j ∧ LoopAt (Kcf Kbi (Ka1 d)) n (l3, b3) ps (l', b') ∧ l'.length ≤ l.length ∧ DX 48 w W q #[.int .i64 0, .bool false, .int .i64 0, .string ⟨#[]⟩, .slice none 0 0, .slice none 0 0] (W.heap.size + 1) #[.int .i64 5, .bool false, .int .i64 0, .string ⟨#[]⟩, kv, ov] W3 l' b' wr ∧ GIn SOwn 9 1 (fun b => W3.heap.size ≤ b) wr kv (ps.map Prod.fst) ∧ GIn VOwn 48 6 (fun b => W3.heap.size ≤ b ∧ kv.ownBlock ≠ some b) wr ov (ps.map Prod.snd))) (fun i _ => n - (intOf i).toNat)
 case atStart => exact ⟨0, Nat.zero_le _, rfl, Lib.hid ⟨[], l3, b3, .slice none 0 0, .slice none 0 0, rfl, LoopAt.start _ _ _, hl3, DX.start HX3.out.1 HX3.out.2, GIn.start, GIn.start⟩⟩
 case round =>
  obtain ⟨j, hj, rfl, HI⟩ := hrel
  obtain ⟨ps, l', b', kv, ov, hlj, hloop, hl', hdx, hk, hg⟩ := HI.out
  clear HI
  obtain ⟨po, co, rfl⟩ := hg.slice
  obtain ⟨pk, ck, rfl⟩ := hk.slice
  obtain ⟨pz, cz, m1, m2⟩ := hdx.ds.box
  have r1 := Kab (o := 1) m1 rfl
  have p0 := Kab (o := 0) hdx.bx.p3 rfl
  by_cases hlt : j < n
  ·have hji : (j : Int) < (n : Int) := by omega
   cases b'
   ·have hstep := hloop.step (by omega) rfl
    have hless := ds_text.less (l', false)
    have hless2 := (ds_val d).less (Kbi (l', false)).2
    have hsq : Kcf Kbi (Ka1 d) (l', false) = (((Kbi (l', false)).1, (Ka1 d (Kbi (l', false)).2).1), (Ka1 d (Kbi (l', false)).2).2) := rfl
    rw [hsq] at hstep
    have hm1 : (List.map Prod.fst ps).length ≤ 1000000 := by rw [List.length_map]; omega
    have hm2 : (List.map Prod.snd ps).length ≤ 1000000 := by rw [List.length_map]; omega
    have hlt1 : j + 1 ≤ n := hlt
    have hdxd := hdx.below (Below.refl _ wr).drew
    have hkd : GIn SOwn 9 1 (fun b => W3.heap.size ≤ b) wr.drew (.slice pk (List.map Prod.fst ps).length ck) (ps.map Prod.fst) := hk.kept el_str (fun b _ _ => rfl) (fun b _ h => h)
    have hgd : GIn VOwn 48 6 (fun b => W3.heap.size ≤ b ∧ (Value.slice pk (List.map Prod.fst ps).length ck).ownBlock ≠ some b) wr.drew (.slice po (List.map Prod.snd ps).length co) (ps.map Prod.snd) := hg.kept Kcu (fun b _ _ => rfl) (fun b _ h => h)
    have hTX := dtxt_any hdxd.ds
    generalize Kbi (l', false) = rt at *
    obtain ⟨s, l4, b4⟩ := rt
    have hl4 : l4.length ≤ 1000000 := Nat.le_trans hless (Nat.le_trans hl' hll)
    have hless' : (Ka1 d (l4, b4)).2.1.length ≤ l.length := Nat.le_trans hless2 (Nat.le_trans hless hl')
    have h4 := Kab (o := 4) hdxd.bx.p3 rfl
    have HQ := Lib.hid (And.intro hdxd (And.intro hkd (And.intro hgd (And.intro hstep (And.intro hless' (And.intro hlj (And.intro hTX (And.intro hm1 (And.intro hm2 h4)))))))))
    clear hTX hdx hk hg hdxd hkd hgd hstep hless hless2 hless' hloop m1 m2 hlj hsq hm1 hm2 h4
    generalize hks : List.map Prod.fst ps = ks at *
    generalize hls : List.map Prod.snd ps = ls at *
    have HKS := Lib.hid (And.intro hks hls)
    clear hks hls
    go_wp2
    refine Kai (fun X => X.cell? ⟨W.heap.size + 1, 4, none⟩ = some (.slice pk ks.length ck)) (by kernel_rfl) HQ.out.2.2.2.2.2.2.2.2.2 (fun hS => ?_)
    refine take 0 109 (v := .pointer (some ⟨W.heap.size + 1, 4, none⟩)) rfl rfl (by kernel_rfl) (by kernel_rfl) (by kernel_rfl) rfl (fun X hX => Kad rfl rfl (Kbd _ _ (by decide) X)) (by assumption) ?_
    simp only [Act.put, sA, sZ, sS]
    refine take 1 110 (v := .slice pk ks.length ck) rfl rfl (by kernel_rfl) (by kernel_rfl) (by kernel_rfl) rfl (fun X hX => Kaf rfl rfl (Kaj (w := X) Tryz.underlying45 rfl hX)) (by assumption) ?_
    simp only [Act.put, sA, sZ, sS]
    refine take 2 111 (v := .pointer (some ⟨q, 0, none⟩)) rfl rfl (by kernel_rfl) (by kernel_rfl) (by kernel_rfl) rfl (fun X hX => Kag rfl rfl) (by assumption) ?_
    simp only [Act.put, sA, sZ, sS]
    refine Ka2 3 112 rfl rfl (by kernel_rfl) rfl (Kau [.pointer (some ⟨q, 0, none⟩)] rfl rfl Tryz.func74 (by kernel_rfl) (by kernel_rfl)) ?_
    refine HQ.out.2.2.2.2.2.2.1.mono ?_
    rintro e W4 ⟨v3, rfl, rfl, hD, hT⟩
    replace hD : DSt 40 w W4 q l4 b4 := hD
    obtain ⟨hdx, hk, hg, hstep, hless', hlj, _, hm1, hm2, _⟩ := HQ.out
    obtain ⟨p6, c6, W6, W7, a1, a2, a3, hdx7, hk7, hg7⟩ := dm_key hdx hk hg hT hD hm1 s
    have hdx4 := hdx.step hT hD
    have hS4 : W4.cell? ⟨W.heap.size + 1, 4, none⟩ = some (.slice pk ks.length ck) := Kab (o := 4) hdx4.bx.p3 rfl
    have hS5 : (W4.alloc (.cells #[.string (strB s)] 9)).cell? ⟨W.heap.size + 1, 4, none⟩ = some (.slice pk ks.length ck) := Kab (o := 4) (hdx4.below (Kae _)).bx.p3 rfl
    have hbs : (Instr.buildSlice 45 1 #[(0, .string (strB s))]).run Tryz.prog W4 = .ok (.slice (some ⟨W4.heap.size, 0, none⟩) 1 1) (W4.alloc (.cells #[.string (strB s)] 9)) := Kat (P := Tryz.prog) (w := W4) (v := .string (strB s)) Tryz.underlying45 Tryz.sizeOf9 Tryz.zeroValue9 rfl (by omega) (by omega)
    refine ⟨_, rfl, .inr hS4, ?_⟩
    simp only [Act.put, sA, sZ, sS]
    refine onlyRun 4 113 (v := .slice (some ⟨W4.heap.size, 0, none⟩) 1 1) rfl rfl (by kernel_rfl) rfl (Kck rfl rfl hbs) (.inr hS5) ?_
    simp only [Act.put, sA, sZ, sS]
    refine onlyRun 5 114 (v := .slice p6 (ks.length + 1) c6) rfl rfl (by kernel_rfl) rfl (Kdm rfl rfl rfl a1) (.inr a2) ?_
    simp only [Act.put, sA, sZ, sS]
    refine take 6 115 (v := .pointer (some ⟨W.heap.size + 1, 4, none⟩)) rfl rfl (by kernel_rfl) (by kernel_rfl) (by kernel_rfl) rfl (fun X hX => Kad rfl rfl (Kbd _ _ (by decide) X)) (by assumption) ?_
    simp only [Act.put, sA, sZ, sS]
    refine onlySkip 7 rfl rfl (by kernel_rfl) rfl (Kc7 rfl rfl rfl a3) (.inl (by kernel_rfl)) ?_
    refine done (by kernel_rfl) ?_ _
    have hcall := HV.out W7 q l4 b4 hdx7.ds hl4
    generalize Ka1 d (l4, b4) = r4 at *
    obtain ⟨v4, l5, b5⟩ := r4
    have HC := Lib.hid hcall
    have HP := Lib.hid (And.intro hdx7 (And.intro hk7 (And.intro hg7 hm2)))
    have HE := Lib.hid (And.intro hstep (And.intro hless' hlj))
    clear HQ hcall hdx hk hg hstep hless' hlj hm1 hm2 a1 a2 a3 hdx7 hk7 hg7 hdx4 hS4 hS5 hbs hS hD hT
    go_wp2_with (first
     | (go_at_call 24
        (
         refine HC.out.mono ?_
         rintro e W8 ⟨v, rfl, ⟨cs, rfl, hown⟩, hD, hT⟩
         replace hD : DSt 40 w W8 q l5 b5 := hD
         replace hown : VOwn W8 (fun b => W7.heap.size ≤ b) v4 cs := hown
         have hs := hown.size6
         have hones := hown.ones
         obtain ⟨p9, c9, W9, W10, a1, p5, a3, hdx9, hk9, hg9⟩ := dm_val HP.out.1 HP.out.2.1 HP.out.2.2.1 hT hD hown HP.out.2.2.2
         have hbs := Kat (P := Tryz.prog) (w := W8.alloc (.cells cs 48)) (v := .agg cs) Tryz.underlying46 Tryz.sizeOf48 Tryz.zeroValue48 hs (by omega) (by omega)
         simp only [World.size_alloc] at hbs
         have HS := Lib.hid (StT.fresh Ka0 hs hones (W := W8))
         have HL := Lib.hid (StT.get Ka0 hs (heap_alloc_new W8 (.cells cs 48)))
         have HB := Lib.hid hbs
         have HA := Lib.hid a1
         have HST := Lib.hid a3
         have HR := Lib.hid (And.intro hdx9 (And.intro hk9 hg9))
         clear hown hD hT hs hones a1 a3 hdx9 hk9 hg9 hbs HC HP))
     | ((with_reducible apply Kac); exact HS.out _ rfl; exact rfl; exact rfl; clear HS)
     | ((with_reducible apply Kal); exact HL.out; exact rfl; clear HL)
     | ((with_reducible apply Kee); exact HB.out; exact rfl; clear HB)
     | ((with_reducible apply Kba); exact HA.out; exact rfl; exact rfl; clear HA)
     | ((with_reducible apply Kac); exact HST.out; exact rfl; exact rfl; clear HST))
    go_roundw
    case rel => exact ⟨j + 1, hlt1, by go_num, Lib.hid ⟨ps ++ [(s, v4)], l5, b5, _, _, by rw [List.length_append]; simp only [List.length_cons, List.length_nil]; have := HE.out.2.2; omega, HE.out.1, HE.out.2.1, HR.out.1, by rw [List.map_append, HKS.out.1]; exact HR.out.2.1, by rw [List.map_append, HKS.out.2]; exact HR.out.2.2⟩⟩
    case measure => simp [intOf]; omega
   ·have hstop := hloop.stop (.inl rfl)
    have g1 := vfin (v := V.mk 5 false 0 [] (ps.map Prod.fst) (ps.map Prod.snd)) hdx.bx hdx.ds (own_map (by have := hdx.lo; omega) hk hg)
    have HL5 := Lib.hid g1.1
    have HS4 := Lib.hid g1.2.1
    have HLD := Lib.hid g1.2.2.1
    have HF := Lib.hid (g1.2.2.2)
    have HDL := Lib.hid hstop
    clear g1 hdx hloop hg hk hstop m1 m2 hlj
    generalize (List.map Prod.fst ps).length = nk at *
    generalize (List.map Prod.snd ps).length = no at *
    go_wp2_with (first
     | ((with_reducible apply Kal); exact HL5.out; exact rfl)
     | ((with_reducible apply Kac); exact HS4.out; exact rfl; exact rfl))
    refine bodyPost_ret (Kak rfl _ _ ⟨W.heap.size, 0, none⟩ _ rfl HLD.out) rfl ?_
    exact HF.out _ (by rw [HDL.out])
  ·have hji : ¬ (j : Int) < (n : Int) := by omega
   have hstop := hloop.stop (.inr (by omega))
   have g1 := vfin (v := V.mk 5 false 0 [] (ps.map Prod.fst) (ps.map Prod.snd)) hdx.bx hdx.ds (own_map (by have := hdx.lo; omega) hk hg)
   have HL5 := Lib.hid g1.1
   have HS4 := Lib.hid g1.2.1
   have HLD := Lib.hid g1.2.2.1
   have HF := Lib.hid (g1.2.2.2)
   have HDL := Lib.hid hstop
   clear g1 hdx hloop hg hk hstop m1 m2 hlj
   generalize (List.map Prod.fst ps).length = nk at *
   generalize (List.map Prod.snd ps).length = no at *
   go_wp2_with (first
    | ((with_reducible apply Kal); exact HL5.out; exact rfl)
    | ((with_reducible apply Kac); exact HS4.out; exact rfl; exact rfl))
   refine bodyPost_ret (Kak rfl _ _ ⟨W.heap.size, 0, none⟩ _ rfl HLD.out) rfl ?_
   exact HF.out _ (by rw [HDL.out])
theorem dval_any (w : World) : ∀ d, d ≤ 64 → DValR w d
 | 0, _ => fun W q l bad h _ => dval_no h (by omega) (.inr (.inl rfl))
 | d + 1, hd => fun W q l bad h hl => by
   have hv := dval_any w d (by omega)
   by_cases hlp : 0 < l.length
   ·cases bad
    ·by_cases h4 : (l[0]).toNat = 4
     ·exact dval_list hv h hd hl hlp h4
     ·by_cases h5 : (l[0]).toNat = 5
      ·exact dval_map hv h hd hl hlp h5
      ·exact dval_flat h hd hlp h4 h5
    ·exact dval_no h hd (.inr (.inr rfl))
   ·obtain rfl : l = [] := List.eq_nil_of_length_eq_zero (by omega)
    exact dval_no h hd (.inl rfl)
end Go.Proofs.YthdfedfholmbmaaGreatDoor

namespace Go.Proofs.YthdfedfholmbmaaGreatDoor
open Go.RowKit
section
variable {w W W1 : World} {o : Value} {l m : List UInt8}
theorem Buf.shape (h : Buf w W o l) : ∃ p c, o = .slice p l.length c := Kb5 h.own
theorem Buf.ap (h : Buf w W o l) (hb : Below W.heap.size W W1) {ad : Addr} {c : Nat} (src : ∀ (j : Nat) (u : Value), (m.map byteV)[j]? = some u → W1.cell? (ad.add j) = some u) (hn : l.length + m.length ≤ 70368744177664) (ty : TypeId) :
 ∃ v W', (Builtin.append_ #[26, 26] ty #[o, .slice (some ad) m.length c]).run Tryz.prog W1 = .ok v W' ∧ Buf w W' v (l ++ m) := by
 have h1 := h.below hb
 obtain ⟨i, i1, i2, i3, i4⟩ := info_u8v
 have hsz := h1.b.size
 obtain ⟨v', W', a1, a2, a3, a4, a5⟩ := Kc5 (P := Tryz.prog) (w := W1) 26 ty 5 i _ 1 1 Tryz.underlying26 i1 i2 i3 i4 rfl o l.length _ h1.own.1 ad m.length c (m.map byteV)
  (by simp) src (fun u hu => by obtain ⟨s, _, rfl⟩ := List.mem_map.1 hu; rfl) (by unfold maxLen; omega) (by omega)
 refine ⟨v', W', a1, ⟨?_, fun q hq => ?_⟩, ?_⟩
 ·rw [List.length_append, List.map_append]; exact a2
 ·rcases a4 with e | e
  ·exact h1.own.2 q (e.symm.trans hq)
  ·rw [e] at hq; cases hq; exact hsz
 ·exact a3.below h1.b (fun b hb e => by have := h1.own.2 b e; omega) hsz
theorem Buf.apr (h : Buf w W o l) (hb : Below W.heap.size W W1) {a : Option Addr} {n c : Nat} (hm : RdB W1 (.slice a n c) m) (hn : l.length + m.length ≤ 70368744177664) (ty : TypeId) :
 ∃ v W', (Builtin.append_ #[26, 26] ty #[o, .slice a n c]).run Tryz.prog W1 = .ok v W' ∧ Buf w W' v (l ++ m) := by
 obtain ⟨a', cap, heq, h1, h2⟩ := hm
 cases heq
 cases a with
 | none =>
   have hc := h1.2.2 rfl
   have hn : m = [] := List.eq_nil_of_length_eq_zero (by omega)
   subst hn; subst hc
   obtain ⟨i, i1, i2, i3, i4⟩ := info_u8v
   have hbl := h.below hb
   exact ⟨o, W1, append_law_nil (P := Tryz.prog) 26 ty 5 i 1 Tryz.underlying26 i1 i3 o l.length _ hbl.own.1, by rw [List.append_nil]; exact hbl⟩
 | some ad =>
   have hcell := RdB.at (w := W1) (c := c) ⟨_, _, rfl, h1, h2⟩
   exact h.ap hb (fun j u hu => by
    rw [List.getElem?_map, Option.map_eq_some_iff] at hu
    obtain ⟨b, hb, rfl⟩ := hu
    exact hcell j b hb) hn ty
theorem Buf.rd (h : Buf w W o l) : RdB W o l := by
 have hcells := fun (g : Nat) (e : o.ownBlock = some g) => h.own.1.cells (g := g) e
 rcases h.own.1.2 with ⟨rfl, h0⟩ | ⟨g, cap, cur, rfl, _, hg, hnc, hcm, hcs, htake⟩
 ·have : l = [] := List.eq_nil_of_length_eq_zero h0
  subst this
  exact ⟨none, 0, rfl, ⟨Nat.le_refl _, by simp [maxLen], fun _ => rfl⟩, fun ad h => by cases h⟩
 ·refine ⟨some ⟨g, 0, none⟩, cap, rfl, ⟨hnc, hcm, fun h => by cases h⟩, fun ad had => ?_⟩
  cases had
  refine ⟨fun _ => rfl, fun i b hi => ?_⟩
  have := hcells g rfl i (.int .u8 (b.toNat : Int)) (by rw [List.getElem?_map, hi]; rfl)
  rw [Ka9] at this; exact this
theorem Buf.apt (h : Buf w W o l) (hb : Below W.heap.size W W1) (s : List UInt8) (hn : l.length + s.length ≤ 70368744177664) (ty : TypeId) :
 ∃ c W2 v W', (convert 9 26 (.string (strB s))).run Tryz.prog W1 = .ok (.slice (some ⟨W1.heap.size, 0, none⟩) s.length c) W2 ∧
  (Builtin.append_ #[26, 26] ty #[o, .slice (some ⟨W1.heap.size, 0, none⟩) s.length c]).run Tryz.prog W2 = .ok v W' ∧ Buf w W' v (l ++ s) := by
 obtain ⟨c, W2, h1, h2, h3⟩ := bytes_of s W1
 have hb2 : Below W.heap.size W W2 := Kaa hb h2
 obtain ⟨v, W', h4, h5⟩ := h.ap (ad := ⟨W1.heap.size, 0, none⟩) (m := s) hb2 (fun j u hu => by
  rw [List.getElem?_map, Option.map_eq_some_iff] at hu
  obtain ⟨b, hbj, rfl⟩ := hu
  obtain ⟨hj, rfl⟩ := List.getElem?_eq_some_iff.1 hbj
  rw [Ka9, Nat.zero_add]
  exact h3 j hj) hn ty
 exact ⟨c, W2, v, W', h1, h4, h5⟩
end
end Go.Proofs.YthdfedfholmbmaaGreatDoor

namespace Go.Proofs.YthdfedfholmbmaaGreatDoor
open Go.RowKit
theorem byte_add128 {k : Nat} (h : k < 18446744073709551616) : (128 + (k : Int) % 128) = ((UInt8.ofNat (k % 128 + 128)).toNat : Int) := by
 rw [Kby (by omega)]
 omega
theorem Kc8 {n : Nat} (hn : n < 18446744073709551616) (w : World) : Calls Tryz.prog 46 #[.int .u64 (n : Int)] w fun e w' => ∃ o, e = .returned o ∧ Buf w w' o (numB n) := by
 go_enter Tryz.func46, Tryz.ntmps46
 go_wp2
 go_loopw [0, 3] (fun i o wr => ∃ (k : Nat) (pre : List UInt8), i = .int .u64 (k : Int) ∧ k < 18446744073709551616 ∧ pre ++ numB k = numB n ∧ Hid (Buf w wr o pre)) (fun i _ _ => (intOf i).toNat)
 case atStart => exact ⟨n, [], rfl, hn, rfl, Lib.hid (Buf.empty w)⟩
 case round =>
  obtain ⟨k, pre, rfl, hk, hpre, HB⟩ := hrel
  have hlen : pre.length ≤ 1000000 := by
   have := congrArg List.length hpre
   have := numB_len 10 n (Nat.lt_of_lt_of_le hn (by decide)) (by omega)
   simp only [List.length_append] at *
   omega
  by_cases h : 128 ≤ k
  ·have h' : (128 : Int) ≤ (k : Int) := by omega
   obtain ⟨v, W', ha, hI⟩ := HB.out.one (UInt8.ofNat (k % 128 + 128)) hlen 26
   rw [← byte_add128 hk] at ha
   have Ha := Lib.hid ha
   have HI := Lib.hid hI
   have HP := Lib.hid hpre
   clear ha hI hpre hlen
   go_wp2_with (refine Kcb rfl rfl rfl rfl Ha.out ?_)
   go_roundw
   case rel => exact ⟨k / 128, pre ++ [UInt8.ofNat (k % 128 + 128)], by simp, by omega, by rw [List.append_assoc, List.singleton_append, ← Kdt (by omega)]; exact HP.out, HI⟩
   case measure => simp [intOf]; omega
  ·have h' : (k : Int) < 128 := by omega
   obtain ⟨v, W', ha, hI⟩ := HB.out.one (UInt8.ofNat k) hlen 26
   have e3 : ((UInt8.ofNat k).toNat : Int) = (k : Int) := by rw [Kby (by omega)]
   rw [e3] at ha
   rw [← Kcm (by omega), hpre] at hI
   have Ha := Lib.hid ha
   have HI := Lib.hid hI
   clear ha hI hpre hlen
   go_wp2_with (refine Kcb rfl rfl rfl rfl Ha.out ?_)
   go_ret
   exact ⟨_, rfl, HI.out⟩
theorem dsigned_any {n : Int} (hn : i64T n) (w : World) : Calls Tryz.prog 67 #[.int .i64 n] w fun e w' => ∃ o, e = .returned o ∧ Buf w w' o (numB (zzN n)) := by
 have hz := (un_zz hn).1
 have HC := Lib.hid (Kc8 hz w)
 have hb := hn
 unfold i64T at hb
 clear hn
 by_cases h : n < 0
 ·have e1 : (2 * -(n + 1) + 1 : Int) = (zzN n : Int) := by unfold zzN; rw [if_pos h]; omega
  have z1 : 0 ≤ -(n + 1) := by omega
  have z2 : -(n + 1) < 9223372036854775808 := by omega
  go_enter Tryz.func67, Tryz.ntmps67
  go_wp2_with (go_at_call 46; refine HC.out.mono ?_; rintro e W1 ⟨o, rfl, hB⟩; have HB := Lib.hid hB; clear hB)
  go_ret
  exact ⟨_, rfl, HB.out⟩
 ·have e1 : (2 * n : Int) = (zzN n : Int) := by unfold zzN; rw [if_neg h]; omega
  have z1 : 0 ≤ n := by omega
  go_enter Tryz.func67, Tryz.ntmps67
  go_wp2_with (go_at_call 46; refine HC.out.mono ?_; rintro e W1 ⟨o, rfl, hB⟩; have HB := Lib.hid hB; clear hB)
  go_ret
  exact ⟨_, rfl, HB.out⟩
theorem dtext_any {s : List UInt8} (hs : s.length ≤ 1000000000000) (w : World) : Calls Tryz.prog 68 #[.string (strB s)] w fun e w' => ∃ o, e = .returned o ∧ Buf w w' o (textC s) := by
 have hsz : (strB s).size = s.length := rfl
 have z1 : (s.length : Int) ≤ 1000000000000 := by omega
 have HC := Lib.hid (Kc8 (n := s.length) (by omega) w)
 have hlen : (numB s.length).length ≤ 10 := Kbk (by unfold u64T; omega)
 go_enter Tryz.func68, Tryz.ntmps68
 go_wp2_with (first
  | (go_at_call 46
     (
      refine HC.out.mono ?_
      rintro e W1 ⟨o, rfl, hB⟩
      obtain ⟨c, W2, v, W3, h1, h2, h3⟩ := hB.apt (Below.refl _ _) s (by omega) 26
      have H1 := Lib.hid h1
      have H2 := Lib.hid h2
      have H3 := Lib.hid (show Buf w W3 v (textC s) from h3)
      clear h1 h2 h3 hB HC))
  | ((with_reducible apply Kbq); exact H1.out; exact rfl)
  | ((with_reducible apply Kba); exact H2.out; exact rfl; exact rfl))
 go_ret
 exact ⟨_, rfl, H3.out⟩
end Go.Proofs.YthdfedfholmbmaaGreatDoor

namespace Go.Proofs.YthdfedfholmbmaaGreatDoor
open Go.RowKit
section
variable {w w0 W W1 : World} {o o2 : Value} {l m : List UInt8}
theorem Buf.join (h : Buf w W o l) (g : Buf W W1 o2 m) (hn : l.length + m.length ≤ 70368744177664) (ty : TypeId) :
 ∃ v W', (Builtin.append_ #[26, 26] ty #[o, o2]).run Tryz.prog W1 = .ok v W' ∧ Buf w W' v (l ++ m) := by
 obtain ⟨p, c, rfl⟩ := g.shape
 exact h.apr g.b g.rd hn ty
theorem Buf.up (h : Buf w0 W o l) (g : Below w.heap.size w w0) : Buf w W o l := ⟨⟨h.own.1, fun q hq => Nat.le_trans g.size (h.own.2 q hq)⟩, Kaa g h.b⟩
end
theorem take_flat {α : Type} (e : α → List UInt8) {l : List α} {j : Nat} : ((l.take j).flatMap e).length ≤ (l.flatMap e).length := by
 conv => rhs; rw [← List.take_append_drop j l, List.flatMap_append, List.length_append]
 omega
theorem at_flat {α : Type} (e : α → List UInt8) {l : List α} {j : Nat} (h : j < l.length) : (e l[j]).length ≤ (l.flatMap e).length := by
 have h1 := take_flat e (l := l) (j := j + 1)
 rw [Kca h, List.length_append] at h1
 omega
def DVal (v : V) : Prop := ∀ d, wfV d v → ∀ (w : World) (x : Array Value), VRd w v x → (valC v).length ≤ 1000000000000 → Calls Tryz.prog 22 #[.agg x] w fun e w' => ∃ o, e = .returned o ∧ Buf w w' o (valC v)
theorem dvalue_of {k : Int} {b : Bool} {n : Int} {t : List UInt8} {ks : List (List UInt8)} {l : List V} (ih : ∀ v ∈ l, DVal v) : DVal (.mk k b n t ks l) := by
 intro d hwf w x hx hlen
 obtain ⟨pk, ck, pl, cl, rfl, htx, hk1, hl1⟩ := Kb8.1 hx
 cases d with
 | zero => rw [wfV] at hwf; exact hwf.elim
 | succ d =>
 rw [wfV] at hwf
 have z1 : (ks.length : Int) ≤ 140737488355328 := by have := hk1.2.1.1; omega
 have z2 : (l.length : Int) ≤ 140737488355328 := by have := hl1.1.2.1.1; omega
 have HI := Lib.hid ih
 have HK := Lib.hid hk1
 have HL := Lib.hid hl1
 have HLN := Lib.hid hlen
 clear ih hk1 hl1 hx hlen
 rcases hwf with ⟨rfl, rfl, rfl, rfl, rfl, rfl⟩ | ⟨rfl, rfl, rfl, rfl, rfl⟩ | ⟨rfl, rfl, g1, rfl, rfl, rfl⟩ | ⟨rfl, rfl, rfl, g1, rfl, rfl⟩ | ⟨rfl, rfl, rfl, rfl, rfl, g1, g2⟩ | ⟨rfl, rfl, rfl, rfl, g1, g2, g3, g4⟩ | ⟨hk, rfl, g1, rfl, rfl, rfl⟩
 ·have hb := Kae (w := w) (.cells #[.int .i64 0, .bool false, .int .i64 0, .string (strB []), .slice pk 0 ck, .slice pl 0 cl] 48)
  have hB := (Buf.start (w := w.alloc (.cells #[.int .i64 0, .bool false, .int .i64 0, .string (strB []), .slice pk 0 ck, .slice pl 0 cl] 48)) (Below.refl _ _) (m := [0]) (cs := #[.int .u8 0]) rfl (by simp))
  simp only [World.size_alloc] at hB
  have HB := Lib.hid (hB.up hb)
  clear hb hB
  go_enter Tryz.func22, Tryz.ntmps22
  go_wp2
  go_ret
  exact ⟨_, rfl, HB.out⟩
 ·cases b
  ·have hb := Kae (w := w) (.cells #[.int .i64 1, .bool false, .int .i64 0, .string (strB []), .slice pk 0 ck, .slice pl 0 cl] 48)
   have hB := (Buf.start (w := w.alloc (.cells #[.int .i64 1, .bool false, .int .i64 0, .string (strB []), .slice pk 0 ck, .slice pl 0 cl] 48)) (Below.refl _ _) (m := [1]) (cs := #[.int .u8 1]) rfl (by simp))
   obtain ⟨v, W', ha, hI⟩ := (hB.up hb).one 0 (by simp) 26
   simp only [World.size_alloc] at ha
   have HA := Lib.hid ha
   have HB := Lib.hid (show Buf w W' v (valC (.mk 1 false 0 [] [] [])) from hI)
   clear hb hB ha hI
   go_enter Tryz.func22, Tryz.ntmps22
   go_wp2_with ((with_reducible apply Kba); exact HA.out; exact rfl; exact rfl)
   go_ret
   exact ⟨_, rfl, HB.out⟩
  ·have hb := Kae (w := w) (.cells #[.int .i64 1, .bool true, .int .i64 0, .string (strB []), .slice pk 0 ck, .slice pl 0 cl] 48)
   have hB := (Buf.start (w := w.alloc (.cells #[.int .i64 1, .bool true, .int .i64 0, .string (strB []), .slice pk 0 ck, .slice pl 0 cl] 48)) (Below.refl _ _) (m := [1]) (cs := #[.int .u8 1]) rfl (by simp))
   obtain ⟨v, W', ha, hI⟩ := (hB.up hb).one 1 (by simp) 26
   simp only [World.size_alloc] at ha
   have HA := Lib.hid ha
   have HB := Lib.hid (show Buf w W' v (valC (.mk 1 true 0 [] [] [])) from hI)
   clear hb hB ha hI
   go_enter Tryz.func22, Tryz.ntmps22
   go_wp2_with ((with_reducible apply Kba); exact HA.out; exact rfl; exact rfl)
   go_ret
   exact ⟨_, rfl, HB.out⟩
 ·have hb := Kae (w := w) (.cells #[.int .i64 2, .bool false, .int .i64 n, .string (strB []), .slice pk 0 ck, .slice pl 0 cl] 48)
  have hB := (Buf.start (w := w.alloc (.cells #[.int .i64 2, .bool false, .int .i64 n, .string (strB []), .slice pk 0 ck, .slice pl 0 cl] 48)) (Below.refl _ _) (m := [2]) (cs := #[.int .u8 2]) rfl (by simp))
  have e1 : valC (.mk 2 false n [] [] []) = [2] ++ numB (zzN n) := by rw [valC, if_neg (by decide), if_pos rfl]; rfl
  have hl := HLN.out
  rw [e1, List.length_append] at hl
  have HB := Lib.hid (hB.up hb)
  clear hb hB
  go_enter Tryz.func22, Tryz.ntmps22
  go_wp2_with (first
   | (go_at_call 67
      (
       refine (dsigned_any g1 _).mono ?_
       rintro e W1 ⟨o2, rfl, hB2⟩
       obtain ⟨v, W2, ha, hI⟩ := HB.out.join hB2 (by simp only [List.length_cons, List.length_nil]; omega) 26
       simp only [World.size_alloc] at ha
       have HA := Lib.hid ha
       have HR := Lib.hid (show Buf w W2 v (valC (.mk 2 false n [] [] [])) from by rw [e1]; exact hI)
       clear hB2 ha hI))
   | ((with_reducible apply Kba); exact HA.out; exact rfl; exact rfl))
  go_ret
  exact ⟨_, rfl, HR.out⟩
 ·have hb := Kae (w := w) (.cells #[.int .i64 3, .bool false, .int .i64 0, .string (strB t), .slice pk 0 ck, .slice pl 0 cl] 48)
  have hB := (Buf.start (w := w.alloc (.cells #[.int .i64 3, .bool false, .int .i64 0, .string (strB t), .slice pk 0 ck, .slice pl 0 cl] 48)) (Below.refl _ _) (m := [3]) (cs := #[.int .u8 3]) rfl (by simp))
  have h6 : t.length ≤ 1000000000000 := by
   have hl := HLN.out
   rw [valC, if_neg (by decide), if_neg (by decide), if_pos rfl, List.length_cons] at hl
   unfold textC at hl
   rw [List.length_append] at hl
   omega
  have e1 : valC (.mk 3 false 0 t [] []) = [3] ++ textC t := by rw [valC, if_neg (by decide), if_neg (by decide), if_pos rfl]; rfl
  have hl := HLN.out
  rw [e1, List.length_append] at hl
  have HB := Lib.hid (hB.up hb)
  clear hb hB
  go_enter Tryz.func22, Tryz.ntmps22
  go_wp2_with (first
   | (go_at_call 68
      (
       refine (dtext_any h6 _).mono ?_
       rintro e W1 ⟨o2, rfl, hB2⟩
       obtain ⟨v, W2, ha, hI⟩ := HB.out.join hB2 (by simp only [List.length_cons, List.length_nil]; omega) 26
       simp only [World.size_alloc] at ha
       have HA := Lib.hid ha
       have HR := Lib.hid (show Buf w W2 v (valC (.mk 3 false 0 t [] [])) from by rw [e1]; exact hI)
       clear hB2 ha hI))
   | ((with_reducible apply Kba); exact HA.out; exact rfl; exact rfl))
  go_ret
  exact ⟨_, rfl, HR.out⟩
 ·have hb := Kae (w := w) (.cells #[.int .i64 4, .bool false, .int .i64 0, .string (strB []), .slice pk 0 ck, .slice pl l.length cl] 48)
  have hB := (Buf.start (w := w.alloc (.cells #[.int .i64 4, .bool false, .int .i64 0, .string (strB []), .slice pk 0 ck, .slice pl l.length cl] 48)) (Below.refl _ _) (m := [4]) (cs := #[.int .u8 4]) rfl (by simp))
  have hx0 := heap_alloc_new w (.cells #[.int .i64 4, .bool false, .int .i64 0, .string (strB []), .slice pk 0 ck, .slice pl l.length cl] 48)
  have e1 : valC (.mk 4 false 0 [] [] l) = [4] ++ numB l.length ++ l.flatMap valC := by rw [valC, if_neg (by decide), if_neg (by decide), if_neg (by decide), if_pos rfl, valsC_eq]; rfl
  have hl := HLN.out
  rw [e1] at hl
  simp only [List.length_append, List.length_cons, List.length_nil] at hl
  have hn10 : (numB l.length).length ≤ 10 := Kbk g1
  have HE := Lib.hid e1
  have HX0 := Lib.hid (And.intro hb hx0)
  have HB := Lib.hid hB
  clear hb hB hx0 e1
  go_enter Tryz.func22, Tryz.ntmps22
  go_wp2_with (first
   | (go_at_call 46
      (
       refine (Kc8 (n := l.length) (by omega) _).mono ?_
       rintro e W1 ⟨o2, rfl, hB2⟩
       obtain ⟨v, W2, ha, hI⟩ := HB.out.join hB2 (by simp only [List.length_cons, List.length_nil]; omega) 26
       simp only [World.size_alloc] at ha
       have HA := Lib.hid ha
       have HR := Lib.hid hI
       clear hB2 ha hI HB))
   | ((with_reducible apply Kba); exact HA.out; exact rfl; exact rfl))
  clear HA
  generalize hw0 : w.alloc (.cells #[.int .i64 4, .bool false, .int .i64 0, .string (strB []), .slice pk 0 ck, .slice pl l.length cl] 48) = w0 at *
  clear hw0
  go_loopw [3, 4] (fun o i W => ∃ (j : Nat) (ov : Value), j ≤ l.length ∧ i = .int .i64 (j : Int) ∧ ov = o ∧ Hid (Buf w0 W ov ([4] ++ numB l.length ++ (l.take j).flatMap valC))) (fun _ i _ => l.length - (intOf i).toNat)
  case atStart => exact ⟨0, _, Nat.zero_le _, rfl, rfl, Lib.hid (by have := HR.out; simpa using this)⟩
  case round =>
   obtain ⟨j, ov, hj, rfl, rfl, HB⟩ := hrel
   clear HR
   have hbx := Kas HB.out.b (Array.getElem?_eq_some_iff.1 HX0.out.2).1 HX0.out.2
   have p0 := Kab (o := 0) hbx rfl
   have p4 := Kab (o := 4) hbx rfl
   have p5 := Kab (o := 5) hbx rfl
   have hww : Below w.heap.size w wr := Kaa HX0.out.1 HB.out.b
   by_cases hlt : j < l.length
   ·have hlt1 : j + 1 ≤ l.length := hlt
    obtain ⟨b1, o1, pk1, ck1, pl1, cl1, rfl, ⟨a0, a1, a2, a3, a4, a5⟩, hv1⟩ := (HL.out.below hww).at hlt
    have hstep := Kca (e := valC) hlt
    have hl1 := at_flat valC hlt
    have hl2 := take_flat valC (l := l) (j := j)
    have hcall := HI.out l[j] (List.getElem_mem hlt) d (g2 _ (List.getElem_mem hlt)) wr _ hv1 (by omega)
    generalize l[j] = s1 at *
    have HD := Lib.hid (And.intro hcall hstep)
    clear hcall hstep hv1 hbx hww
    go_wp2_with (first
     | (go_at_call 22
        (
         refine HD.out.1.mono ?_
         rintro e W1 ⟨o2, rfl, hB2⟩
         obtain ⟨v, W2, ha, hI⟩ := HB.out.join hB2 (by simp only [List.length_append, List.length_cons, List.length_nil]; omega) 26
         have HA := Lib.hid ha
         have HR := Lib.hid hI
         clear hB2 ha hI))
     | ((with_reducible apply Kba); exact HA.out; exact rfl; exact rfl))
    go_roundw
    case rel => exact ⟨j + 1, _, hlt1, by go_num, rfl, Lib.hid (by rw [HD.out.2, ← List.append_assoc]; exact HR.out)⟩
    case measure => simp [intOf]; omega
   ·obtain rfl : j = l.length := by omega
    have HF := Lib.hid (HB.out.up HX0.out.1)
    clear HB hbx hww
    go_wp2
    go_ret
    refine ⟨_, rfl, ?_⟩
    have h := HF.out
    rw [HE.out]
    rw [List.take_length] at h
    exact h
 ·rw [g1]
  have HG1 := Lib.hid g1
  clear g1
  have hb := Kae (w := w) (.cells #[.int .i64 5, .bool false, .int .i64 0, .string (strB []), .slice pk l.length ck, .slice pl l.length cl] 48)
  have hB := (Buf.start (w := w.alloc (.cells #[.int .i64 5, .bool false, .int .i64 0, .string (strB []), .slice pk l.length ck, .slice pl l.length cl] 48)) (Below.refl _ _) (m := [5]) (cs := #[.int .u8 5]) rfl (by simp))
  have hx0 := heap_alloc_new w (.cells #[.int .i64 5, .bool false, .int .i64 0, .string (strB []), .slice pk l.length ck, .slice pl l.length cl] 48)
  have e1 : valC (.mk 5 false 0 [] ks l) = [5] ++ numB l.length ++ (ks.zip l).flatMap (fun p : List UInt8 × V => textC p.1 ++ valC p.2) := by rw [valC, if_neg (by decide), if_neg (by decide), if_neg (by decide), if_neg (by decide), if_pos rfl, kvC_eq ks l HG1.out]; rfl
  have hl := HLN.out
  rw [e1] at hl
  simp only [List.length_append, List.length_cons, List.length_nil] at hl
  have hn10 : (numB l.length).length ≤ 10 := Kbk g2
  have HE := Lib.hid e1
  have HX0 := Lib.hid (And.intro hb hx0)
  have HB := Lib.hid hB
  clear hb hB hx0 e1
  go_enter Tryz.func22, Tryz.ntmps22
  go_wp2_with (first
   | (go_at_call 46
      (
       refine (Kc8 (n := l.length) (by omega) _).mono ?_
       rintro e W1 ⟨o2, rfl, hB2⟩
       obtain ⟨v, W2, ha, hI⟩ := HB.out.join hB2 (by simp only [List.length_cons, List.length_nil]; omega) 26
       simp only [World.size_alloc] at ha
       have HA := Lib.hid ha
       have HR := Lib.hid hI
       clear hB2 ha hI HB))
   | ((with_reducible apply Kba); exact HA.out; exact rfl; exact rfl))
  clear HA
  generalize hw0 : w.alloc (.cells #[.int .i64 5, .bool false, .int .i64 0, .string (strB []), .slice pk l.length ck, .slice pl l.length cl] 48) = w0 at *
  clear hw0
  go_loopw [3, 4] (fun o i W => ∃ (j : Nat) (ov : Value), j ≤ l.length ∧ i = .int .i64 (j : Int) ∧ ov = o ∧ Hid (Buf w0 W ov ([5] ++ numB l.length ++ ((ks.zip l).take j).flatMap (fun p : List UInt8 × V => textC p.1 ++ valC p.2)))) (fun _ i _ => l.length - (intOf i).toNat)
  case atStart => exact ⟨0, _, Nat.zero_le _, rfl, rfl, Lib.hid (by have := HR.out; simpa using this)⟩
  case round =>
   obtain ⟨j, ov, hj, rfl, rfl, HB⟩ := hrel
   clear HR
   have hbx := Kas HB.out.b (Array.getElem?_eq_some_iff.1 HX0.out.2).1 HX0.out.2
   have p0 := Kab (o := 0) hbx rfl
   have p4 := Kab (o := 4) hbx rfl
   have p5 := Kab (o := 5) hbx rfl
   have hww : Below w.heap.size w wr := Kaa HX0.out.1 HB.out.b
   by_cases hlt : j < l.length
   ·have hlt1 : j + 1 ≤ l.length := hlt
    have hjk : j < ks.length := by have := HG1.out; omega
    have hjz : j < (ks.zip l).length := by have := HG1.out; simp; omega
    obtain ⟨b1, o1, pk1, ck1, pl1, cl1, rfl, ⟨a0, a1, a2, a3, a4, a5⟩, hv1⟩ := (HL.out.below HX0.out.1).at hlt
    obtain ⟨bk, ok, rfl, q0, hsl⟩ := (HK.out.below hww).get hjk
    have hstep := Kca (e := fun p : List UInt8 × V => textC p.1 ++ valC p.2) hjz
    have hl1 := at_flat (fun p : List UInt8 × V => textC p.1 ++ valC p.2) hjz
    have hl2 := take_flat (fun p : List UInt8 × V => textC p.1 ++ valC p.2) (l := ks.zip l) (j := j)
    have e2 : (ks.zip l)[j] = (ks[j], l[j]) := List.getElem_zip
    rw [e2] at hstep hl1
    simp only [List.length_append] at hl1
    have hkl : (ks[j]).length ≤ (textC ks[j]).length := by unfold textC; rw [List.length_append]; omega
    have hcall := fun W (hW : Below w0.heap.size w0 W) => HI.out l[j] (List.getElem_mem hlt) d (g4 _ (List.getElem_mem hlt)) W _ (hv1.below hW) (by omega)
    generalize l[j] = s1 at *
    generalize ks[j] = k1 at *
    have HD := Lib.hid (And.intro hcall hstep)
    have HCE := Lib.hid (And.intro a0 (And.intro a1 (And.intro a2 (And.intro a3 (And.intro a4 a5)))))
    clear hcall hstep hv1 hbx hww a0 a1 a2 a3 a4 a5 e2
    go_wp2_with (first
     | (go_at_call 68
        (
         refine (dtext_any (s := k1) (by omega) _).mono ?_
         rintro e W1 ⟨o2, rfl, hB2⟩
         obtain ⟨v, W2, ha, hI⟩ := HB.out.join hB2 (by simp only [List.length_append, List.length_cons, List.length_nil]; omega) 26
         have HA := Lib.hid ha
         have HR := Lib.hid hI
         have HW2 := Lib.hid hI.b
         have hbx2 := Kas hI.b (Array.getElem?_eq_some_iff.1 HX0.out.2).1 HX0.out.2
         have p51 := Kab (o := 5) hbx2 rfl
         obtain ⟨a0, a1, a2, a3, a4, a5⟩ := HCE.out
         replace a0 := Kam hI.b (ltOf a0) a0
         replace a1 := Kam hI.b (ltOf a1) a1
         replace a2 := Kam hI.b (ltOf a2) a2
         replace a3 := Kam hI.b (ltOf a3) a3
         replace a4 := Kam hI.b (ltOf a4) a4
         replace a5 := Kam hI.b (ltOf a5) a5
         clear hB2 ha hI hbx2))
     | ((with_reducible apply Kba); exact HA.out; exact rfl; exact rfl)
     | (go_at_call 22
        (
         refine (HD.out.1 _ HW2.out).mono ?_
         rintro e W3 ⟨o3, rfl, hB3⟩
         obtain ⟨v3, W4, ha3, hI3⟩ := HR.out.join hB3 (by simp only [List.length_append, List.length_cons, List.length_nil]; omega) 26
         have HA3 := Lib.hid ha3
         have HR3 := Lib.hid hI3
         clear hB3 ha3 hI3))
     | ((with_reducible apply Kba); exact HA3.out; exact rfl; exact rfl))
    go_roundw
    case rel => exact ⟨j + 1, _, hlt1, by go_num, rfl, Lib.hid (by rw [HD.out.2, ← List.append_assoc, ← List.append_assoc]; exact HR3.out)⟩
    case measure => simp [intOf]; omega
   ·obtain rfl : j = l.length := by omega
    have HF := Lib.hid (HB.out.up HX0.out.1)
    clear HB hbx hww
    go_wp2
    go_ret
    refine ⟨_, rfl, ?_⟩
    have h := HF.out
    rw [HE.out]
    rw [List.take_of_length_le (by have := HG1.out; simp; omega)] at h
    exact h
 ·rcases hk with rfl | rfl
  ·have hb := Kae (w := w) (.cells #[.int .i64 6, .bool false, .int .i64 n, .string (strB []), .slice pk 0 ck, .slice pl 0 cl] 48)
   have hB := (Buf.start (w := w.alloc (.cells #[.int .i64 6, .bool false, .int .i64 n, .string (strB []), .slice pk 0 ck, .slice pl 0 cl] 48)) (Below.refl _ _) (m := [6]) (cs := #[.int .u8 6]) rfl (by simp))
   have hu := Kcl g1
   have e1 : valC (.mk 6 false n [] [] []) = [6] ++ numB (toU n) := by rw [valC, if_neg (by decide), if_neg (by decide), if_neg (by decide), if_neg (by decide), if_neg (by decide), if_pos (by decide)]; rfl
   have hl := HLN.out
   rw [e1, List.length_append] at hl
   have HB := Lib.hid (hB.up hb)
   clear hb hB
   go_enter Tryz.func22, Tryz.ntmps22
   go_wp2_with (first
    | (go_at_call 46
       (
        refine (Kc8 (n := toU n) (Kbu g1).1 _).mono ?_
        rintro e W1 ⟨o2, rfl, hB2⟩
        obtain ⟨v, W2, ha, hI⟩ := HB.out.join hB2 (by simp only [List.length_cons, List.length_nil]; omega) 26
        simp only [World.size_alloc] at ha
        have HA := Lib.hid ha
        have HR := Lib.hid (show Buf w W2 v (valC (.mk 6 false n [] [] [])) from by rw [e1]; exact hI)
        clear hB2 ha hI))
    | ((with_reducible apply Kba); exact HA.out; exact rfl; exact rfl))
   go_ret
   exact ⟨_, rfl, HR.out⟩
  ·have hb := Kae (w := w) (.cells #[.int .i64 7, .bool false, .int .i64 n, .string (strB []), .slice pk 0 ck, .slice pl 0 cl] 48)
   have hB := (Buf.start (w := w.alloc (.cells #[.int .i64 7, .bool false, .int .i64 n, .string (strB []), .slice pk 0 ck, .slice pl 0 cl] 48)) (Below.refl _ _) (m := [7]) (cs := #[.int .u8 7]) rfl (by simp))
   have hu := Kcl g1
   have e1 : valC (.mk 7 false n [] [] []) = [7] ++ numB (toU n) := by rw [valC, if_neg (by decide), if_neg (by decide), if_neg (by decide), if_neg (by decide), if_neg (by decide), if_pos (by decide)]; rfl
   have hl := HLN.out
   rw [e1, List.length_append] at hl
   have HB := Lib.hid (hB.up hb)
   clear hb hB
   go_enter Tryz.func22, Tryz.ntmps22
   go_wp2_with (first
    | (go_at_call 46
       (
        refine (Kc8 (n := toU n) (Kbu g1).1 _).mono ?_
        rintro e W1 ⟨o2, rfl, hB2⟩
        obtain ⟨v, W2, ha, hI⟩ := HB.out.join hB2 (by simp only [List.length_cons, List.length_nil]; omega) 26
        simp only [World.size_alloc] at ha
        have HA := Lib.hid ha
        have HR := Lib.hid (show Buf w W2 v (valC (.mk 7 false n [] [] [])) from by rw [e1]; exact hI)
        clear hB2 ha hI))
    | ((with_reducible apply Kba); exact HA.out; exact rfl; exact rfl))
   go_ret
   exact ⟨_, rfl, HR.out⟩
theorem Kd9 : ∀ v : V, DVal v := by
 refine V.ind ?_
 intro k b n t ks l ih
 exact dvalue_of ih
end Go.Proofs.YthdfedfholmbmaaGreatDoor

namespace Go.Proofs.YthdfedfholmbmaaGreatDoor
open Go.RowKit
theorem more_any (l : List UInt8) (i : Nat) (w : World) (hi : i ≤ 140737488355400) (hl : l.length ≤ 140737488355328) : Calls Tryz.prog 171 #[.string (strB l), .int .i64 (i : Int)] w fun e w' => e = .returned (.bool (moreB l i)) ∧ w = w' := by
 have hsz : (strB l).size = l.length := rfl
 have z1 : (l.length : Int) ≤ 140737488355328 := by omega
 by_cases h : i < l.length
 ·have hm : moreB l i = (decide (128 ≤ l[i].toNat) && decide (l[i].toNat ≤ 191)) := by unfold moreB; rw [List.getElem?_eq_getElem h]
  rw [hm]
  go_enter Tryz.func171, Tryz.ntmps171
  go_wp2
  ·rename_i hx
   have hx' : 128 ≤ (l[i].toNat : Int) := hx
   go_ret
   refine ⟨Kav ?_, rfl⟩
   rw [show decide (128 ≤ l[i].toNat) = true by simp; omega, Bool.true_and]
   show decide ((l[i].toNat : Int) ≤ 191) = decide (l[i].toNat ≤ 191)
   rw [Bool.eq_iff_iff, decide_eq_true_iff, decide_eq_true_iff]
   omega
  ·rename_i hx
   have hx' : (l[i].toNat : Int) < 128 := hx
   go_ret
   exact ⟨Kav (by rw [show decide (128 ≤ l[i].toNat) = false by simp; omega]; rfl), rfl⟩
 ·have hm : moreB l i = false := by unfold moreB; rw [List.getElem?_eq_none (by omega)]
  rw [hm]
  go_enter Tryz.func171, Tryz.ntmps171
  go_wp2
  go_ret
  exact ⟨rfl, rfl⟩
theorem more_int (l : List UInt8) (n : Int) (w : World) (h0 : 0 ≤ n) (hi : n ≤ 140737488355400) (hl : l.length ≤ 140737488355328) : Calls Tryz.prog 171 #[.string (strB l), .int .i64 n] w fun e w' => e = .returned (.bool (moreB l n.toNat)) ∧ w = w' := by
 obtain ⟨i, rfl⟩ : ∃ i : Nat, n = (i : Int) := ⟨n.toNat, by omega⟩
 exact more_any l i w (by omega) hl
theorem runeAt_any (l : List UInt8) (i : Nat) (w : World) (hi : i < l.length) (hl : l.length ≤ 140737488355328) : Calls Tryz.prog 152 #[.string (strB l), .int .i64 (i : Int)] w fun e w' => e = .returned (.int .i64 (runeL l i : Int)) ∧ w = w' := by
 have hsz : (strB l).size = l.length := rfl
 have z1 : (l.length : Int) ≤ 140737488355328 := by omega
 have t1 : ((i : Int) + 1).toNat = i + 1 := by omega
 have t2 : ((i : Int) + 2).toNat = i + 2 := by omega
 have t3 : ((i : Int) + 3).toNat = i + 3 := by omega
 have hb : byteN l i = ((strB l)[i]'hi).toNat := by unfold byteN; rw [List.getElem?_eq_getElem hi]; rfl
 cases hm1 : moreB l (i + 1) with
 | false =>
   go_enter Tryz.func152, Tryz.ntmps152
   go_wp2_with (go_at_call 171
                (
                  refine (more_int _ _ _ (by omega) (by omega) hl).mono ?_
                  rintro e w' ⟨rfl, rfl⟩
                  simp only [t1, t2, t3, hm1]))
   all_goals
    go_ret
    refine ⟨ret_int ?_, rfl⟩
    unfold runeL
    rw [hm1, hb]
    generalize ((strB l)[i]'hi).toNat = c at *
    (repeat' split) <;> first | rfl | omega | (simp only [Bool.and_eq_true, decide_eq_true_eq, Bool.false_eq_true, and_false, false_and, not_false_eq_true, not_true_eq_false] at * <;> omega)
 | true =>
   have hi1 : i + 1 < l.length := by
    unfold moreB at hm1
    split at hm1
    ·rename_i x hx
     exact (List.getElem?_eq_some_iff.1 hx).1
    ·cases hm1
   have hi1' : (i : Int) + 1 < l.length := by omega
   have hb1 : byteN l (i + 1) = ((strB l)[i + 1]'hi1).toNat := by unfold byteN; rw [List.getElem?_eq_getElem hi1]; rfl
   cases hm2 : moreB l (i + 2) <;> cases hm3 : moreB l (i + 3)
   all_goals
    go_enter Tryz.func152, Tryz.ntmps152
    go_wp2_with (go_at_call 171
                 (
                   refine (more_int _ _ _ (by omega) (by omega) hl).mono ?_
                   rintro e w' ⟨rfl, rfl⟩
                   simp only [t1, t2, t3, hm1, hm2, hm3]))
    all_goals
     go_ret
     refine ⟨ret_int ?_, rfl⟩
     unfold runeL
     rw [hm1, hm2, hb, hb1]
     try rw [hm3]
     generalize ((strB l)[i]'hi).toNat = c at *
     generalize ((strB l)[i + 1]'hi1).toNat = d at *
     (repeat' split) <;> first | rfl | omega | (simp only [Bool.and_eq_true, Bool.or_eq_true, beq_iff_eq, decide_eq_true_eq, Bool.false_eq_true, and_false, false_and, and_true, true_and, not_false_eq_true, not_true_eq_false] at * <;> omega)
end Go.Proofs.YthdfedfholmbmaaGreatDoor

namespace Go.Proofs.YthdfedfholmbmaaGreatDoor
open Go.RowKit
theorem runeL_le (l : List UInt8) (i : Nat) : runeL l i ≤ 4 := by
 unfold runeL
 (repeat' split) <;> omega
theorem valid_step (l : List UInt8) (i : Nat) (h : i < l.length) : Lib.validD (l.drop i) = if runeL l i = 0 then false else Lib.validD (l.drop (i + runeL l i)) := by
 have h1 := utfFrom_valid l (l.length - i) i (Nat.le_refl _)
 obtain ⟨f, hf⟩ : ∃ f, l.length - i = f + 1 := ⟨l.length - i - 1, by omega⟩
 rw [hf] at h1
 rw [← h1]
 unfold utfFrom
 have h' : ¬ l.length ≤ i := by omega
 by_cases h0 : runeL l i = 0
 ·simp [h', h0]
 ·have h2 := utfFrom_valid l f (i + runeL l i) (by omega)
  simp [h', h0, h2]
theorem valid_end (l : List UInt8) (i : Nat) (h : l.length ≤ i) : Lib.validD (l.drop i) = true := by
 rw [List.drop_eq_nil_of_le h]; rfl
theorem utfR_any (l : List UInt8) (w : World) (hl : l.length ≤ 140737488355328) : Calls Tryz.prog 120 #[.string (strB l)] w fun e w' => e = .returned (.bool (Lib.validD l)) ∧ w = w' := by
 have hsz : (strB l).size = l.length := rfl
 have z1 : (l.length : Int) ≤ 140737488355328 := by omega
 have HL := Lib.hid hl
 go_enter Tryz.func120, Tryz.ntmps120
 go_wp2
 go_loopw [3] (fun i W => ∃ j : Nat, j ≤ l.length + 4 ∧ i = .int .i64 (j : Int) ∧ Hid (Lib.validD l = Lib.validD (l.drop j)) ∧ w = W) (fun i _ => l.length - (intOf i).toNat)
 case atStart => exact ⟨0, by omega, rfl, Lib.hid rfl, rfl⟩
 case round =>
  obtain ⟨j, hj, rfl, HQ, rfl⟩ := hrel
  have zj : (j : Int) ≤ 140737488355332 := by omega
  by_cases hlt : j < l.length
  ·have hst := valid_step l j hlt
   have hrl := runeL_le l j
   have HC := Lib.hid (runeAt_any l j w hlt HL.out)
   by_cases h0 : runeL l j = 0
   ·rw [if_pos h0] at hst
    rw [h0] at HC
    have HS := Lib.hid hst
    clear hst h0 hrl
    go_wp2_with (go_at_call 152; refine HC.out.mono ?_; rintro e w' ⟨rfl, rfl⟩)
    go_ret
    exact ⟨Kav (by rw [HQ.out, HS.out]), rfl⟩
   ·rw [if_neg h0] at hst
    generalize runeL l j = r at *
    have HS := Lib.hid (HQ.out.trans hst)
    have hr0 : ¬ (r : Int) = 0 := by omega
    have hr1 : ((r : Int) == 0) = false := by rw [beq_eq_false_iff_ne]; omega
    have zr : (r : Int) ≤ 4 := by omega
    clear hst HQ
    go_wp2_with (go_at_call 152; refine HC.out.mono ?_; rintro e w' ⟨rfl, rfl⟩)
    go_roundw
    case rel => exact ⟨j + r, by omega, by go_num, HS, trivial⟩
    case measure => simp [intOf]; omega
  ·have he := valid_end l j (by omega)
   go_wp2
   go_ret
   exact ⟨Kav (by rw [HQ.out, he]), rfl⟩
end Go.Proofs.YthdfedfholmbmaaGreatDoor

namespace Go.Proofs.YthdfedfholmbmaaGreatDoor
open Go.RowKit
theorem isE {α : Type} (l : List α) : l.isEmpty = ((l.length : Int) == 0) := by cases l <;> simp <;> omega
theorem bareR_any {v : V} {w : World} {x : Array Value} (hx : VRd w v x) : Calls Tryz.prog 119 #[.agg x] w fun e w' => e = .returned (.bool (bareV v)) ∧ Below w.heap.size w w' := by
 have hT := OneB.start w x
 cases v with
 | mk k b n t ks l =>
   obtain ⟨pk, ck, pl, cl, rfl, htx, hk1, hl1⟩ := Kb8.1 hx
   have zt : (strB t).size = t.length := rfl
   have z1 : (ks.length : Int) ≤ 140737488355328 := by have := hk1.1; have := hk1.2.1; omega
   have z2 : (l.length : Int) ≤ 140737488355328 := by have := hl1.1.2.1; omega
   have hb : bareV (.mk k b n t ks l) = ((k == 1 || !b) && (k == 2 || k == 6 || k == 7 || n == 0) && (k == 3 || t.isEmpty) && (k == 5 || ks.isEmpty) && (k == 4 || k == 5 || l.isEmpty)) := rfl
   rw [hb]
   have HT := Lib.hid hT
   clear hx hk1 hl1 hT hb htx
   go_enter Tryz.func119, Tryz.ntmps119
   go_wp2
   all_goals
    go_ret
    refine ⟨Kav ?_, Kae _⟩
    try rw [isE ks]
    try rw [isE l]
    simp_all [Kbz]
end Go.Proofs.YthdfedfholmbmaaGreatDoor

namespace Go.Proofs.YthdfedfholmbmaaGreatDoor
open Go.RowKit
def headV (u : List UInt8 → Bool) (v : V) : Bool :=
 decide (0 ≤ v.kind) && decide (v.kind ≤ 7) && bareV v && (!(v.kind == 6 || v.kind == 7) || decide (0 ≤ v.n)) && u v.text && (!(v.kind == 5) || v.keys.length == v.list.length)
theorem oneV_head (u : List UInt8 → Bool) (v : V) : oneV u v = (headV u v && v.keys.all u && Ka7 v.keys) := rfl
theorem mayV_head (u : List UInt8 → Bool) (k : Int) (b : Bool) (n : Int) (t : List UInt8) (ks : List (List UInt8)) (l : List V) : mayV u (.mk k b n t ks l) = (headV u (.mk k b n t ks l) && ks.all u && Ka7 ks && mayVs u l) := by
 rw [mayV, oneV_head]; rfl
theorem mayVs_all (u : List UInt8 → Bool) (l : List V) : mayVs u l = l.all (mayV u) := by
 induction l with
 | nil => rfl
 | cons a r ih => rw [mayVs, ih]; rfl
def KeysOk (l : List (List UInt8)) : Prop := l.all Lib.validD = true ∧ Ka7 l = true
structure MayNo (l : List V) : Prop where
 no : l.all (mayV Lib.validD) = false
def ValsOk (l : List V) : Prop := l.all (mayV Lib.validD) = true
structure KeyU (w : World) (X : Array Value) (bk o1 o2 : Nat) (s1 s2 : List UInt8) (W : World) : Prop where
 box : OneB w W X
 one : W.cell? ⟨bk, o1, none⟩ = some (.string (strB s1))
 two : W.cell? ⟨bk, o2, none⟩ = some (.string (strB s2))
theorem geq_str (s1 s2 : List UInt8) (W : World) : (binOp .geq 9 (.string (strB s1)) (.string (strB s2))).run Tryz.prog W = .ok (.bool (!(ltB s1 s2))) W := by
 simp [go_sem, Kbz, less_eq]
theorem mayR_any : ∀ (v : V) (w : World) (x : Array Value), VRd w v x → Calls Tryz.prog 65 #[.agg x] w fun e w' => e = .returned (.bool (mayV Lib.validD v)) ∧ Below w.heap.size w w' := by
 refine V.ind fun k b n t ks l ih => ?_
 intro w x hx
 have HBR := Lib.hid (fun (W : World) (hb : Below w.heap.size w W) => bareR_any (hx.below hb))
 rw [mayV_head, mayVs_all]
 have hT := OneB.start w x
 obtain ⟨pk, ck, pl, cl, rfl, htx, hk1, hl1⟩ := Kb8.1 hx
 have z1 : (ks.length : Int) ≤ 140737488355328 := by have := hk1.1; have := hk1.2.1; omega
 have z2 : (l.length : Int) ≤ 140737488355328 := by have := hl1.1.2.1; omega
 have hh : headV Lib.validD (.mk k b n t ks l) = (decide (0 ≤ k) && decide (k ≤ 7) && bareV (.mk k b n t ks l) && (!(k == 6 || k == 7) || decide (0 ≤ n)) && Lib.validD t && (!(k == 5) || ks.length == l.length)) := rfl
 have HU := Lib.hid (fun (W : World) => utfR_any t W htx)
 have HK := Lib.hid (And.intro hk1 (And.intro hl1 ih))
 have HT := Lib.hid hT
 have px0 := Kab (o := 0) hT.1 rfl; have px1 := Kab (o := 1) hT.1 rfl; have px2 := Kab (o := 2) hT.1 rfl; have px3 := Kab (o := 3) hT.1 rfl; have px4 := Kab (o := 4) hT.1 rfl; have px5 := Kab (o := 5) hT.1 rfl
 clear ih hx hk1 hl1 hT htx px0 px1 px2 px3 px4 px5
 generalize bareV (.mk k b n t ks l) = B at *
 generalize Lib.validD t = U at *
 cases hc : headV Lib.validD (.mk k b n t ks l) with
 | false =>
   rw [hc] at hh
   have hh2 : B = true → U = true → (k < 0 ∨ 7 < k ∨ ((k = 6 ∨ k = 7) ∧ n < 0) ∨ (k = 5 ∧ (ks.length : Int) ≠ l.length)) := by
    rintro rfl rfl
    by_cases h : k < 0 ∨ 7 < k ∨ ((k = 6 ∨ k = 7) ∧ n < 0) ∨ (k = 5 ∧ (ks.length : Int) ≠ l.length)
    ·exact h
    ·have : (decide (0 ≤ k) && decide (k ≤ 7) && true && (!(k == 6 || k == 7) || decide (0 ≤ n)) && true && (!(k == 5) || ks.length == l.length)) = true := by
      simp only [Bool.and_eq_true, decide_eq_true_eq, Bool.or_eq_true, Bool.not_eq_true', Bool.or_eq_false_iff, beq_eq_false_iff_ne, beq_iff_eq]
      exact ⟨⟨⟨⟨⟨by omega, by omega⟩, trivial⟩, by omega⟩, trivial⟩, by omega⟩
     rw [this] at hh
     cases hh
   have HH := Lib.hid hh2
   clear hh hc hh2
   by_cases hlen : (ks.length : Int) = l.length
   all_goals cases B
   all_goals cases U
   all_goals
    go_enter Tryz.func65, Tryz.ntmps65
    go_wp2_with (first
     | (go_at_call 119
        (
          refine (HBR.out _ HT.out.2).mono ?_
          rintro e w1 ⟨rfl, hb⟩
          have hT1 := HT.out.below hb
          have px0 := Kab (o := 0) hT1.1 rfl; have px1 := Kab (o := 1) hT1.1 rfl; have px2 := Kab (o := 2) hT1.1 rfl; have px3 := Kab (o := 3) hT1.1 rfl; have px4 := Kab (o := 4) hT1.1 rfl; have px5 := Kab (o := 5) hT1.1 rfl
          have HT := Lib.hid hT1
          clear hT1 hb))
     | (go_at_call 120; refine (HU.out _).mono ?_; rintro e w' ⟨rfl, rfl⟩))
    all_goals first
     | (go_ret; exact ⟨rfl, HT.out.2⟩)
     | (exfalso; have h := HH.out (by trivial) (by trivial); omega)
 | true =>
   rw [hc] at hh
   have h1 := hh.symm
   simp only [Bool.and_eq_true, decide_eq_true_eq, Bool.or_eq_true, Bool.not_eq_true', Bool.or_eq_false_iff, beq_eq_false_iff_ne, beq_iff_eq] at h1
   obtain ⟨⟨⟨⟨⟨k0, k7⟩, rfl⟩, h67⟩, rfl⟩, h5⟩ := h1
   clear hh hc
   have hcs : (k = 5 ∧ (ks.length : Int) = l.length) ∨ (k = 6 ∧ 0 ≤ n) ∨ (k = 7 ∧ 0 ≤ n) ∨ (0 ≤ k ∧ k ≤ 4) := by omega
   have g0 : ¬ k < 0 := by omega
   have g7 : ¬ 7 < k := by omega
   have hfacts : ((k == 5) = true ∧ (k == 6) = false ∧ (k == 7) = false ∧ ((ks.length : Int) != (l.length : Int)) = false) ∨ ((k == 5) = false ∧ (k == 6) = true ∧ (k == 7) = false ∧ ¬ n < 0) ∨ ((k == 5) = false ∧ (k == 6) = false ∧ (k == 7) = true ∧ ¬ n < 0) ∨ ((k == 5) = false ∧ (k == 6) = false ∧ (k == 7) = false ∧ (0 : Int) ≤ 0) := by
    simp only [beq_iff_eq, beq_eq_false_iff_ne, bne_eq_false_iff_eq]
    omega
   clear h67 h5 k0 k7 hcs
   rcases hfacts with ⟨d5, d6, d7, d8⟩ | ⟨d5, d6, d7, d8⟩ | ⟨d5, d6, d7, d8⟩ | ⟨d5, d6, d7, d8⟩
   all_goals
    go_enter Tryz.func65, Tryz.ntmps65
    go_wp2_with (first
     | (go_at_call 119
        (
          refine (HBR.out _ HT.out.2).mono ?_
          rintro e w1 ⟨rfl, hb⟩
          have hT1 := HT.out.below hb
          have px0 := Kab (o := 0) hT1.1 rfl; have px1 := Kab (o := 1) hT1.1 rfl; have px2 := Kab (o := 2) hT1.1 rfl; have px3 := Kab (o := 3) hT1.1 rfl; have px4 := Kab (o := 4) hT1.1 rfl; have px5 := Kab (o := 5) hT1.1 rfl
          have HT := Lib.hid hT1
          clear hT1 hb))
     | (go_at_call 120; refine (HU.out _).mono ?_; rintro e w' ⟨rfl, rfl⟩))
    clear d5 d6 d7 d8 g0 g7 px0 px1 px2 px3 px4 px5
    have HT0 := HT
    go_loopw [3] (fun i W => ∃ j : Nat, j ≤ ks.length ∧ i = .int .i64 (j : Int) ∧ Hid (KeysOk (ks.take j)) ∧ Hid (OneB w W #[.int .i64 k, .bool b, .int .i64 n, .string (strB t), .slice pk ks.length ck, .slice pl l.length cl])) (fun i _ => ks.length - (intOf i).toNat)
    case atStart => exact ⟨0, Nat.zero_le _, rfl, Lib.hid ⟨rfl, rfl⟩, HT0⟩
    case round =>
     clear HT HT0
     obtain ⟨j, hj, rfl, HQ, HT⟩ := hrel
     have hT1 := HT.out
     have px0 := Kab (o := 0) hT1.1 rfl; have px1 := Kab (o := 1) hT1.1 rfl; have px2 := Kab (o := 2) hT1.1 rfl; have px3 := Kab (o := 3) hT1.1 rfl; have px4 := Kab (o := 4) hT1.1 rfl; have px5 := Kab (o := 5) hT1.1 rfl
     by_cases hlt : j < ks.length
     ·have hlt1 : j + 1 ≤ ks.length := hlt
      obtain ⟨bk, ok, rfl, q0, ql⟩ := (HK.out.1.below hT1.2).get hlt
      have hcu := fun (W : World) => utfR_any ks[j] W ql
      have htk : ks.take (j + 1) = ks.take j ++ [ks[j]] := List.take_succ_eq_append_getElem hlt
      have hall : (ks.take (j + 1)).all Lib.validD = Lib.validD ks[j] := by rw [htk, List.all_append, HQ.out.1]; simp
      have hno : Lib.validD ks[j] = false → ks.all Lib.validD = false := fun h => List.all_eq_false.2 ⟨ks[j], List.getElem_mem hlt, by rw [h]; simp⟩
      clear hT1 ql
      go_wp2
      cases hv : Lib.validD ks[j] with
      | false =>
        simp only [hv] at hcu
        have hU : KeyU w #[.int .i64 k, .bool b, .int .i64 n, .string (strB t), .slice (some ⟨bk, ok, none⟩) ks.length ck, .slice pl l.length cl] bk (ok + j) (ok + j) ks[j] ks[j] wr.drew := ⟨HT.out.below (Below.refl _ _).drew, q0, q0⟩
        refine Kai (fun W => KeyU w #[.int .i64 k, .bool b, .int .i64 n, .string (strB t), .slice (some ⟨bk, ok, none⟩) ks.length ck, .slice pl l.length cl] bk (ok + j) (ok + j) ks[j] ks[j] W) (by kernel_rfl) hU (fun hU => ?_)
        refine tk 0 60 (v := .pointer (some ⟨w.heap.size, 4, none⟩)) rfl rfl (fun W hW => Kad rfl rfl (Kbd _ _ (by decide) W)) ?_
        simp only [Act.put, sA, sZ, sS]
        refine tk 1 61 (v := .slice (some ⟨bk, ok, none⟩) ks.length ck) rfl rfl (fun W hW => Kaf rfl rfl (Kaj (w := W) Tryz.underlying45 rfl (Kab hW.box.1 rfl))) ?_
        simp only [Act.put, sA, sZ, sS]
        refine tk 2 62 (v := .int .i64 (j : Int)) rfl rfl (fun W hW => Kag rfl rfl) ?_
        simp only [Act.put, sA, sZ, sS]
        refine tk 3 63 (v := .pointer (some ⟨bk, ok + j, none⟩)) rfl rfl (fun W hW => Kao rfl rfl rfl (Kd6 _ _ _ _ _ hlt W)) ?_
        simp only [Act.put, sA, sZ, sS]
        refine tk 4 64 (v := .string (strB ks[j])) rfl rfl (fun W hW => Kaf rfl rfl (Kaj (w := W) Tryz.underlying9 rfl hW.two)) ?_
        simp only [Act.put, sA, sZ, sS]
        refine Ka2 5 65 rfl rfl (by kernel_rfl) rfl (Kau [.string (strB ks[j])] rfl rfl Tryz.func120 (by kernel_rfl) (by kernel_rfl)) ?_
        refine (hcu _).mono ?_
        rintro e w' ⟨rfl, rfl⟩
        refine ⟨_, rfl, .inr (by assumption), ?_⟩
        simp only [Act.put, sA, sZ, sS]
        refine tk 6 66 (v := .bool true) rfl rfl (fun W hW => Kaw (b := false) rfl rfl) ?_
        simp only [Act.put, sA, sZ, sS]
        refine tk 7 67 (v := .bool true) rfl rfl (fun W hW => Kag rfl rfl) ?_
        simp only [Act.put, sA, sZ, sS]
        refine Kah 8 68 rfl rfl (by kernel_rfl) (by kernel_rfl) (by kernel_rfl) rfl (by assumption) ?_
        simp only [Act.put, sA, sZ, sS]
        refine Kah 9 69 rfl rfl (by kernel_rfl) (by kernel_rfl) (by kernel_rfl) rfl (by assumption) ?_
        simp only [Act.put, sA, sZ, sS]
        refine Kah 10 70 rfl rfl (by kernel_rfl) (by kernel_rfl) (by kernel_rfl) rfl (by assumption) ?_
        simp only [Act.put, sA, sZ, sS]
        refine Kah 11 71 rfl rfl (by kernel_rfl) (by kernel_rfl) (by kernel_rfl) rfl (by assumption) ?_
        simp only [Act.put, sA, sZ, sS]
        refine Kah 12 72 rfl rfl (by kernel_rfl) (by kernel_rfl) (by kernel_rfl) rfl (by assumption) ?_
        simp only [Act.put, sA, sZ, sS]
        refine Kah 13 73 rfl rfl (by kernel_rfl) (by kernel_rfl) (by kernel_rfl) rfl (by assumption) ?_
        simp only [Act.put, sA, sZ, sS]
        refine Kah 14 74 rfl rfl (by kernel_rfl) (by kernel_rfl) (by kernel_rfl) rfl (by assumption) ?_
        simp only [Act.put, sA, sZ, sS]
        refine Kah 15 75 rfl rfl (by kernel_rfl) (by kernel_rfl) (by kernel_rfl) rfl (by assumption) ?_
        simp only [Act.put, sA, sZ, sS]
        refine Kah 16 76 rfl rfl (by kernel_rfl) (by kernel_rfl) (by kernel_rfl) rfl (by assumption) ?_
        simp only [Act.put, sA, sZ, sS]
        refine Kah 17 77 rfl rfl (by kernel_rfl) (by kernel_rfl) (by kernel_rfl) rfl (by assumption) ?_
        simp only [Act.put, sA, sZ, sS]
        refine Kah 18 78 rfl rfl (by kernel_rfl) (by kernel_rfl) (by kernel_rfl) rfl (by assumption) ?_
        simp only [Act.put, sA, sZ, sS]
        refine Kah 19 79 rfl rfl (by kernel_rfl) (by kernel_rfl) (by kernel_rfl) rfl (by assumption) ?_
        simp only [Act.put, sA, sZ, sS]
        refine Kah 20 80 rfl rfl (by kernel_rfl) (by kernel_rfl) (by kernel_rfl) rfl (by assumption) ?_
        simp only [Act.put, sA, sZ, sS]
        refine Kah 21 81 rfl rfl (by kernel_rfl) (by kernel_rfl) (by kernel_rfl) rfl (by assumption) ?_
        simp only [Act.put, sA, sZ, sS]
        refine Kah 22 82 rfl rfl (by kernel_rfl) (by kernel_rfl) (by kernel_rfl) rfl (by assumption) ?_
        simp only [Act.put, sA, sZ, sS]
        refine Kah 23 83 rfl rfl (by kernel_rfl) (by kernel_rfl) (by kernel_rfl) rfl (by assumption) ?_
        simp only [Act.put, sA, sZ, sS]
        refine tk 24 84 (v := .bool true) rfl rfl (fun W hW => rfl) ?_
        simp only [Act.put, sA, sZ, sS]
        refine done (by kernel_rfl) ?_ _
        go_wp2
        go_ret
        exact ⟨Kav (by rw [hno hv]; simp), hU.box.2⟩
      | true =>
        simp only [hv] at hcu
        rw [hv] at hall
        by_cases hj0 : j = 0
        ·have hgt : ∀ W : World, (binOp .gtr 3 (.int .i64 (j : Int)) (.int .i64 0)).run Tryz.prog W = .ok (.bool false) W := by
          intro W; simp [go_sem, hj0]
         have hU : KeyU w #[.int .i64 k, .bool b, .int .i64 n, .string (strB t), .slice (some ⟨bk, ok, none⟩) ks.length ck, .slice pl l.length cl] bk (ok + j) (ok + j) ks[j] ks[j] wr.drew := ⟨HT.out.below (Below.refl _ _).drew, q0, q0⟩
         refine Kai (fun W => KeyU w #[.int .i64 k, .bool b, .int .i64 n, .string (strB t), .slice (some ⟨bk, ok, none⟩) ks.length ck, .slice pl l.length cl] bk (ok + j) (ok + j) ks[j] ks[j] W) (by kernel_rfl) hU (fun hU => ?_)
         refine tk 0 60 (v := .pointer (some ⟨w.heap.size, 4, none⟩)) rfl rfl (fun W hW => Kad rfl rfl (Kbd _ _ (by decide) W)) ?_
         simp only [Act.put, sA, sZ, sS]
         refine tk 1 61 (v := .slice (some ⟨bk, ok, none⟩) ks.length ck) rfl rfl (fun W hW => Kaf rfl rfl (Kaj (w := W) Tryz.underlying45 rfl (Kab hW.box.1 rfl))) ?_
         simp only [Act.put, sA, sZ, sS]
         refine tk 2 62 (v := .int .i64 (j : Int)) rfl rfl (fun W hW => Kag rfl rfl) ?_
         simp only [Act.put, sA, sZ, sS]
         refine tk 3 63 (v := .pointer (some ⟨bk, ok + j, none⟩)) rfl rfl (fun W hW => Kao rfl rfl rfl (Kd6 _ _ _ _ _ hlt W)) ?_
         simp only [Act.put, sA, sZ, sS]
         refine tk 4 64 (v := .string (strB ks[j])) rfl rfl (fun W hW => Kaf rfl rfl (Kaj (w := W) Tryz.underlying9 rfl hW.two)) ?_
         simp only [Act.put, sA, sZ, sS]
         refine Ka2 5 65 rfl rfl (by kernel_rfl) rfl (Kau [.string (strB ks[j])] rfl rfl Tryz.func120 (by kernel_rfl) (by kernel_rfl)) ?_
         refine (hcu _).mono ?_
         rintro e w' ⟨rfl, rfl⟩
         refine ⟨_, rfl, .inr (by assumption), ?_⟩
         simp only [Act.put, sA, sZ, sS]
         refine tk 6 66 (v := .bool false) rfl rfl (fun W hW => Kaw (b := true) rfl rfl) ?_
         simp only [Act.put, sA, sZ, sS]
         refine tk 7 67 (v := .bool false) rfl rfl (fun W hW => Kag rfl rfl) ?_
         simp only [Act.put, sA, sZ, sS]
         refine tk 8 68 (v := .int .i64 (j : Int)) rfl rfl (fun W hW => Kag rfl rfl) ?_
         simp only [Act.put, sA, sZ, sS]
         refine tk 9 69 (v := .bool false) rfl rfl (fun W hW => Kaq rfl rfl rfl (hgt W)) ?_
         simp only [Act.put, sA, sZ, sS]
         refine tk 10 70 (v := .bool false) rfl rfl (fun W hW => Kag rfl rfl) ?_
         simp only [Act.put, sA, sZ, sS]
         refine Kah 11 71 rfl rfl (by kernel_rfl) (by kernel_rfl) (by kernel_rfl) rfl (by assumption) ?_
         simp only [Act.put, sA, sZ, sS]
         refine Kah 12 72 rfl rfl (by kernel_rfl) (by kernel_rfl) (by kernel_rfl) rfl (by assumption) ?_
         simp only [Act.put, sA, sZ, sS]
         refine Kah 13 73 rfl rfl (by kernel_rfl) (by kernel_rfl) (by kernel_rfl) rfl (by assumption) ?_
         simp only [Act.put, sA, sZ, sS]
         refine Kah 14 74 rfl rfl (by kernel_rfl) (by kernel_rfl) (by kernel_rfl) rfl (by assumption) ?_
         simp only [Act.put, sA, sZ, sS]
         refine Kah 15 75 rfl rfl (by kernel_rfl) (by kernel_rfl) (by kernel_rfl) rfl (by assumption) ?_
         simp only [Act.put, sA, sZ, sS]
         refine Kah 16 76 rfl rfl (by kernel_rfl) (by kernel_rfl) (by kernel_rfl) rfl (by assumption) ?_
         simp only [Act.put, sA, sZ, sS]
         refine Kah 17 77 rfl rfl (by kernel_rfl) (by kernel_rfl) (by kernel_rfl) rfl (by assumption) ?_
         simp only [Act.put, sA, sZ, sS]
         refine Kah 18 78 rfl rfl (by kernel_rfl) (by kernel_rfl) (by kernel_rfl) rfl (by assumption) ?_
         simp only [Act.put, sA, sZ, sS]
         refine Kah 19 79 rfl rfl (by kernel_rfl) (by kernel_rfl) (by kernel_rfl) rfl (by assumption) ?_
         simp only [Act.put, sA, sZ, sS]
         refine Kah 20 80 rfl rfl (by kernel_rfl) (by kernel_rfl) (by kernel_rfl) rfl (by assumption) ?_
         simp only [Act.put, sA, sZ, sS]
         refine Kah 21 81 rfl rfl (by kernel_rfl) (by kernel_rfl) (by kernel_rfl) rfl (by assumption) ?_
         simp only [Act.put, sA, sZ, sS]
         refine Kah 22 82 rfl rfl (by kernel_rfl) (by kernel_rfl) (by kernel_rfl) rfl (by assumption) ?_
         simp only [Act.put, sA, sZ, sS]
         refine tk 23 83 (v := .bool false) rfl rfl (fun W hW => rfl) ?_
         simp only [Act.put, sA, sZ, sS]
         refine tk 24 84 (v := .bool false) rfl rfl (fun W hW => rfl) ?_
         simp only [Act.put, sA, sZ, sS]
         refine done (by kernel_rfl) ?_ _
         have hr : Ka7 (ks.take (j + 1)) = true := by
          have e : ks.take j = [] := by rw [hj0]; rfl
          rw [htk, e]; rfl
         have HN := Lib.hid (show KeysOk (ks.take (j + 1)) from And.intro hall hr)
         have HT0 := Lib.hid hU.box
         have px4 := Kab (o := 4) hU.box.1 rfl
         clear hU hcu htk hall hno hr q0 HQ
         go_wp2
         go_roundw
         case rel => exact ⟨j + 1, hlt1, by go_num, HN, HT0⟩
         case measure => simp [intOf]; omega
        ·obtain ⟨m, hm⟩ : ∃ m, j = m + 1 := ⟨j - 1, by omega⟩
         have hmn : m < ks.length := by omega
         obtain ⟨bk', ok', hp', q1, _⟩ := (HK.out.1.below HT.out.2).get hmn
         cases hp'
         have hgt : ∀ W : World, (binOp .gtr 3 (.int .i64 (j : Int)) (.int .i64 0)).run Tryz.prog W = .ok (.bool true) W := by
          intro W; simp [go_sem]; omega
         have hsub : ∀ W : World, (binOp .sub 3 (.int .i64 (j : Int)) (.int .i64 1)).run Tryz.prog W = .ok (.int .i64 (m : Int)) W := by
          intro W
          have e : IntKind.i64.wrap ((j : Int) - 1) = m := by simp [IntKind.wrap, IntKind.signed, IntKind.bits]; omega
          simp [go_sem, e]
         have hU : KeyU w #[.int .i64 k, .bool b, .int .i64 n, .string (strB t), .slice (some ⟨bk, ok, none⟩) ks.length ck, .slice pl l.length cl] bk (ok + m) (ok + j) ks[m] ks[j] wr.drew := ⟨HT.out.below (Below.refl _ _).drew, q1, q0⟩
         have hrs : Ka7 (ks.take (j + 1)) = (Ka7 (ks.take j) && ltB ks[m] ks[j]) := by
          have h1 := Kdo (l := ks) (j := m) (by omega)
          have e3 : ks[m + 1]'(by omega) = ks[j] := by simp only [hm]
          rw [show ks.take (j + 1) = ks.take (m + 2) by rw [hm], h1, e3, show ks.take (m + 1) = ks.take j by rw [hm]]
         cases hlb : ltB ks[m] ks[j] with
         | false =>
           have hge : ∀ W : World, (binOp .geq 9 (.string (strB ks[m])) (.string (strB ks[j]))).run Tryz.prog W = .ok (.bool true) W := fun W => by rw [geq_str, hlb]; rfl
           refine Kai (fun W => KeyU w #[.int .i64 k, .bool b, .int .i64 n, .string (strB t), .slice (some ⟨bk, ok, none⟩) ks.length ck, .slice pl l.length cl] bk (ok + m) (ok + j) ks[m] ks[j] W) (by kernel_rfl) hU (fun hU => ?_)
           refine tk 0 60 (v := .pointer (some ⟨w.heap.size, 4, none⟩)) rfl rfl (fun W hW => Kad rfl rfl (Kbd _ _ (by decide) W)) ?_
           simp only [Act.put, sA, sZ, sS]
           refine tk 1 61 (v := .slice (some ⟨bk, ok, none⟩) ks.length ck) rfl rfl (fun W hW => Kaf rfl rfl (Kaj (w := W) Tryz.underlying45 rfl (Kab hW.box.1 rfl))) ?_
           simp only [Act.put, sA, sZ, sS]
           refine tk 2 62 (v := .int .i64 (j : Int)) rfl rfl (fun W hW => Kag rfl rfl) ?_
           simp only [Act.put, sA, sZ, sS]
           refine tk 3 63 (v := .pointer (some ⟨bk, ok + j, none⟩)) rfl rfl (fun W hW => Kao rfl rfl rfl (Kd6 _ _ _ _ _ hlt W)) ?_
           simp only [Act.put, sA, sZ, sS]
           refine tk 4 64 (v := .string (strB ks[j])) rfl rfl (fun W hW => Kaf rfl rfl (Kaj (w := W) Tryz.underlying9 rfl hW.two)) ?_
           simp only [Act.put, sA, sZ, sS]
           refine Ka2 5 65 rfl rfl (by kernel_rfl) rfl (Kau [.string (strB ks[j])] rfl rfl Tryz.func120 (by kernel_rfl) (by kernel_rfl)) ?_
           refine (hcu _).mono ?_
           rintro e w' ⟨rfl, rfl⟩
           refine ⟨_, rfl, .inr (by assumption), ?_⟩
           simp only [Act.put, sA, sZ, sS]
           refine tk 6 66 (v := .bool false) rfl rfl (fun W hW => Kaw (b := true) rfl rfl) ?_
           simp only [Act.put, sA, sZ, sS]
           refine tk 7 67 (v := .bool false) rfl rfl (fun W hW => Kag rfl rfl) ?_
           simp only [Act.put, sA, sZ, sS]
           refine tk 8 68 (v := .int .i64 (j : Int)) rfl rfl (fun W hW => Kag rfl rfl) ?_
           simp only [Act.put, sA, sZ, sS]
           refine tk 9 69 (v := .bool true) rfl rfl (fun W hW => Kaq rfl rfl rfl (hgt W)) ?_
           simp only [Act.put, sA, sZ, sS]
           refine tk 10 70 (v := .bool true) rfl rfl (fun W hW => Kag rfl rfl) ?_
           simp only [Act.put, sA, sZ, sS]
           refine tk 11 71 (v := .pointer (some ⟨w.heap.size, 4, none⟩)) rfl rfl (fun W hW => Kad rfl rfl (Kbd _ _ (by decide) W)) ?_
           simp only [Act.put, sA, sZ, sS]
           refine tk 12 72 (v := .slice (some ⟨bk, ok, none⟩) ks.length ck) rfl rfl (fun W hW => Kaf rfl rfl (Kaj (w := W) Tryz.underlying45 rfl (Kab hW.box.1 rfl))) ?_
           simp only [Act.put, sA, sZ, sS]
           refine tk 13 73 (v := .int .i64 (j : Int)) rfl rfl (fun W hW => Kag rfl rfl) ?_
           simp only [Act.put, sA, sZ, sS]
           refine tk 14 74 (v := .int .i64 (m : Int)) rfl rfl (fun W hW => Kaq rfl rfl rfl (hsub W)) ?_
           simp only [Act.put, sA, sZ, sS]
           refine tk 15 75 (v := .pointer (some ⟨bk, ok + m, none⟩)) rfl rfl (fun W hW => Kao rfl rfl rfl (Kd6 _ _ _ _ _ hmn W)) ?_
           simp only [Act.put, sA, sZ, sS]
           refine tk 16 76 (v := .string (strB ks[m])) rfl rfl (fun W hW => Kaf rfl rfl (Kaj (w := W) Tryz.underlying9 rfl hW.one)) ?_
           simp only [Act.put, sA, sZ, sS]
           refine tk 17 77 (v := .pointer (some ⟨w.heap.size, 4, none⟩)) rfl rfl (fun W hW => Kad rfl rfl (Kbd _ _ (by decide) W)) ?_
           simp only [Act.put, sA, sZ, sS]
           refine tk 18 78 (v := .slice (some ⟨bk, ok, none⟩) ks.length ck) rfl rfl (fun W hW => Kaf rfl rfl (Kaj (w := W) Tryz.underlying45 rfl (Kab hW.box.1 rfl))) ?_
           simp only [Act.put, sA, sZ, sS]
           refine tk 19 79 (v := .int .i64 (j : Int)) rfl rfl (fun W hW => Kag rfl rfl) ?_
           simp only [Act.put, sA, sZ, sS]
           refine tk 20 80 (v := .pointer (some ⟨bk, ok + j, none⟩)) rfl rfl (fun W hW => Kao rfl rfl rfl (Kd6 _ _ _ _ _ hlt W)) ?_
           simp only [Act.put, sA, sZ, sS]
           refine tk 21 81 (v := .string (strB ks[j])) rfl rfl (fun W hW => Kaf rfl rfl (Kaj (w := W) Tryz.underlying9 rfl hW.two)) ?_
           simp only [Act.put, sA, sZ, sS]
           refine tk 22 82 (v := .bool true) rfl rfl (fun W hW => Kdq rfl rfl rfl (hge W)) ?_
           simp only [Act.put, sA, sZ, sS]
           refine tk 23 83 (v := .bool true) rfl rfl (fun W hW => rfl) ?_
           simp only [Act.put, sA, sZ, sS]
           refine tk 24 84 (v := .bool true) rfl rfl (fun W hW => rfl) ?_
           simp only [Act.put, sA, sZ, sS]
           refine done (by kernel_rfl) ?_ _
           have hrf : Ka7 ks = false := by
            cases hrb : Ka7 ks with
            | false => rfl
            | true =>
              have := Kei hrb (j + 1) hlt1
              rw [hrs, hlb] at this
              simp at this
           go_wp2
           go_ret
           exact ⟨Kav (by rw [hrf]; simp), hU.box.2⟩
         | true =>
           have hge : ∀ W : World, (binOp .geq 9 (.string (strB ks[m])) (.string (strB ks[j]))).run Tryz.prog W = .ok (.bool false) W := fun W => by rw [geq_str, hlb]; rfl
           refine Kai (fun W => KeyU w #[.int .i64 k, .bool b, .int .i64 n, .string (strB t), .slice (some ⟨bk, ok, none⟩) ks.length ck, .slice pl l.length cl] bk (ok + m) (ok + j) ks[m] ks[j] W) (by kernel_rfl) hU (fun hU => ?_)
           refine tk 0 60 (v := .pointer (some ⟨w.heap.size, 4, none⟩)) rfl rfl (fun W hW => Kad rfl rfl (Kbd _ _ (by decide) W)) ?_
           simp only [Act.put, sA, sZ, sS]
           refine tk 1 61 (v := .slice (some ⟨bk, ok, none⟩) ks.length ck) rfl rfl (fun W hW => Kaf rfl rfl (Kaj (w := W) Tryz.underlying45 rfl (Kab hW.box.1 rfl))) ?_
           simp only [Act.put, sA, sZ, sS]
           refine tk 2 62 (v := .int .i64 (j : Int)) rfl rfl (fun W hW => Kag rfl rfl) ?_
           simp only [Act.put, sA, sZ, sS]
           refine tk 3 63 (v := .pointer (some ⟨bk, ok + j, none⟩)) rfl rfl (fun W hW => Kao rfl rfl rfl (Kd6 _ _ _ _ _ hlt W)) ?_
           simp only [Act.put, sA, sZ, sS]
           refine tk 4 64 (v := .string (strB ks[j])) rfl rfl (fun W hW => Kaf rfl rfl (Kaj (w := W) Tryz.underlying9 rfl hW.two)) ?_
           simp only [Act.put, sA, sZ, sS]
           refine Ka2 5 65 rfl rfl (by kernel_rfl) rfl (Kau [.string (strB ks[j])] rfl rfl Tryz.func120 (by kernel_rfl) (by kernel_rfl)) ?_
           refine (hcu _).mono ?_
           rintro e w' ⟨rfl, rfl⟩
           refine ⟨_, rfl, .inr (by assumption), ?_⟩
           simp only [Act.put, sA, sZ, sS]
           refine tk 6 66 (v := .bool false) rfl rfl (fun W hW => Kaw (b := true) rfl rfl) ?_
           simp only [Act.put, sA, sZ, sS]
           refine tk 7 67 (v := .bool false) rfl rfl (fun W hW => Kag rfl rfl) ?_
           simp only [Act.put, sA, sZ, sS]
           refine tk 8 68 (v := .int .i64 (j : Int)) rfl rfl (fun W hW => Kag rfl rfl) ?_
           simp only [Act.put, sA, sZ, sS]
           refine tk 9 69 (v := .bool true) rfl rfl (fun W hW => Kaq rfl rfl rfl (hgt W)) ?_
           simp only [Act.put, sA, sZ, sS]
           refine tk 10 70 (v := .bool true) rfl rfl (fun W hW => Kag rfl rfl) ?_
           simp only [Act.put, sA, sZ, sS]
           refine tk 11 71 (v := .pointer (some ⟨w.heap.size, 4, none⟩)) rfl rfl (fun W hW => Kad rfl rfl (Kbd _ _ (by decide) W)) ?_
           simp only [Act.put, sA, sZ, sS]
           refine tk 12 72 (v := .slice (some ⟨bk, ok, none⟩) ks.length ck) rfl rfl (fun W hW => Kaf rfl rfl (Kaj (w := W) Tryz.underlying45 rfl (Kab hW.box.1 rfl))) ?_
           simp only [Act.put, sA, sZ, sS]
           refine tk 13 73 (v := .int .i64 (j : Int)) rfl rfl (fun W hW => Kag rfl rfl) ?_
           simp only [Act.put, sA, sZ, sS]
           refine tk 14 74 (v := .int .i64 (m : Int)) rfl rfl (fun W hW => Kaq rfl rfl rfl (hsub W)) ?_
           simp only [Act.put, sA, sZ, sS]
           refine tk 15 75 (v := .pointer (some ⟨bk, ok + m, none⟩)) rfl rfl (fun W hW => Kao rfl rfl rfl (Kd6 _ _ _ _ _ hmn W)) ?_
           simp only [Act.put, sA, sZ, sS]
           refine tk 16 76 (v := .string (strB ks[m])) rfl rfl (fun W hW => Kaf rfl rfl (Kaj (w := W) Tryz.underlying9 rfl hW.one)) ?_
           simp only [Act.put, sA, sZ, sS]
           refine tk 17 77 (v := .pointer (some ⟨w.heap.size, 4, none⟩)) rfl rfl (fun W hW => Kad rfl rfl (Kbd _ _ (by decide) W)) ?_
           simp only [Act.put, sA, sZ, sS]
           refine tk 18 78 (v := .slice (some ⟨bk, ok, none⟩) ks.length ck) rfl rfl (fun W hW => Kaf rfl rfl (Kaj (w := W) Tryz.underlying45 rfl (Kab hW.box.1 rfl))) ?_
           simp only [Act.put, sA, sZ, sS]
           refine tk 19 79 (v := .int .i64 (j : Int)) rfl rfl (fun W hW => Kag rfl rfl) ?_
           simp only [Act.put, sA, sZ, sS]
           refine tk 20 80 (v := .pointer (some ⟨bk, ok + j, none⟩)) rfl rfl (fun W hW => Kao rfl rfl rfl (Kd6 _ _ _ _ _ hlt W)) ?_
           simp only [Act.put, sA, sZ, sS]
           refine tk 21 81 (v := .string (strB ks[j])) rfl rfl (fun W hW => Kaf rfl rfl (Kaj (w := W) Tryz.underlying9 rfl hW.two)) ?_
           simp only [Act.put, sA, sZ, sS]
           refine tk 22 82 (v := .bool false) rfl rfl (fun W hW => Kdq rfl rfl rfl (hge W)) ?_
           simp only [Act.put, sA, sZ, sS]
           refine tk 23 83 (v := .bool false) rfl rfl (fun W hW => rfl) ?_
           simp only [Act.put, sA, sZ, sS]
           refine tk 24 84 (v := .bool false) rfl rfl (fun W hW => rfl) ?_
           simp only [Act.put, sA, sZ, sS]
           refine done (by kernel_rfl) ?_ _
           have hr : Ka7 (ks.take (j + 1)) = true := by rw [hrs, hlb, HQ.out.2]; rfl
           have HN := Lib.hid (show KeysOk (ks.take (j + 1)) from And.intro hall hr)
           have HT0 := Lib.hid hU.box
           have px4 := Kab (o := 4) hU.box.1 rfl
           clear hU hcu htk hall hno hr q0 q1 HQ hrs hm hsub hgt hge
           go_wp2
           go_roundw
           case rel => exact ⟨j + 1, hlt1, by go_num, HN, HT0⟩
           case measure => simp [intOf]; omega
     ·obtain rfl : j = ks.length := by omega
      have hR := HQ.out
      rw [List.take_length] at hR
      have HR := Lib.hid hR
      have HT0 := HT
      clear hT1 hR HQ
      go_wp2
      go_loopw [4] (fun i W => ∃ j : Nat, j ≤ l.length ∧ i = .int .i64 (j : Int) ∧ Hid (ValsOk (l.take j)) ∧ Hid (OneB w W #[.int .i64 k, .bool b, .int .i64 n, .string (strB t), .slice pk ks.length ck, .slice pl l.length cl])) (fun i _ => l.length - (intOf i).toNat)
      case atStart => exact ⟨0, Nat.zero_le _, rfl, Lib.hid rfl, HT0⟩
      case round =>
       clear HT HT0 px0 px1 px2 px3 px4 px5
       obtain ⟨j, hj, rfl, HQ, HT⟩ := hrel
       have hT1 := HT.out
       have px0 := Kab (o := 0) hT1.1 rfl; have px1 := Kab (o := 1) hT1.1 rfl; have px2 := Kab (o := 2) hT1.1 rfl; have px3 := Kab (o := 3) hT1.1 rfl; have px4 := Kab (o := 4) hT1.1 rfl; have px5 := Kab (o := 5) hT1.1 rfl
       by_cases hlt : j < l.length
       ·have hlt1 : j + 1 ≤ l.length := hlt
        obtain ⟨g1, o1, pk1, ck1, pl1, cl1, rfl, ⟨a0, a1, a2, a3, a4, a5⟩, hv1⟩ := (HK.out.2.1.below hT1.2).at hlt
        have hcall := HK.out.2.2 l[j] (List.getElem_mem hlt) _ _ hv1
        have htk : (l.take (j + 1)).all (mayV Lib.validD) = mayV Lib.validD l[j] := by
         have hq : (l.take j).all (mayV Lib.validD) = true := HQ.out
         rw [List.take_succ_eq_append_getElem hlt, List.all_append, hq]; simp
        have hno : mayV Lib.validD l[j] = false → l.all (mayV Lib.validD) = false := fun h => List.all_eq_false.2 ⟨l[j], List.getElem_mem hlt, by rw [h]; simp⟩
        generalize mayV Lib.validD l[j] = on at *
        generalize l[j] = s1 at *
        have hok : on = true → ValsOk (l.take (j + 1)) := fun h => htk.trans h
        have hnok : on = false → l.all (mayV Lib.validD) = false := hno
        cases on with
        | true =>
          have hv := hok rfl
          have HD := Lib.hid (And.intro hcall (And.intro hv hT1))
          clear hcall htk hno hv1 hT1 hok hnok hv
          go_wp2_with (go_at_call 65
                       (
                         refine HD.out.1.mono ?_
                         rintro e w3 ⟨rfl, hb3⟩
                         have HG := Lib.hid (HD.out.2.2.below hb3)
                         clear hb3))
          go_roundw
          case rel => exact ⟨j + 1, hlt1, by go_num, Lib.hid HD.out.2.1, HG⟩
          case measure => simp [intOf]; omega
        | false =>
          have hv := MayNo.mk (hnok rfl)
          have HD := Lib.hid (And.intro hcall (And.intro hv hT1))
          clear hcall htk hno hv1 hT1 hok hnok hv
          go_wp2_with (go_at_call 65
                       (
                         refine HD.out.1.mono ?_
                         rintro e w3 ⟨rfl, hb3⟩
                         have HG := Lib.hid (HD.out.2.2.below hb3)
                         clear hb3))
          go_ret
          exact ⟨Kav (by rw [HD.out.2.1.no]; simp), HG.out.2⟩
       ·obtain rfl : j = l.length := by omega
        have hQ := HQ.out
        rw [List.take_length] at hQ
        have HQ2 := Lib.hid hQ
        clear hT1 hQ
        go_wp2
        go_ret
        exact ⟨Kav (by rw [HR.out.1, HR.out.2, HQ2.out]; rfl), HT.out.2⟩
end Go.Proofs.YthdfedfholmbmaaGreatDoor

namespace Go.Proofs.YthdfedfholmbmaaGreatDoor
open Go.RowKit
theorem countV_mk (k : Int) (b : Bool) (n : Int) (t : List UInt8) (ks : List (List UInt8)) (l : List V) : countV (.mk k b n t ks l) = 1 + Kb2 l := by rw [countV]
theorem deepV_mk (k : Int) (b : Bool) (n : Int) (t : List UInt8) (ks : List (List UInt8)) (l : List V) : deepV (.mk k b n t ks l) = Kbx l + 1 := by rw [deepV]
theorem bytesV_mk (k : Int) (b : Bool) (n : Int) (t : List UInt8) (ks : List (List UInt8)) (l : List V) : Kc0 (.mk k b n t ks l) = t.length + (ks.map List.length).sum + Kbo l := by rw [Kc0]
theorem longV_mk (k : Int) (b : Bool) (n : Int) (t : List UInt8) (ks : List (List UInt8)) (l : List V) : longV (.mk k b n t ks l) = max l.length (Kb9 l) := by rw [longV]
theorem countVs_snoc (l : List V) (v : V) : Kb2 (l ++ [v]) = Kb2 l + countV v := by
 induction l with
 | nil => simp [Kb2]
 | cons a r ih => simp only [List.cons_append, Kb2, ih]; omega
theorem deepVs_snoc (l : List V) (v : V) : Kbx (l ++ [v]) = max (Kbx l) (deepV v) := by
 induction l with
 | nil => simp [Kbx]
 | cons a r ih => simp only [List.cons_append, Kbx, ih]; omega
theorem bytesVs_snoc (l : List V) (v : V) : Kbo (l ++ [v]) = Kbo l + Kc0 v := by
 induction l with
 | nil => simp [Kbo]
 | cons a r ih => simp only [List.cons_append, Kbo, ih]; omega
theorem longVs_snoc (l : List V) (v : V) : Kb9 (l ++ [v]) = max (Kb9 l) (longV v) := by
 induction l with
 | nil => simp [Kb9]
 | cons a r ih => simp only [List.cons_append, Kb9, ih]; omega
theorem sizes_tot : ∀ v : V, countV v ≤ totV v ∧ deepV v ≤ totV v ∧ Kc0 v ≤ totV v ∧ longV v ≤ totV v := by
 refine V.ind fun k b n t ks l ih => ?_
 have hl : Kb2 l ≤ totVs l ∧ Kbx l ≤ totVs l ∧ Kbo l ≤ totVs l ∧ Kb9 l ≤ totVs l := by
  induction l with
  | nil => simp [Kb2, Kbx, Kbo, Kb9]
  | cons a r ihr =>
    have h1 := ih a (by simp)
    have h2 := ihr fun v hv => ih v (by simp [hv])
    simp only [Kb2, Kbx, Kbo, Kb9, totVs]
    omega
 have hn := Kdc l
 rw [countV_mk, deepV_mk, bytesV_mk, longV_mk, Kd8]
 omega
theorem exec_lenB {a : Act} {w : World} {o : Oper} {x : Operand} {l : List UInt8} (ho : o.op = .call { callee := .builtin .len, args := #[x], argTypes := #[9] }) (hx : a.eval x = .string (strB l)) : (execOp a.eval o).run Tryz.prog w = .ok (.value (.int .i64 (l.length : Int))) w := by
 have e : (strB l).size = l.length := rfl
 unfold execOp; simp only [ho, resolve, invoke, Sem.run_bind, Sem.run_pure, Result.andThen_ok, List.map_toArray, List.map_cons, List.map_nil, hx]; simp [go_sem, e]
theorem keysum_take (ks : List (List UInt8)) (j : Nat) : ((ks.take j).map List.length).sum ≤ (ks.map List.length).sum := by
 have e : ks.take j ++ ks.drop j = ks := List.take_append_drop _ _
 have h := congrArg (fun l => (l.map List.length).sum) e
 simp only [List.map_append, List.sum_append] at h
 omega
theorem totVs_take (l : List V) (j : Nat) : totVs (l.take j) ≤ totVs l := by
 have e : l.take j ++ l.drop j = l := List.take_append_drop _ _
 have := congrArg totVs e
 rw [Kdw] at this
 omega
theorem sizes_tots (l : List V) : Kb2 l ≤ totVs l ∧ Kbx l ≤ totVs l ∧ Kbo l ≤ totVs l ∧ Kb9 l ≤ totVs l := by
 induction l with
 | nil => simp [Kb2, Kbx, Kbo, Kb9]
 | cons a r ihr =>
   have h1 := sizes_tot a
   simp only [Kb2, Kbx, Kbo, Kb9, totVs]
   omega
structure SixU (w : World) (X : Array Value) (bl o : Nat) (c0 c1 c2 c3 c4 c5 : Value) (W : World) : Prop where
 box : OneB w W X
 h0 : W.cell? ⟨bl, o, none⟩ = some c0
 h1 : W.cell? ⟨bl, o + 1, none⟩ = some c1
 h2 : W.cell? ⟨bl, o + 2, none⟩ = some c2
 h3 : W.cell? ⟨bl, o + 3, none⟩ = some c3
 h4 : W.cell? ⟨bl, o + 4, none⟩ = some c4
 h5 : W.cell? ⟨bl, o + 5, none⟩ = some c5
theorem SixU.keep {w W W' : World} {X : Array Value} {bl o : Nat} {c0 c1 c2 c3 c4 c5 : Value} (h : SixU w X bl o c0 c1 c2 c3 c4 c5 W) (b : Below W.heap.size W W') : SixU w X bl o c0 c1 c2 c3 c4 c5 W' :=
 ⟨h.box.below b, Kam b (ltOf h.h0) h.h0, Kam b (ltOf h.h1) h.h1, Kam b (ltOf h.h2) h.h2, Kam b (ltOf h.h3) h.h3, Kam b (ltOf h.h4) h.h4, Kam b (ltOf h.h5) h.h5⟩
theorem sizeR_any : ∀ (v : V) (w : World) (x : Array Value), totV v ≤ 1099511627776 → VRd w v x →
 Calls Tryz.prog 66 #[.agg x] w fun e w' => e = .returned (.tuple #[.int .i64 (countV v : Int), .int .i64 (deepV v : Int), .int .i64 (Kc0 v : Int), .int .i64 (longV v : Int)]) ∧ Below w.heap.size w w' := by
 refine V.ind fun k b n t ks l ih => ?_
 intro w x htot hx
 rw [Kd8] at htot
 have hT := OneB.start w x
 obtain ⟨pk, ck, pl, cl, rfl, htx, hk1, hl1⟩ := Kb8.1 hx
 have z1 : (ks.length : Int) ≤ 140737488355328 := by have := hk1.1; have := hk1.2.1; omega
 have z2 : (l.length : Int) ≤ 140737488355328 := by have := hl1.1.2.1; omega
 have HK := Lib.hid (And.intro hk1 (And.intro hl1 (And.intro ih htot)))
 rw [countV_mk, deepV_mk, bytesV_mk, longV_mk]
 have hb0 : Kc0 (.mk 0 false 0 t [] []) = t.length := by rw [bytesV_mk]; simp [Kbo]
 have hT0 : OneB w (w.alloc (.cells #[.int .i64 k, .bool b, .int .i64 n, .string (strB t), .slice pk ks.length ck, .slice pl l.length cl] 48)).drew #[.int .i64 k, .bool b, .int .i64 n, .string (strB t), .slice pk ks.length ck, .slice pl l.length cl] := hT.below (Below.refl _ _).drew
 clear ih hx hk1 hl1 hT htx htot hb0
 go_enter Tryz.func66, Tryz.ntmps66
 go_wp2
 refine Kai (fun W => OneB w W #[.int .i64 k, .bool b, .int .i64 n, .string (strB t), .slice pk ks.length ck, .slice pl l.length cl]) (by kernel_rfl) hT0 (fun hU => ?_)
 refine tk 0 16 (v := .pointer (some ⟨w.heap.size, 3, none⟩)) rfl rfl (fun W hW => Kad rfl rfl (Kbd _ _ (by decide) W)) ?_
 simp only [Act.put, sA, sZ, sS]
 refine tk 1 17 (v := .string (strB t)) rfl rfl (fun W hW => Kaf rfl rfl (Kaj (w := W) Tryz.underlying9 rfl (Kab hW.1 rfl))) ?_
 simp only [Act.put, sA, sZ, sS]
 refine tk 2 18 (v := .int .i64 (t.length : Int)) rfl rfl (fun W hW => exec_lenB rfl rfl) ?_
 simp only [Act.put, sA, sZ, sS]
 refine tk 3 19 (v := .pointer (some ⟨w.heap.size, 5, none⟩)) rfl rfl (fun W hW => Kad rfl rfl (Kbd _ _ (by decide) W)) ?_
 simp only [Act.put, sA, sZ, sS]
 refine tk 4 20 (v := .slice pl l.length cl) rfl rfl (fun W hW => Kaf rfl rfl (Kaj (w := W) Tryz.underlying46 rfl (Kab hW.1 rfl))) ?_
 simp only [Act.put, sA, sZ, sS]
 refine tk 5 21 (v := .int .i64 (l.length : Int)) rfl rfl (fun W hW => exec_lenV rfl rfl) ?_
 simp only [Act.put, sA, sZ, sS]
 refine tk 6 6 (v := .int .i64 1) rfl rfl (fun W hW => Kbf rfl rfl) ?_
 simp only [Act.put, sA, sZ, sS]
 refine tk 7 7 (v := .int .i64 0) rfl rfl (fun W hW => Kbf rfl rfl) ?_
 simp only [Act.put, sA, sZ, sS]
 refine tk 8 8 (v := .int .i64 (t.length : Int)) rfl rfl (fun W hW => Kbf rfl rfl) ?_
 simp only [Act.put, sA, sZ, sS]
 refine tk 9 9 (v := .int .i64 (l.length : Int)) rfl rfl (fun W hW => Kbf rfl rfl) ?_
 simp only [Act.put, sA, sZ, sS]
 refine done (by kernel_rfl) ?_ _
 have HT0 := Lib.hid hU
 clear hU hT0
 go_wp2
 go_loopw [8, 10] (fun y i W => ∃ j : Nat, j ≤ ks.length ∧ i = .int .i64 (j : Int) ∧ y = .int .i64 ((t.length + ((ks.take j).map List.length).sum : Nat) : Int) ∧ Hid (OneB w W #[.int .i64 k, .bool b, .int .i64 n, .string (strB t), .slice pk ks.length ck, .slice pl l.length cl])) (fun _ i _ => ks.length - (intOf i).toNat)
 case atStart => exact ⟨0, Nat.zero_le _, rfl, by simp, HT0⟩
 case round =>
  clear HT0
  obtain ⟨j, hj, rfl, rfl, HT⟩ := hrel
  have hT1 := HT.out
  have px0 := Kab (o := 0) hT1.1 rfl; have px1 := Kab (o := 1) hT1.1 rfl; have px2 := Kab (o := 2) hT1.1 rfl; have px3 := Kab (o := 3) hT1.1 rfl; have px4 := Kab (o := 4) hT1.1 rfl; have px5 := Kab (o := 5) hT1.1 rfl
  have hsl := keysum_take ks j
  by_cases hlt : j < ks.length
  ·have hlt1 : j + 1 ≤ ks.length := hlt
   obtain ⟨bk, ok, rfl, q0, ql⟩ := (HK.out.1.below hT1.2).get hlt
   have hsum : t.length + ((ks.take (j + 1)).map List.length).sum = t.length + ((ks.take j).map List.length).sum + ks[j].length := by
    rw [List.take_succ_eq_append_getElem hlt, List.map_append, List.sum_append]; simp; omega
   have hsl2 := keysum_take ks (j + 1)
   have z5 : ((t.length + ((ks.take j).map List.length).sum : Nat) : Int) + (ks[j].length : Int) ≤ 1099511627776 := by have := HK.out.2.2.2; omega
   have zs2 : (strB ks[j]).size = ks[j].length := rfl
   have HS := Lib.hid hsum
   generalize t.length + ((ks.take j).map List.length).sum = S at *
   clear hsl hsl2 hsum hT1
   go_wp2
   go_roundw
   case rel => exact ⟨j + 1, hlt1, by go_num, by rw [HS.out]; go_num, HT⟩
   case measure => simp [intOf]; omega
  ·obtain rfl : j = ks.length := by omega
   rw [List.take_length]
   have zb : t.length + (ks.map List.length).sum + totVs l ≤ 1099511627776 := by have := HK.out.2.2.2; omega
   have HZB := Lib.hid zb
   generalize hY : t.length + (ks.map List.length).sum = Y at *
   have HY := Lib.hid hY
   have HT0 := HT
   clear hsl hT1 hY zb
   go_wp2
   go_loopw [6, 7, 8, 9, 11] (fun c d y g i W => ∃ j : Nat, j ≤ l.length ∧ i = .int .i64 (j : Int) ∧ c = .int .i64 ((1 + Kb2 (l.take j) : Nat) : Int) ∧ d = .int .i64 ((Kbx (l.take j) : Nat) : Int) ∧ y = .int .i64 ((Y + Kbo (l.take j) : Nat) : Int) ∧ g = .int .i64 ((max l.length (Kb9 (l.take j)) : Nat) : Int) ∧ Hid (OneB w W #[.int .i64 k, .bool b, .int .i64 n, .string (strB t), .slice pk ks.length ck, .slice pl l.length cl])) (fun _ _ _ _ i _ => l.length - (intOf i).toNat)
   case atStart => exact ⟨0, Nat.zero_le _, rfl, by simp [Kb2], by simp [Kbx], by simp [Kbo], by simp [Kb9], HT0⟩
   case round =>
    clear HT0 HT
    obtain ⟨j, hj, rfl, rfl, rfl, rfl, rfl, HT⟩ := hrel
    have hT1 := HT.out
    clear px0 px1 px2 px3 px4 px5
    have px0 := Kab (o := 0) hT1.1 rfl; have px1 := Kab (o := 1) hT1.1 rfl; have px2 := Kab (o := 2) hT1.1 rfl; have px3 := Kab (o := 3) hT1.1 rfl; have px4 := Kab (o := 4) hT1.1 rfl; have px5 := Kab (o := 5) hT1.1 rfl
    have hs0 := sizes_tots (l.take j)
    have htl := totVs_take l j
    by_cases hlt : j < l.length
    ·have hlt1 : j + 1 ≤ l.length := hlt
     obtain ⟨g1, o1, pk1, ck1, pl1, cl1, rfl, ⟨a0, a1, a2, a3, a4, a5⟩, hv1⟩ := (HK.out.2.1.below hT1.2).at hlt
     have htl2 := totVs_take l (j + 1)
     have hss := sizes_tot l[j]
     have htk : l.take (j + 1) = l.take j ++ [l[j]] := List.take_succ_eq_append_getElem hlt
     rw [htk, Kdw] at htl2
     have htv : totVs [l[j]] = totV l[j] := by simp [totVs]
     have hcall := HK.out.2.2.1 l[j] (List.getElem_mem hlt)
     have hn1 : Kb2 (l.take (j + 1)) = Kb2 (l.take j) + countV l[j] := by rw [htk, countVs_snoc]
     have hn2 : Kbx (l.take (j + 1)) = max (Kbx (l.take j)) (deepV l[j]) := by rw [htk, deepVs_snoc]
     have hn3 : Kbo (l.take (j + 1)) = Kbo (l.take j) + Kc0 l[j] := by rw [htk, bytesVs_snoc]
     have hn4 : Kb9 (l.take (j + 1)) = max (Kb9 (l.take j)) (longV l[j]) := by rw [htk, longVs_snoc]
     have hzb := HZB.out
     have hq1 : 1 + Kb2 (l.take j) + countV l[j] ≤ 4398046511104 := by omega
     have hq2 : Y + Kbo (l.take j) + Kc0 l[j] ≤ 4398046511104 := by omega
     have HN := Lib.hid (And.intro hn1 (And.intro hn2 (And.intro hn3 hn4)))
     have hcv : totV l[j] ≤ 1099511627776 := by omega
     generalize l[j] = s1 at *
     generalize Kb2 (l.take j) = C at *
     generalize Kbx (l.take j) = D at *
     generalize Kbo (l.take j) = B at *
     generalize Kb9 (l.take j) = G at *
     have hcl := hcall wr _ hcv hv1
     have HD := Lib.hid (And.intro hcl hT1)
     clear hn1 hn2 hn3 hn4 hss htl htl2 htv hs0 hzb hcall hv1 hT1 htk hcl
     go_wp2_with (go_at_call 66
                  (
                    refine HD.out.1.mono ?_
                    rintro e w5 ⟨rfl, hb5⟩
                    have hT5 := HD.out.2.below hb5
                    have HT5 := Lib.hid hT5
                    clear hb5 hT5))
     go_roundw
     case rel => exact ⟨j + 1, hlt1, by go_num, by rw [HN.out.1]; congr 1; omega, by rw [HN.out.2.1]; congr 1; omega, by rw [HN.out.2.2.1]; congr 1; omega, by rw [HN.out.2.2.2]; congr 1; omega, HT5⟩
     case measure => simp [intOf]; omega
    ·obtain rfl : j = l.length := by omega
     rw [List.take_length] at *
     have HF := Lib.hid hT1.2
     have hzb := HZB.out
     have hd1 : Kbx l + 1 ≤ 4398046511104 := by omega
     clear hs0 htl hT1 hzb
     go_wp2
     refine bodyPost_ret (v := .tuple #[.int .i64 ((1 + Kb2 l : Nat) : Int), .int .i64 ((Kbx l + 1 : Nat) : Int), .int .i64 ((Y + Kbo l : Nat) : Int), .int .i64 ((max l.length (Kb9 l) : Nat) : Int)]) (by simp [results, Tryz.results66, go_sem]) rfl ⟨by rw [HY.out], HF.out⟩
theorem Kc6 {v : V} {w : World} {x : Array Value} (htot : totV v ≤ 1099511627776) (hx : VRd w v x) : Calls Tryz.prog 21 #[.agg x] w fun e w' => e = .returned (.int .i64 (Kbs Lib.validD v)) ∧ Below w.heap.size w w' := by
 have hT := OneB.start w x
 have hmay := mayR_any v _ _ (hx.below hT.2)
 have hsz := fun (W : World) (hb : Below w.heap.size w W) => sizeR_any v W x htot (hx.below hb)
 have hst := sizes_tot v
 obtain ⟨pk, ck, pl, cl, rfl, _⟩ := hx.open
 have HM := Lib.hid hmay
 have HS := Lib.hid hsz
 have HT := Lib.hid hT
 have hc : Kbs Lib.validD v = if mayV Lib.validD v then (if 64 < deepV v || 1048576 < Kc0 v || 65536 < longV v then 3 else 0) else 110 := rfl
 have z1 : ((deepV v : Nat) : Int) ≤ 1099511627776 := by omega
 have z2 : ((Kc0 v : Nat) : Int) ≤ 1099511627776 := by omega
 have z3 : ((longV v : Nat) : Int) ≤ 1099511627776 := by omega
 have HC := Lib.hid hc
 clear hmay hsz hT hx hst htot hc
 generalize Kbs Lib.validD v = R at *
 generalize mayV Lib.validD v = M at *
 generalize deepV v = D at *
 generalize Kc0 v = B at *
 generalize longV v = G at *
 cases M with
 | false =>
   have hR := HC.out
   have HR := Lib.hid hR
   clear hR
   go_enter Tryz.func21, Tryz.ntmps21
   go_wp2_with (go_at_call 65
                (
                  refine HM.out.mono ?_
                  rintro e w1 ⟨rfl, hb⟩
                  have HT1 := Lib.hid (HT.out.below hb)
                  clear hb))
   go_ret
   exact ⟨ret_int HR.out.symm, HT1.out.2⟩
 | true =>
   go_enter Tryz.func21, Tryz.ntmps21
   go_wp2_with (first
    | (go_at_call 65
       (
         refine HM.out.mono ?_
         rintro e w1 ⟨rfl, hb⟩
         have HT1 := Lib.hid (HT.out.below hb)
         have HL1 := Lib.hid (get_val HT1.out.1)
         clear hb))
    | (refine Kay rfl _ _ _ rfl rfl HL1.out ?_)
    | (go_at_call 66
       (
         refine (HS.out _ HT1.out.2).mono ?_
         rintro e w2 ⟨rfl, hb⟩
         have HB := Lib.hid (Kaa HT1.out.2 hb)
         clear hb)))
   all_goals
    go_ret
    refine ⟨ret_int ?_, HB.out⟩
    have h := HC.out
    rw [if_pos trivial] at h
    rw [h]
    (repeat' split) <;> first | rfl | (simp only [Bool.or_eq_true, decide_eq_true_eq] at * <;> omega)
end Go.Proofs.YthdfedfholmbmaaGreatDoor

namespace Go.Proofs.YthdfedfholmbmaaGreatDoor
open Go.RowKit
structure PairU (w : World) (s1 s2 : V) (g1 o1 g2 o2 : Nat) (c0 c1 c2 c3 c4 c5 d0 d1 d2 d3 d4 d5 : Value) (W : World) : Prop where
 b : Below w.heap.size w W
 h0 : W.cell? ⟨g1, o1, none⟩ = some c0
 h1 : W.cell? ⟨g1, o1 + 1, none⟩ = some c1
 h2 : W.cell? ⟨g1, o1 + 2, none⟩ = some c2
 h3 : W.cell? ⟨g1, o1 + 3, none⟩ = some c3
 h4 : W.cell? ⟨g1, o1 + 4, none⟩ = some c4
 h5 : W.cell? ⟨g1, o1 + 5, none⟩ = some c5
 q0 : W.cell? ⟨g2, o2, none⟩ = some d0
 q1 : W.cell? ⟨g2, o2 + 1, none⟩ = some d1
 q2 : W.cell? ⟨g2, o2 + 2, none⟩ = some d2
 q3 : W.cell? ⟨g2, o2 + 3, none⟩ = some d3
 q4 : W.cell? ⟨g2, o2 + 4, none⟩ = some d4
 q5 : W.cell? ⟨g2, o2 + 5, none⟩ = some d5
 r1 : VRd W s1 #[c0, c1, c2, c3, c4, c5]
 r2 : VRd W s2 #[d0, d1, d2, d3, d4, d5]
theorem PairU.keep {w W W' : World} {s1 s2 : V} {g1 o1 g2 o2 : Nat} {c0 c1 c2 c3 c4 c5 d0 d1 d2 d3 d4 d5 : Value} (h : PairU w s1 s2 g1 o1 g2 o2 c0 c1 c2 c3 c4 c5 d0 d1 d2 d3 d4 d5 W) (b : Below W.heap.size W W') : PairU w s1 s2 g1 o1 g2 o2 c0 c1 c2 c3 c4 c5 d0 d1 d2 d3 d4 d5 W' :=
 ⟨Kaa h.b b, Kam b (ltOf h.h0) h.h0, Kam b (ltOf h.h1) h.h1, Kam b (ltOf h.h2) h.h2, Kam b (ltOf h.h3) h.h3, Kam b (ltOf h.h4) h.h4, Kam b (ltOf h.h5) h.h5,
  Kam b (ltOf h.q0) h.q0, Kam b (ltOf h.q1) h.q1, Kam b (ltOf h.q2) h.q2, Kam b (ltOf h.q3) h.q3, Kam b (ltOf h.q4) h.q4, Kam b (ltOf h.q5) h.q5, h.r1.below b, h.r2.below b⟩
structure KeyTwo (w : World) (X Y : Array Value) (b1 o1 b2 o2 : Nat) (s1 s2 : List UInt8) (W : World) : Prop where
 two : TwoV w W X Y
 one : W.cell? ⟨b1, o1, none⟩ = some (.string (strB s1))
 sec : W.cell? ⟨b2, o2, none⟩ = some (.string (strB s2))
theorem KeyTwo.keep {w W W' : World} {X Y : Array Value} {b1 o1 b2 o2 : Nat} {s1 s2 : List UInt8} (h : KeyTwo w X Y b1 o1 b2 o2 s1 s2 W) (b : Below W.heap.size W W') : KeyTwo w X Y b1 o1 b2 o2 s1 s2 W' :=
 ⟨h.two.below b, Kam b (ltOf h.one) h.one, Kam b (ltOf h.sec) h.sec⟩
end Go.Proofs.YthdfedfholmbmaaGreatDoor

namespace Go.Proofs.YthdfedfholmbmaaGreatDoor
open Go.RowKit
structure AlU (w : World) (X Y : Array Value) (s1 : V) (g1 o1 g2 o2 : Nat) (c0 c1 c2 c3 c4 c5 d0 d1 d2 d3 d4 d5 : Value) (W : World) : Prop where
 two : TwoV w W X Y
 p : PairU w s1 s1 g1 o1 g2 o2 c0 c1 c2 c3 c4 c5 d0 d1 d2 d3 d4 d5 W
theorem AlU.keep {w W W' : World} {X Y : Array Value} {s1 : V} {g1 o1 g2 o2 : Nat} {c0 c1 c2 c3 c4 c5 d0 d1 d2 d3 d4 d5 : Value} (h : AlU w X Y s1 g1 o1 g2 o2 c0 c1 c2 c3 c4 c5 d0 d1 d2 d3 d4 d5 W) (b : Below W.heap.size W W') : AlU w X Y s1 g1 o1 g2 o2 c0 c1 c2 c3 c4 c5 d0 d1 d2 d3 d4 d5 W' := ⟨h.two.below b, h.p.keep b⟩
theorem Kb6 : ∀ (v : V) (w : World) (x y : Array Value), VRd w v x → VRd w v y →
 Calls Tryz.prog 25 #[.agg x, .agg y] w fun e w' => e = .returned (.bool true) ∧ Below w.heap.size w w' := by
 refine V.ind fun k b n t ks l ih => ?_
 intro w x y hx hy
 obtain ⟨pk, ck, pl, cl, rfl, _, hk1, hl1⟩ := Kb8.1 hx
 obtain ⟨pk', ck', pl', cl', rfl, _, hk2, hl2⟩ := Kb8.1 hy
 have hT := TwoV.start w #[.int .i64 k, .bool b, .int .i64 n, .string (strB t), .slice pk ks.length ck, .slice pl l.length cl] #[.int .i64 k, .bool b, .int .i64 n, .string (strB t), .slice pk' ks.length ck', .slice pl' l.length cl']
 have z1 : (ks.length : Int) ≤ 140737488355328 := by have := hk1.1; have := hk1.2.1; omega
 have z2 : (l.length : Int) ≤ 140737488355328 := by have := hl1.1.2.1; omega
 have c0 := Kab (o := 0) hT.1 rfl; have c1 := Kab (o := 1) hT.1 rfl; have c2 := Kab (o := 2) hT.1 rfl; have c3 := Kab (o := 3) hT.1 rfl; have c4 := Kab (o := 4) hT.1 rfl; have c5 := Kab (o := 5) hT.1 rfl
 have q0 := Kab (o := 0) hT.2.1 rfl; have q1 := Kab (o := 1) hT.2.1 rfl; have q2 := Kab (o := 2) hT.2.1 rfl; have q3 := Kab (o := 3) hT.2.1 rfl; have q4 := Kab (o := 4) hT.2.1 rfl; have q5 := Kab (o := 5) hT.2.1 rfl
 have HT := Lib.hid hT
 have HK := Lib.hid (And.intro (And.intro hk1 hk2) (And.intro hl1 hl2))
 have HI := Lib.hid ih
 clear ih hx hy hT hk1 hk2 hl1 hl2
 go_enter Tryz.func25, Tryz.ntmps25
 go_wp2
 have HT0 := HT
 clear c0 c1 c2 c3 c4 c5 q0 q1 q2 q3 q4 q5
 go_loopw [5] (fun i wr => ∃ j : Nat, j ≤ ks.length ∧ i = .int .i64 (j : Int) ∧ Hid (TwoV w wr #[.int .i64 k, .bool b, .int .i64 n, .string (strB t), .slice pk ks.length ck, .slice pl l.length cl] #[.int .i64 k, .bool b, .int .i64 n, .string (strB t), .slice pk' ks.length ck', .slice pl' l.length cl'])) (fun i _ => ks.length - (intOf i).toNat)
 case atStart => exact ⟨0, Nat.zero_le _, rfl, HT0⟩
 case round =>
  clear HT HT0
  obtain ⟨j, hj, rfl, HT⟩ := hrel
  have hT1 := HT.out
  have c4 := Kab (o := 4) hT1.1 rfl; have c5 := Kab (o := 5) hT1.1 rfl
  have q4 := Kab (o := 4) hT1.2.1 rfl; have q5 := Kab (o := 5) hT1.2.1 rfl
  by_cases hlt : j < ks.length
  ·have hlt1 : j + 1 ≤ ks.length := hlt
   have hbd : Below w.heap.size w wr.drew := Kaa hT1.2.2 (Below.refl _ _).drew
   obtain ⟨b1, o1, rfl, r1, y1⟩ := (HK.out.1.1.below hbd).get hlt
   obtain ⟨b2, o2, rfl, r2, y2⟩ := (HK.out.1.2.below hbd).get hlt
   have hlt2 := hlt
   generalize ks[j] = s1 at *
   have hU0 : KeyTwo w #[.int .i64 k, .bool b, .int .i64 n, .string (strB t), .slice (some ⟨b1, o1, none⟩) ks.length ck, .slice pl l.length cl] #[.int .i64 k, .bool b, .int .i64 n, .string (strB t), .slice (some ⟨b2, o2, none⟩) ks.length ck', .slice pl' l.length cl'] b1 (o1 + j) b2 (o2 + j) s1 s1 wr.drew := ⟨hT1.below (Below.refl _ _).drew, r1, r2⟩
   have hne : ∀ W, (binOp .neq 9 (.string (strB s1)) (.string (strB s1))).run Tryz.prog W = .ok (.bool false) W := fun W => by rw [run_neStr]; simp
   clear r1 r2 y1 y2 hbd hT1
   go_wp2
   refine Kai (fun W => KeyTwo w #[.int .i64 k, .bool b, .int .i64 n, .string (strB t), .slice (some ⟨b1, o1, none⟩) ks.length ck, .slice pl l.length cl] #[.int .i64 k, .bool b, .int .i64 n, .string (strB t), .slice (some ⟨b2, o2, none⟩) ks.length ck', .slice pl' l.length cl'] b1 (o1 + j) b2 (o2 + j) s1 s1 W) (by kernel_rfl) hU0 (fun hU => ?_)
   refine tk 0 58 (v := .pointer (some ⟨w.heap.size, 4, none⟩)) rfl rfl (fun W hW => Kad rfl rfl (Kbd _ _ (by decide) W)) ?_
   simp only [Act.put, sA, sZ, sS]
   refine tk 1 59 (v := .slice (some ⟨b1, o1, none⟩) ks.length ck) rfl rfl (fun W hW => Kaf rfl rfl (Kaj (w := W) Tryz.underlying45 rfl (Kab hW.two.1 rfl))) ?_
   simp only [Act.put, sA, sZ, sS]
   refine tk 2 60 (v := .int .i64 (j : Int)) rfl rfl (fun W hW => Kag rfl rfl) ?_
   simp only [Act.put, sA, sZ, sS]
   refine tk 3 61 (v := .pointer (some ⟨b1, o1 + j, none⟩)) rfl rfl (fun W hW => Kao rfl rfl rfl (Kd6 _ _ _ _ _ hlt W)) ?_
   simp only [Act.put, sA, sZ, sS]
   refine tk 4 62 (v := .string (strB s1)) rfl rfl (fun W hW => Kaf rfl rfl (Kaj (w := W) Tryz.underlying9 rfl hW.one)) ?_
   simp only [Act.put, sA, sZ, sS]
   refine tk 5 63 (v := .pointer (some ⟨w.heap.size + 1, 4, none⟩)) rfl rfl (fun W hW => Kad rfl rfl (Kbd _ _ (by decide) W)) ?_
   simp only [Act.put, sA, sZ, sS]
   refine tk 6 64 (v := .slice (some ⟨b2, o2, none⟩) ks.length ck') rfl rfl (fun W hW => Kaf rfl rfl (Kaj (w := W) Tryz.underlying45 rfl (Kab hW.two.2.1 rfl))) ?_
   simp only [Act.put, sA, sZ, sS]
   refine tk 7 65 (v := .int .i64 (j : Int)) rfl rfl (fun W hW => Kag rfl rfl) ?_
   simp only [Act.put, sA, sZ, sS]
   refine tk 8 66 (v := .pointer (some ⟨b2, o2 + j, none⟩)) rfl rfl (fun W hW => Kao rfl rfl rfl (Kd6 _ _ _ _ _ hlt2 W)) ?_
   simp only [Act.put, sA, sZ, sS]
   refine tk 9 67 (v := .string (strB s1)) rfl rfl (fun W hW => Kaf rfl rfl (Kaj (w := W) Tryz.underlying9 rfl hW.sec)) ?_
   simp only [Act.put, sA, sZ, sS]
   refine tk 10 68 (v := .bool false) rfl rfl (fun W hW => Kdq rfl rfl rfl (hne W)) ?_
   simp only [Act.put, sA, sZ, sS]
   refine done (by kernel_rfl) ?_ _
   have HT0 := Lib.hid hU.two
   have c4 := Kab (o := 4) hU.two.1 rfl
   have q4 := Kab (o := 4) hU.two.2.1 rfl
   clear hU hU0 hne
   go_wp2
   go_roundw
   case rel => exact ⟨j + 1, by omega, by go_num, HT0⟩
   case measure => simp [intOf]; omega
  ·obtain rfl : j = ks.length := by omega
   have HT0 := HT
   clear hT1
   go_wp2
   go_loopw [6] (fun i wr => ∃ j : Nat, j ≤ l.length ∧ i = .int .i64 (j : Int) ∧ Hid (TwoV w wr #[.int .i64 k, .bool b, .int .i64 n, .string (strB t), .slice pk ks.length ck, .slice pl l.length cl] #[.int .i64 k, .bool b, .int .i64 n, .string (strB t), .slice pk' ks.length ck', .slice pl' l.length cl'])) (fun i _ => l.length - (intOf i).toNat)
   case atStart => exact ⟨0, Nat.zero_le _, rfl, HT0⟩
   case round =>
    clear HT HT0 c4 c5 q4 q5
    obtain ⟨j, hj, rfl, HT⟩ := hrel
    have hT1 := HT.out
    have c4 := Kab (o := 4) hT1.1 rfl; have c5 := Kab (o := 5) hT1.1 rfl
    have q4 := Kab (o := 4) hT1.2.1 rfl; have q5 := Kab (o := 5) hT1.2.1 rfl
    by_cases hlt : j < l.length
    ·have hlt1 : j + 1 ≤ l.length := hlt
     have hbd : Below w.heap.size w wr.drew := Kaa hT1.2.2 (Below.refl _ _).drew
     obtain ⟨g1, o1, pk1, ck1, pl1, cl1, rfl, ⟨a0, a1, a2, a3, a4, a5⟩, hv1⟩ := (HK.out.2.1.below hbd).at hlt
     obtain ⟨g2, o2, pk2, ck2, pl2, cl2, rfl, ⟨r0, r1, r2, r3, r4, r5⟩, hv2⟩ := (HK.out.2.2.below hbd).at hlt
     have hlt2 := hlt
     have HC := Lib.hid (HI.out l[j] (List.getElem_mem hlt))
     generalize l[j] = s1 at *
     have hU0 : AlU w #[.int .i64 k, .bool b, .int .i64 n, .string (strB t), .slice pk ks.length ck, .slice (some ⟨g1, o1, none⟩) l.length cl] #[.int .i64 k, .bool b, .int .i64 n, .string (strB t), .slice pk' ks.length ck', .slice (some ⟨g2, o2, none⟩) l.length cl'] s1 g1 (o1 + j * 6) g2 (o2 + j * 6) (.int .i64 s1.kind) (.bool s1.b) (.int .i64 s1.n) (.string (strB s1.text)) (.slice pk1 s1.keys.length ck1) (.slice pl1 s1.list.length cl1) (.int .i64 s1.kind) (.bool s1.b) (.int .i64 s1.n) (.string (strB s1.text)) (.slice pk2 s1.keys.length ck2) (.slice pl2 s1.list.length cl2) wr.drew := ⟨hT1.below (Below.refl _ _).drew, ⟨hbd, a0, a1, a2, a3, a4, a5, r0, r1, r2, r3, r4, r5, hv1, hv2⟩⟩
     clear a0 a1 a2 a3 a4 a5 r0 r1 r2 r3 r4 r5 hv1 hv2 hbd hT1
     go_wp2
     refine Kai (fun W => AlU w #[.int .i64 k, .bool b, .int .i64 n, .string (strB t), .slice pk ks.length ck, .slice (some ⟨g1, o1, none⟩) l.length cl] #[.int .i64 k, .bool b, .int .i64 n, .string (strB t), .slice pk' ks.length ck', .slice (some ⟨g2, o2, none⟩) l.length cl'] s1 g1 (o1 + j * 6) g2 (o2 + j * 6) (.int .i64 s1.kind) (.bool s1.b) (.int .i64 s1.n) (.string (strB s1.text)) (.slice pk1 s1.keys.length ck1) (.slice pl1 s1.list.length cl1) (.int .i64 s1.kind) (.bool s1.b) (.int .i64 s1.n) (.string (strB s1.text)) (.slice pk2 s1.keys.length ck2) (.slice pl2 s1.list.length cl2) W) (by kernel_rfl) hU0 (fun hU => ?_)
     refine tk 0 76 (v := .pointer (some ⟨w.heap.size, 5, none⟩)) rfl rfl (fun W hW => Kad rfl rfl (Kbd _ _ (by decide) W)) ?_
     simp only [Act.put, sA, sZ, sS]
     refine tk 1 77 (v := .slice (some ⟨g1, o1, none⟩) l.length cl) rfl rfl (fun W hW => Kaf rfl rfl (Kaj (w := W) Tryz.underlying46 rfl (Kab hW.two.1 rfl))) ?_
     simp only [Act.put, sA, sZ, sS]
     refine tk 2 78 (v := .int .i64 (j : Int)) rfl rfl (fun W hW => Kag rfl rfl) ?_
     simp only [Act.put, sA, sZ, sS]
     refine tk 3 79 (v := .pointer (some ⟨g1, o1 + j * 6, none⟩)) rfl rfl (fun W hW => Kao rfl rfl rfl (ia_vals _ _ _ _ _ hlt W)) ?_
     simp only [Act.put, sA, sZ, sS]
     refine tk 4 80 (v := .agg #[.int .i64 s1.kind, .bool s1.b, .int .i64 s1.n, .string (strB s1.text), .slice pk1 s1.keys.length ck1, .slice pl1 s1.list.length cl1]) rfl rfl (fun W hW => Kaf rfl rfl (get_six hW.p.h0 hW.p.h1 hW.p.h2 hW.p.h3 hW.p.h4 hW.p.h5)) ?_
     simp only [Act.put, sA, sZ, sS]
     refine tk 5 81 (v := .pointer (some ⟨w.heap.size + 1, 5, none⟩)) rfl rfl (fun W hW => Kad rfl rfl (Kbd _ _ (by decide) W)) ?_
     simp only [Act.put, sA, sZ, sS]
     refine tk 6 82 (v := .slice (some ⟨g2, o2, none⟩) l.length cl') rfl rfl (fun W hW => Kaf rfl rfl (Kaj (w := W) Tryz.underlying46 rfl (Kab hW.two.2.1 rfl))) ?_
     simp only [Act.put, sA, sZ, sS]
     refine tk 7 83 (v := .int .i64 (j : Int)) rfl rfl (fun W hW => Kag rfl rfl) ?_
     simp only [Act.put, sA, sZ, sS]
     refine tk 8 84 (v := .pointer (some ⟨g2, o2 + j * 6, none⟩)) rfl rfl (fun W hW => Kao rfl rfl rfl (ia_vals _ _ _ _ _ hlt2 W)) ?_
     simp only [Act.put, sA, sZ, sS]
     refine tk 9 85 (v := .agg #[.int .i64 s1.kind, .bool s1.b, .int .i64 s1.n, .string (strB s1.text), .slice pk2 s1.keys.length ck2, .slice pl2 s1.list.length cl2]) rfl rfl (fun W hW => Kaf rfl rfl (get_six hW.p.q0 hW.p.q1 hW.p.q2 hW.p.q3 hW.p.q4 hW.p.q5)) ?_
     simp only [Act.put, sA, sZ, sS]
     refine Ka2 10 86 rfl rfl (by kernel_rfl) rfl (Kau [.agg #[.int .i64 s1.kind, .bool s1.b, .int .i64 s1.n, .string (strB s1.text), .slice pk1 s1.keys.length ck1, .slice pl1 s1.list.length cl1], .agg #[.int .i64 s1.kind, .bool s1.b, .int .i64 s1.n, .string (strB s1.text), .slice pk2 s1.keys.length ck2, .slice pl2 s1.list.length cl2]] rfl rfl Tryz.func25 (by kernel_rfl) (by kernel_rfl)) ?_
     refine (HC.out _ _ _ hU.p.r1 hU.p.r2).mono ?_
     rintro e w5 ⟨rfl, hb5⟩
     have hU2 := hU.keep hb5
     clear hb5
     refine ⟨_, rfl, .inr hU2, ?_⟩
     simp only [Act.put, sA, sZ, sS]
     refine tk 11 87 (v := .bool false) rfl rfl (fun W hW => Kaw (b := true) rfl rfl) ?_
     simp only [Act.put, sA, sZ, sS]
     refine done (by kernel_rfl) ?_ _
     have HT0 := Lib.hid hU2.two
     have c5 := Kab (o := 5) hU2.two.1 rfl
     have q5 := Kab (o := 5) hU2.two.2.1 rfl
     clear hU hU0 hU2 HC
     go_wp2
     go_roundw
     case rel => exact ⟨j + 1, by omega, by go_num, HT0⟩
     case measure => simp [intOf]; omega
    ·obtain rfl : j = l.length := by omega
     have HF := Lib.hid hT1.2.2
     clear hT1
     go_wp2
     go_ret
     exact ⟨rfl, HF.out⟩
end Go.Proofs.YthdfedfholmbmaaGreatDoor

namespace Go.Proofs.YthdfedfholmbmaaGreatDoor
open Go.RowKit
def Way (b : List UInt8) (v1 : V) (l1 : List UInt8) (b1 : Bool) (o : Option V) : Prop :=
 (b1 = true ∧ o = none) ∨ (b1 = false ∧ 0 < l1.length ∧ o = none) ∨ (b1 = false ∧ l1 = [] ∧ okV v1 = false ∧ o = none) ∨ (b1 = false ∧ l1 = [] ∧ okV v1 = true ∧ valC v1 ≠ b ∧ o = none) ∨ (b1 = false ∧ l1 = [] ∧ okV v1 = true ∧ valC v1 = b ∧ o = some v1)
theorem way_of {b : List UInt8} (hl : b.length ≤ 3000) : Way b (Ka1 64 (b, false)).1 (Ka1 64 (b, false)).2.1 (Ka1 64 (b, false)).2.2 (readW (rdVal 64) okV b) := by
 obtain ⟨h1, h2⟩ := read_doc (ok := okV) (b := b) (rt_val 64) (df_val 64) (ds_val 64) (fun x h r t => Kdb h r (by omega))
 unfold docOk at h1 h2
 generalize Ka1 64 (b, false) = r at *
 obtain ⟨v1, l1, b1⟩ := r
 cases b1
 ·cases l1 with
  | cons c r => exact .inr (.inl ⟨rfl, by simp, h2 (by simp)⟩)
  | nil =>
    cases hk : okV v1
    ·exact .inr (.inr (.inl ⟨rfl, rfl, hk, h2 (by simp [hk])⟩))
    ·by_cases he : valC v1 = b
     ·exact .inr (.inr (.inr (.inr ⟨rfl, rfl, hk, he, h1 ⟨rfl, rfl, hk, he⟩⟩)))
     ·exact .inr (.inr (.inr (.inl ⟨rfl, rfl, hk, he, h2 (by simp [he])⟩)))
 ·exact .inl ⟨rfl, h2 (by simp)⟩
theorem val0_rd (W : World) : VRd W val0 #[.int .i64 0, .bool false, .int .i64 0, .string ⟨#[]⟩, .slice none 0 0, .slice none 0 0] := (val0_own (P := fun _ => True)).rd (by simp [val0, Kd8, totVs])
theorem errG_no : errG false = 2 := rfl
end Go.Proofs.YthdfedfholmbmaaGreatDoor
