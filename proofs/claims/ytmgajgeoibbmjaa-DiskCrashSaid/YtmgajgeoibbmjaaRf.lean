/- The document's disk: Write that is refused, Read, Flush. Printed by gen_rf.py. -/
import Derived.Test.YtmgajgeoibbmjaaRw
namespace Go.Proofs.Ytmgajgeoibbmjaa
open Go.RowKit

section
variable {w : World} {R : Nat → Prop} {r : Nat} {d d' : DM} {F : List Int} {X : Value} {L cL S cS Q cQ : Nat} {qs : List Value}
theorem RefAt.congr (h : RefAt w R r d F X L cL S cS Q cQ qs) (e1 : d'.size = d.size) (e2 : d'.steps = d.steps) (e3 : d'.fails = d.fails) (hl : ∀ i : Nat, i < d.size → (d'.lasting (i : Int)).getD zblk = (d.lasting (i : Int)).getD zblk)
    (hs : ∀ i : Nat, i < d.size → (d'.seen (i : Int)).getD zblk = (d.seen (i : Int)).getD zblk) (hq : ∀ i : Nat, i < d.size → (d'.since (i : Int)).getD [] = (d.since (i : Int)).getD []) : RefAt w R r d' F X L cL S cS Q cQ qs := by
  have el : lst d'.size d'.lasting zblk = lst d.size d.lasting zblk := by rw [e1]; exact List.map_congr_left fun i hi => hl i (List.mem_range.1 hi)
  have es : lst d'.size d'.seen zblk = lst d.size d.seen zblk := by rw [e1]; exact List.map_congr_left fun i hi => hs i (List.mem_range.1 hi)
  refine ⟨by rw [e1, e2]; exact h.box, by rw [el]; exact h.lasting, by rw [es]; exact h.seen, h.since, by rw [h.len, e1], fun i q hqi => ?_, h.fails, h.far, h.nodup, h.foot, by rw [e3]; exact h.agree⟩
  rw [hq i (by rw [← h.len]; exact (List.getElem?_eq_some_iff.1 hqi).1)]
  exact h.each i q hqi

set_option maxRecDepth 100000 in
set_option maxHeartbeats 1000000 in
theorem ref_write_arg (at_ : Int) (p : Option Addr) (l : List UInt8) (hl : l.length % 512 ≠ 0) : Calls Try.prog 24 #[.pointer p, .int .i64 at_, .string (strB l)] w fun e w' => e = .returned (.int .i64 2) ∧ w = w' := by
  have hs : (strB l).size = l.length := rfl
  have c1 : ((((l.length : Int) % 512)) != 0) = true := by rw [bne_iff_ne]; omega
  have c2 : ((((l.length : Int) % 512)) == 0) = false := by rw [beq_eq_false_iff_ne]; omega
  clear hl
  go_enter Try.func24, Try.ntmps24
  go_wp2
  go_ret
  exact ⟨rfl, rfl⟩
set_option maxRecDepth 100000 in
set_option maxHeartbeats 1000000 in
theorem ref_write_range (h : RefAt w R r d F X L cL S cS Q cQ qs) (hsz : (d.size : Int) ≤ 65536) (at_ : Int) (l : List UInt8) (m : Nat) (hl : l.length = 512 * m) (hlm : l.length ≤ 1000000) (hbad : at_ < 0 ∨ (d.size : Int) < at_ + m) : Calls Try.prog 24 #[.pointer (some ⟨r, 0, none⟩), .int .i64 at_, .string (strB l)] w fun e w' => e = .returned (.int .i64 4) ∧ w = w' := by
  have hs : (strB l).size = 512 * m := hl
  have hmm : (m : Int) ≤ 1000000 := by omega
  have k1 : w.cell? ⟨r, 1, none⟩ = some (.slice (some ⟨S, 0, none⟩) d.size cS) := cellOf h.box rfl
  have key : at_ < 0 ∨ (¬ at_ < 0 ∧ at_ > (d.size : Int)) ∨ (¬ at_ < 0 ∧ ¬ at_ > (d.size : Int) ∧ (m : Int) > (d.size : Int) - at_) := by omega
  clear h hl hbad hlm
  rcases key with h1 | ⟨h1, h2⟩ | ⟨h1, h2, h3⟩
  all_goals
    go_enter Try.func24, Try.ntmps24
    go_wp2
    go_ret
    exact ⟨rfl, rfl⟩

set_option maxRecDepth 100000 in
set_option maxHeartbeats 1000000 in
theorem ref_read_no (h : RefAt w R r d F X L cL S cS Q cQ qs) (hsz : (d.size : Int) ≤ 65536) (at_ n : Int) (hbad : at_ < 0 ∨ n < 0 ∨ (d.size : Int) < at_ ∨ (d.size : Int) - at_ < n) : Calls Try.prog 25 #[.pointer (some ⟨r, 0, none⟩), .int .i64 at_, .int .i64 n] w fun e w' => e = .returned (.tuple #[.string (strB []), .int .i64 4]) ∧ w = w' := by
  have k1 : w.cell? ⟨r, 1, none⟩ = some (.slice (some ⟨S, 0, none⟩) d.size cS) := cellOf h.box rfl
  have key : at_ < 0 ∨ (¬ at_ < 0 ∧ n < 0) ∨ (¬ at_ < 0 ∧ ¬ n < 0 ∧ at_ > (d.size : Int)) ∨ (¬ at_ < 0 ∧ ¬ n < 0 ∧ ¬ at_ > (d.size : Int) ∧ n > (d.size : Int) - at_) := by omega
  clear h hbad
  rcases key with h1 | ⟨h1, h2⟩ | ⟨h1, h2, h3⟩ | ⟨h1, h2, h3, h4⟩
  all_goals
    go_enter Try.func25, Try.ntmps25
    go_wp2
    go_ret2
    exact ⟨rfl, rfl⟩
set_option maxRecDepth 100000 in
set_option maxHeartbeats 2000000 in
theorem ref_read (h : RefAt w R r d F X L cL S cS Q cQ qs) (hok : d.Ok) (hsz : (d.size : Int) ≤ 65536) (at_ n : Nat) (hin : at_ + n ≤ d.size) : Calls Try.prog 25 #[.pointer (some ⟨r, 0, none⟩), .int .i64 (at_ : Int), .int .i64 (n : Int)] w fun e w' => e = .returned (.tuple #[.string (strB (readB d at_ n)), .int .i64 0]) ∧ w = w' := by
  have k1 : w.cell? ⟨r, 1, none⟩ = some (.slice (some ⟨S, 0, none⟩) d.size cS) := cellOf h.box rfl
  have HS := Lib.hid (fun i hi => h.seenAt i hi)
  have h3 : ¬ ((at_ : Int) > (d.size : Int)) := by omega
  have h4 : ¬ ((n : Int) > (d.size : Int) - at_) := by omega
  have hadd := strB_append
  clear h
  go_enter Try.func25, Try.ntmps25
  go_wp2
  go_loop [8, 9] (fun s i => ∃ k : Nat, k ≤ n ∧ i = .int .i64 (k : Int) ∧ s = .string (strB (readB d at_ k))) (fun _ i => n - (intOf i).toNat)
  case atStart => exact ⟨0, Nat.zero_le _, rfl, rfl⟩
  case round =>
    obtain ⟨k, hk, rfl, rfl⟩ := hrel
    by_cases hlt : k < n
    · have hc : w.cell? ⟨S, at_ + k, none⟩ = some (.string (strB ((d.seen ((at_ + k : Nat) : Int)).getD zblk))) := HS.out (at_ + k) (by omega)
      have he := readB_succ d at_ k
      have He := Lib.hid he
      have hb : at_ + k < d.size := by omega
      have hl1 : (strB (readB d at_ k)).size = 512 * k := readB_length hok at_ k
      have hl2 : (strB ((d.seen ((at_ + k : Nat) : Int)).getD zblk)).size = 512 := seen_length hok _
      have hk2 : (k : Int) ≤ 65536 := by omega
      clear he
      generalize (d.seen ((at_ + k : Nat) : Int)).getD zblk = bk at *
      go_wp2
      go_round
      case rel => exact ⟨k + 1, by omega, by go_num, by rw [He.out]⟩
      case measure => simp [intOf]; omega
    · obtain rfl : k = n := by omega
      go_wp2
      go_ret2
      exact ⟨rfl, rfl⟩
end

def DM.partFlushed (d : DM) (k : Nat) : DM := { d with lasting := fun j => if 0 ≤ j ∧ j < (k : Int) then d.seen j else d.lasting j, since := fun j => if 0 ≤ j ∧ j < (k : Int) then none else d.since j }
section
variable {w : World} {R : Nat → Prop} {r : Nat} {d d' : DM} {F : List Int} {X : Value} {L cL S cS Q cQ : Nat} {qs : List Value}
theorem partFlushed_zero (h : RefAt w R r d F X L cL S cS Q cQ qs) : RefAt w R r (d.partFlushed 0) F X L cL S cS Q cQ qs :=
  h.congr rfl rfl rfl (fun i _ => by show ((if 0 ≤ (i : Int) ∧ (i : Int) < ((0 : Nat) : Int) then d.seen i else d.lasting i)).getD zblk = _; rw [if_neg (by omega)]) (fun _ _ => rfl) (fun i _ => by show ((if 0 ≤ (i : Int) ∧ (i : Int) < ((0 : Nat) : Int) then none else d.since i)).getD [] = _; rw [if_neg (by omega)])
theorem partFlushed_all (h : RefAt w R r (d.partFlushed d.size) F X L cL S cS Q cQ qs) : RefAt w R r d.flushed F X L cL S cS Q cQ qs := by
  refine h.congr rfl rfl rfl (fun i hi => ?_) (fun _ _ => rfl) (fun i hi => ?_)
  · have hi' : i < d.size := hi
    show (d.seen i).getD zblk = ((if 0 ≤ (i : Int) ∧ (i : Int) < (d.size : Int) then d.seen i else d.lasting i)).getD zblk
    rw [if_pos (by omega)]
  · have hi' : i < d.size := hi
    show [] = ((if 0 ≤ (i : Int) ∧ (i : Int) < (d.size : Int) then none else d.since i)).getD []
    rw [if_pos (by omega)]; rfl
/-- One block lasts. -/
theorem RefAt.lastOne {k : Nat} (h : RefAt w R r (d.partFlushed k) F X L cL S cS Q cQ qs) (hk : k < d.size) :
    RefAt ((w.setCell ⟨L, k, none⟩ (strV ((d.seen (k : Int)).getD zblk))).setCell ⟨Q, k, none⟩ (.slice none 0 0)) R r (d.partFlushed (k + 1)) F X L cL S cS Q cQ (qs.set k (.slice none 0 0)) := by
  have h1 := h.putL (d' := { d.partFlushed k with lasting := (d.partFlushed (k + 1)).lasting }) k hk ((d.seen (k : Int)).getD zblk) rfl rfl (by
    show ((if 0 ≤ (k : Int) ∧ (k : Int) < ((k + 1 : Nat) : Int) then d.seen k else d.lasting k)).getD zblk = _
    rw [if_pos (by omega)]) rfl rfl rfl (fun j hj => by
    show (if 0 ≤ j ∧ j < ((k + 1 : Nat) : Int) then d.seen j else d.lasting j) = (if 0 ≤ j ∧ j < (k : Int) then d.seen j else d.lasting j)
    by_cases hc : 0 ≤ j ∧ j < (k : Int)
    · rw [if_pos hc, if_pos (by omega)]
    · rw [if_neg hc, if_neg (by omega)])
  refine h1.putQ (d' := d.partFlushed (k + 1)) k hk (.slice none 0 0) [] (World.ownsRow_nil _ _ _ _) (fun b hb => absurd hb (by simp [Value.ownBlock])) rfl rfl rfl rfl rfl ?_ (fun j hj => ?_)
  · show ((if 0 ≤ (k : Int) ∧ (k : Int) < ((k + 1 : Nat) : Int) then none else d.since k)).getD [] = _
    rw [if_pos (by omega)]; rfl
  · show (if 0 ≤ j ∧ j < ((k + 1 : Nat) : Int) then none else d.since j) = (if 0 ≤ j ∧ j < (k : Int) then none else d.since j)
    by_cases hc : 0 ≤ j ∧ j < (k : Int)
    · rw [if_pos hc, if_pos (by omega)]
    · rw [if_neg hc, if_neg (by omega)]
end
theorem put_str {w : World} {ad : Addr} {x : ByteArray} {u : Value} (hc : w.cell? ad = some u) (hf : w.frozen? ad = false) : (storeVar 9 ad (.string x)).run Try.prog w = .ok () (w.setCell ad (.string x)) := by
  simp [storeVar, go_sem, hc, hf]

set_option maxRecDepth 100000 in
set_option maxHeartbeats 4000000 in
theorem ref_flush {w : World} {R : Nat → Prop} {r : Nat} {d : DM} {F : List Int} {X : Value} {L cL S cS Q cQ : Nat} {qs : List Value} (h : RefAt w R r d F X L cL S cS Q cQ qs) (hok : d.Ok) {N : Nat} (hB : FailB d N) (hst : d.steps ≤ 100000) (hF : F.length ≤ 1000000) :
    Calls Try.prog 26 #[.pointer (some ⟨r, 0, none⟩)] w fun e w' => e = .returned (.int .i64 d.flush.2) ∧ Ref w' R r d.flush.1 F ∧ Touch R w w' := by
  have hst0 := ref_step h hB (by omega) hF
  have hsz := hok.most
  have HS := Lib.hid hst0
  have hw2 : d.flush = (if d.failing then d.stepped else d.stepped.flushed, if d.failing then 300 else 0) := rfl
  rw [hw2]
  clear h hst0 hok hB hst hF hw2
  cases hfl : d.failing
  all_goals
    rw [hfl] at HS
  · go_enter Try.func26, Try.ntmps26
    go_wp2_with (go_at_call 47; refine HS.out.mono ?_; rintro e w1 ⟨rfl, hA1, hT1⟩; have H1 := Lib.hid (And.intro hA1 hT1); clear hA1 hT1)
    go_loopw [3] (fun i wr => ∃ (k : Nat) (qs' : List Value), k ≤ d.size ∧ i = .int .i64 (k : Int) ∧ RefAt wr R r (d.stepped.partFlushed k) F X L cL S cS Q cQ qs' ∧ Touch R w wr) (fun i _ => d.size - (intOf i).toNat)
    case atStart => exact ⟨0, qs, Nat.zero_le _, rfl, partFlushed_zero H1.out.1, H1.out.2⟩
    case round =>
      obtain ⟨k, qs', hk, rfl, hA, hT⟩ := hrel
      have k1 : wr.cell? ⟨r, 1, none⟩ = some (.slice (some ⟨S, 0, none⟩) d.size cS) := cellOf hA.box rfl
      by_cases hlt : k < d.size
      · have hn := hA.nodup
        simp only [List.nodup_cons, List.mem_cons, List.not_mem_nil, or_false, not_or] at hn
        obtain ⟨q, hq1, hq2⟩ := hA.at k hlt
        have k0 : wr.drew.cell? ⟨r, 0, none⟩ = some (.slice (some ⟨L, 0, none⟩) d.size cL) := cellOf hA.box rfl
        have k1' : wr.drew.cell? ⟨r, 1, none⟩ = some (.slice (some ⟨S, 0, none⟩) d.size cS) := k1
        have ks : wr.drew.cell? ⟨S, k, none⟩ = some (.string (strB ((d.seen (k : Int)).getD zblk))) := hA.seenAt k hlt
        have kl : wr.drew.cell? ⟨L, k, none⟩ = some (strV (((d.stepped.partFlushed k).lasting (k : Int)).getD zblk)) := hA.lastAt k hlt
        have kf : wr.drew.frozen? ⟨L, k, none⟩ = false := hA.lasting.free k
        have hA2 : RefAt ((wr.drew.setCell ⟨L, k, none⟩ (strV ((d.seen (k : Int)).getD zblk))).setCell ⟨Q, k, none⟩ (.slice none 0 0)) R r (d.stepped.partFlushed (k + 1)) F X L cL S cS Q cQ (qs'.set k (.slice none 0 0)) := (hA.touch ((Touch.refl (fun _ => False) wr).drew) (fun _ _ h => h)).lastOne hlt
        have hT2 : Touch R w ((wr.drew.setCell ⟨L, k, none⟩ (strV ((d.seen (k : Int)).getD zblk))).setCell ⟨Q, k, none⟩ (.slice none 0 0)) := (hT.drew.setCell (.inl (hA.foot L (by simp))) _).setCell (.inl (hA.foot Q (by simp))) _
        have j2 : (wr.drew.setCell ⟨L, k, none⟩ (strV ((d.seen (k : Int)).getD zblk))).cell? ⟨r, 2, none⟩ = some (.slice (some ⟨Q, 0, none⟩) d.size cQ) := by
          refine cellOf (cs := _) ((Below.heap_setCell wr.drew ⟨L, k, none⟩ _ r hn.1.1).trans hA.box) rfl
        have j3 : (wr.drew.setCell ⟨L, k, none⟩ (strV ((d.seen (k : Int)).getD zblk))).cell? ⟨Q, k, none⟩ = some q :=
          ((hA.since.of_heap (w' := wr.drew) rfl).other (fun e => hn.2.1.2 e.symm) _).cell hq1
        have j4 : (wr.drew.setCell ⟨L, k, none⟩ (strV ((d.seen (k : Int)).getD zblk))).frozen? ⟨Q, k, none⟩ = false :=
          ((hA.since.of_heap (w' := wr.drew) rfl).other (fun e => hn.2.1.2 e.symm) _).free k
        have hst := put_str kl kf (x := strB ((d.seen (k : Int)).getD zblk))
        have hS0 : (wr.drew.cell? ⟨r, 0, none⟩ = some (.slice (some ⟨L, 0, none⟩) d.size cL) ∧ wr.drew.cell? ⟨r, 1, none⟩ = some (.slice (some ⟨S, 0, none⟩) d.size cS)) ∧ wr.drew.cell? ⟨S, k, none⟩ = some (.string (strB ((d.seen (k : Int)).getD zblk))) := ⟨⟨k0, k1'⟩, ks⟩
        have HA := Lib.hid (And.intro hA2 hT2)
        have HJ := Lib.hid (And.intro j2 (And.intro j3 j4))
        have hst' : (storeVar 9 ⟨L, k, none⟩ (.string (strB ((d.seen (k : Int)).getD zblk)))).run Try.prog wr.drew = .ok () (wr.drew.setCell ⟨L, k, none⟩ (strV ((d.seen (k : Int)).getD zblk))) := hst
        have Hst := Lib.hid hst'
        have HS0 := Lib.hid hS0
        clear hA hT hn hq1 hq2 k0 k1' ks kl kf hA2 hT2 j2 j3 j4 hst hst' hS0
        go_wp2
        have hS0 := HS0.out
        have hf0 : ∀ W : World, (Instr.fieldAt 33 (.pointer (some ⟨r, 0, none⟩)) 0).run Try.prog W = .ok (.pointer (some ⟨r, 0, none⟩)) W := by intro W; simp [go_sem]
        have hf1 : ∀ W : World, (Instr.fieldAt 33 (.pointer (some ⟨r, 0, none⟩)) 1).run Try.prog W = .ok (.pointer (some ⟨r, 1, none⟩)) W := by intro W; simp [go_sem]
        have hix : ∀ (b c : Nat) (W : World), (Instr.indexAt 29 (.slice (some ⟨b, 0, none⟩) d.size c) (.int .i64 (k : Int))).run Try.prog W = .ok (.pointer (some ⟨b, k, none⟩)) W := fun b c W => by
          have h1 : 0 ≤ (k : Int) ∧ (k : Int) < (d.size : Int) := by omega
          simp [go_sem, hlt, addr_add]
        refine plain_region_draws (fun W => (W.cell? ⟨r, 0, none⟩ = some (.slice (some ⟨L, 0, none⟩) d.size cL) ∧ W.cell? ⟨r, 1, none⟩ = some (.slice (some ⟨S, 0, none⟩) d.size cS)) ∧ W.cell? ⟨S, k, none⟩ = some (.string (strB ((d.seen (k : Int)).getD zblk)))) (by kernel_rfl) hS0 (fun hS => ?_)
        refine take 0 15 (v := .pointer (some ⟨r, 0, none⟩)) rfl rfl (by kernel_rfl) (by kernel_rfl) (by kernel_rfl) rfl (fun W hW => exec_move rfl rfl) (by assumption) ?_
        simp only [Act.put, List.setIfInBounds_toArray, List.set_cons_zero, List.set_cons_succ]
        refine take 1 16 (v := .pointer (some ⟨r, 0, none⟩)) rfl rfl (by kernel_rfl) (by kernel_rfl) (by kernel_rfl) rfl (fun W hW => rfl) (by assumption) ?_
        simp only [Act.put, List.setIfInBounds_toArray, List.set_cons_zero, List.set_cons_succ]
        refine take 2 17 (v := .pointer (some ⟨r, 0, none⟩)) rfl rfl (by kernel_rfl) (by kernel_rfl) (by kernel_rfl) rfl (fun W hW => exec_fieldAddr rfl rfl (hf0 W)) (by assumption) ?_
        simp only [Act.put, List.setIfInBounds_toArray, List.set_cons_zero, List.set_cons_succ]
        refine take 3 18 (v := .slice (some ⟨L, 0, none⟩) d.size cL) rfl rfl (by kernel_rfl) (by kernel_rfl) (by kernel_rfl) rfl (fun W hW => exec_load rfl rfl (run_load1 (w := W) Try.underlying29 rfl hW.1.1)) (by assumption) ?_
        simp only [Act.put, List.setIfInBounds_toArray, List.set_cons_zero, List.set_cons_succ]
        refine take 4 19 (v := .int .i64 (k : Int)) rfl rfl (by kernel_rfl) (by kernel_rfl) (by kernel_rfl) rfl (fun W hW => exec_move rfl rfl) (by assumption) ?_
        simp only [Act.put, List.setIfInBounds_toArray, List.set_cons_zero, List.set_cons_succ]
        refine take 5 20 (v := .pointer (some ⟨r, 0, none⟩)) rfl rfl (by kernel_rfl) (by kernel_rfl) (by kernel_rfl) rfl (fun W hW => exec_move rfl rfl) (by assumption) ?_
        simp only [Act.put, List.setIfInBounds_toArray, List.set_cons_zero, List.set_cons_succ]
        refine take 6 21 (v := .pointer (some ⟨r, 0, none⟩)) rfl rfl (by kernel_rfl) (by kernel_rfl) (by kernel_rfl) rfl (fun W hW => rfl) (by assumption) ?_
        simp only [Act.put, List.setIfInBounds_toArray, List.set_cons_zero, List.set_cons_succ]
        refine take 7 22 (v := .pointer (some ⟨r, 1, none⟩)) rfl rfl (by kernel_rfl) (by kernel_rfl) (by kernel_rfl) rfl (fun W hW => exec_fieldAddr rfl rfl (hf1 W)) (by assumption) ?_
        simp only [Act.put, List.setIfInBounds_toArray, List.set_cons_zero, List.set_cons_succ]
        refine take 8 23 (v := .slice (some ⟨S, 0, none⟩) d.size cS) rfl rfl (by kernel_rfl) (by kernel_rfl) (by kernel_rfl) rfl (fun W hW => exec_load rfl rfl (run_load1 (w := W) Try.underlying29 rfl hW.1.2)) (by assumption) ?_
        simp only [Act.put, List.setIfInBounds_toArray, List.set_cons_zero, List.set_cons_succ]
        refine take 9 24 (v := .int .i64 (k : Int)) rfl rfl (by kernel_rfl) (by kernel_rfl) (by kernel_rfl) rfl (fun W hW => exec_move rfl rfl) (by assumption) ?_
        simp only [Act.put, List.setIfInBounds_toArray, List.set_cons_zero, List.set_cons_succ]
        refine take 10 25 (v := .pointer (some ⟨S, k, none⟩)) rfl rfl (by kernel_rfl) (by kernel_rfl) (by kernel_rfl) rfl (fun W hW => exec_indexAddr rfl rfl rfl (hix S cS W)) (by assumption) ?_
        simp only [Act.put, List.setIfInBounds_toArray, List.set_cons_zero, List.set_cons_succ]
        refine take 11 26 (v := .string (strB ((d.seen (k : Int)).getD zblk))) rfl rfl (by kernel_rfl) (by kernel_rfl) (by kernel_rfl) rfl (fun W hW => exec_load rfl rfl (run_load1 (w := W) Try.underlying9 rfl hW.2)) (by assumption) ?_
        simp only [Act.put, List.setIfInBounds_toArray, List.set_cons_zero, List.set_cons_succ]
        refine take 12 27 (v := .pointer (some ⟨L, k, none⟩)) rfl rfl (by kernel_rfl) (by kernel_rfl) (by kernel_rfl) rfl (fun W hW => exec_indexAddr rfl rfl rfl (hix L cL W)) (by assumption) ?_
        simp only [Act.put, List.setIfInBounds_toArray, List.set_cons_zero, List.set_cons_succ]
        refine onlySkip 13 rfl rfl (by kernel_rfl) rfl (exec_store rfl rfl rfl Hst.out) (.inl (by kernel_rfl)) ?_
        refine done (by kernel_rfl) ?_ _
        obtain ⟨j2, j3, j4⟩ := HJ.out
        generalize hW2 : wr.drew.setCell ⟨L, k, none⟩ (strV ((d.seen (k : Int)).getD zblk)) = W2 at *
        clear hW2 hS0 hf0 hf1 hix hS Hst HS0 HJ
        go_wp2
        go_roundw
        case rel => exact ⟨k + 1, _, by omega, by go_num, HA.out⟩
        case measure => simp [intOf]; omega
      · obtain rfl : k = d.size := by omega
        have Hfin := Lib.hid (And.intro (⟨X, L, cL, S, cS, Q, cQ, qs', partFlushed_all hA⟩ : Ref wr R r d.stepped.flushed F) hT)
        clear hA hT
        go_wp2
        go_ret
        exact ⟨rfl, Hfin.out⟩
  · go_enter Try.func26, Try.ntmps26
    go_wp2_with (go_at_call 47; refine HS.out.mono ?_; rintro e w1 ⟨rfl, hA1, hT1⟩; have H1 := Lib.hid (And.intro hA1 hT1); clear hA1 hT1)
    go_ret
    exact ⟨rfl, ⟨X, L, cL, S, cS, Q, cQ, qs, H1.out.1⟩, H1.out.2⟩
end Go.Proofs.Ytmgajgeoibbmjaa

