/- Texts that the proof shares (each declaration is a lemma of this layer). -/
import Derived.Test.YthdfedfholmbmaaGreatDoorZGbacka
import Derived.Test.YthdfedfholmbmaaGreatDoorZGbackb
import Derived.Test.YthdfedfholmbmaaGreatDoorZGbackc
import Derived.Lib.IndexLaws
import Derived.Shelf.SlicesE.Compact
import Derived.Ground.SlgnProg
import Derived.Test.YthdfedfholmbmaaGreatDoorProg
import Derived.Lib.SlicesCompact
set_option linter.unusedSimpArgs false
set_option linter.unusedVariables false
set_option maxRecDepth 100000
set_option maxHeartbeats 64000000
namespace Go.Proofs.YthdfedfholmbmaaGreatDoor
open Go.RowKit
theorem no_zero (s : List UInt8) : decide (Lib.indexByte s 0 < 0) = !s.contains 0 := by
  have hge := Lib.indexByte_ge s 0
  rw [Bool.eq_iff_iff]
  simp only [decide_eq_true_eq, Bool.not_eq_true', List.contains_eq_mem, decide_eq_false_iff_not]
  constructor
  · intro h hm
    obtain ⟨k, hk, he⟩ := List.getElem_of_mem hm
    have := Lib.indexByte_none (l := s) (c := 0) (by omega) k
    rw [List.getElem?_eq_getElem hk, he] at this
    exact this rfl
  · intro h
    by_cases hn : Lib.indexByte s 0 < 0
    · exact hn
    · obtain ⟨o, ho⟩ := Int.eq_ofNat_of_zero_le (by omega : 0 ≤ Lib.indexByte s 0)
      exact absurd (List.mem_of_getElem? (Lib.indexByte_some (l := s) (c := 0) (o := o) ho).1) h
theorem wname_any {w : World} (hE : Env w) (s : List UInt8) (hs : s.length ≤ 140737488355328) : Calls Tryz.prog 144 #[.string (strB s)] w fun e w' => e = .returned (.bool (okNm s)) ∧ Below w.heap.size w w' := by
  have hsz : (strB s).size = s.length := rfl
  have htl : (strB s).toList = s := strB_toList s
  have HV := Lib.hid (valid_any hE s hs)
  have hz := no_zero s
  by_cases h0 : s = []
  · subst h0
    have e0 : strB [] = (⟨#[]⟩ : ByteArray) := rfl
    have HOK := Lib.hid (show okNm [] = false from rfl)
    rw [e0]
    clear hz htl hE HV
    go_enter Tryz.func144, Tryz.ntmps144
    go_wp2
    go_ret
    exact ⟨by rw [HOK.out]; rfl, Below.refl _ _⟩
  · have he : s.isEmpty = false := by cases s with
      | nil => exact absurd rfl h0
      | cons => rfl
    by_cases h1 : s.length ≤ 64
    · have z1 : (s.length : Int) ≤ 64 := by omega
      have hok : okNm s = (Lib.validD s && !s.contains 0) := by unfold okNm; rw [he]; simp [h1]
      have HOK := Lib.hid hok
      cases hv : Lib.validD s with
      | false =>
        rw [hv] at HV hok
        have HK := Lib.hid hok
        clear hok hz hE
        go_enter Tryz.func144, Tryz.ntmps144
        go_wp2_with (go_at_call 151; refine HV.out.mono ?_; rintro e W1 ⟨rfl, hb⟩; have HB := Lib.hid hb; clear hb)
        go_ret
        exact ⟨by rw [HK.out]; rfl, HB.out⟩
      | true =>
        rw [hv, Bool.true_and] at hok
        rw [hv] at HV
        rw [← hz] at hok
        have HK := Lib.hid hok
        clear hok hz hE
        have HI := Lib.hid (fun W => Tryz.strings_IndexByte (strB s) 0 W)
        go_enter Tryz.func144, Tryz.ntmps144
        go_wp2_with (first
          | (go_at_call 151; refine HV.out.mono ?_; rintro e W1 ⟨rfl, hb⟩; have HB := Lib.hid hb; clear hb)
          | (go_at_call 168; refine (HI.out _).mono ?_; rintro e W2 ⟨rfl, rfl⟩))
        go_ret
        exact ⟨by rw [HK.out]; rfl, HB.out⟩
    · have z1 : ¬ (s.length : Int) ≤ 64 := by omega
      have hok : okNm s = false := by unfold okNm; simp [h1]
      have HOK := Lib.hid hok
      clear hok hz hE
      go_enter Tryz.func144, Tryz.ntmps144
      go_wp2
      go_ret
      exact ⟨by rw [HOK.out]; rfl, Below.refl _ _⟩
end Go.Proofs.YthdfedfholmbmaaGreatDoor

namespace Go.Proofs.YthdfedfholmbmaaGreatDoor
open Go.RowKit
theorem sub_one {j : Nat} (hj : j ≤ 140737488355328) (W : World) : (binOp .sub 3 (.int .i64 ((j : Int) + 1)) (.int .i64 1)).run Tryz.prog W = .ok (.int .i64 (j : Int)) W := by
  have e : IntKind.i64.wrap (j : Int) = (j : Int) := by rw [IntKind.wrap_i64]; omega
  simp [go_sem, e]
theorem ia_text {b o n len c : Nat} (h : n < len) (W : World) : (Instr.indexAt 45 (.slice (some ⟨b, o, none⟩) len c) (.int .i64 (n : Int))).run Tryz.prog W = .ok (.pointer (some ⟨b, o + n, none⟩)) W := by simp [go_sem, h]
theorem geq_texts (s1 s2 : List UInt8) (W : World) : (binOp .geq 9 (.string (strB s1)) (.string (strB s2))).run Tryz.prog W = .ok (.bool (!(ltB s1 s2))) W := by
  simp [go_sem, strB_toList, less_eq]
theorem risesS_any {w : World} {p : Option Addr} {c : Nat} {l : List (List UInt8)} (h : RdS w p c l) : Calls Tryz.prog 140 #[.slice p l.length c] w fun e w' => e = .returned (.bool (risesB l)) ∧ Below w.heap.size w w' := by
  have z1 : (l.length : Int) ≤ 140737488355328 := by have := h.2.1.1; omega
  have H := Lib.hid h
  clear h
  go_enter Tryz.func140, Tryz.ntmps140
  go_wp2
  go_loopw [3] (fun i W => ∃ j : Nat, j ≤ l.length ∧ i = .int .i64 ((j : Int) + 1) ∧ Hid (risesB (l.take (j + 1)) = true ∧ Below w.heap.size w W)) (fun i _ => l.length + 1 - (intOf i).toNat)
  case atStart => exact ⟨0, Nat.zero_le _, rfl, Lib.hid ⟨by cases l <;> simp [risesB], Below.refl _ _⟩⟩
  case round =>
    obtain ⟨j, hj, rfl, HI⟩ := hrel
    by_cases hlt : j + 1 < l.length
    · have hlt0 : j < l.length := by omega
      have g1 : (j : Int) + 1 < (l.length : Int) := by omega
      obtain ⟨bk, ok, rfl, q1, _⟩ := (H.out.below HI.out.2).get hlt0
      obtain ⟨bk', ok', e', q2, _⟩ := (H.out.below HI.out.2).get hlt
      cases e'
      have hst := risesB_step hlt
      have htk := fun h : risesB l = true => risesB_take h (j + 2) (by omega)
      generalize l[j] = s1 at *
      generalize l[j + 1] = s2 at *
      have HC := Lib.hid (And.intro hst htk)
      have hS0 : wr.drew.cell? ⟨bk, ok + j, none⟩ = some (.string (strB s1)) ∧ wr.drew.cell? ⟨bk, ok + (j + 1), none⟩ = some (.string (strB s2)) := ⟨q1, q2⟩
      have HB := Lib.hid (show Below w.heap.size w wr.drew from HI.out.2.drew)
      have hi1 : ∀ W' : World, (Instr.indexAt 45 (.slice (some ⟨bk, ok, none⟩) l.length c) (.int .i64 (j : Int))).run Tryz.prog W' = .ok (.pointer (some ⟨bk, ok + j, none⟩)) W' := by intro W'; simp [go_sem, hlt0]
      have hi2 : ∀ W' : World, (Instr.indexAt 45 (.slice (some ⟨bk, ok, none⟩) l.length c) (.int .i64 ((j : Int) + 1))).run Tryz.prog W' = .ok (.pointer (some ⟨bk, ok + (j + 1), none⟩)) W' := by
        intro W'
        have e : ((j : Int) + 1) = ((j + 1 : Nat) : Int) := by omega
        rw [e]
        exact ia_text hlt W'
      have hsub : ∀ W' : World, (binOp .sub 3 (.int .i64 ((j : Int) + 1)) (.int .i64 1)).run Tryz.prog W' = .ok (.int .i64 (j : Int)) W' := fun W' => sub_one (by omega) W'
      have HX := Lib.hid (And.intro hi1 (And.intro hi2 hsub))
      have HR := Lib.hid HI.out.1
      clear hst htk q1 q2 hi1 hi2 hsub HI
      cases hb : ltB s1 s2 with
      | true =>
        go_wp2
        obtain ⟨hi1, hi2, hsub⟩ := HX.out
        refine plain_region_draws (fun W => W.cell? ⟨bk, ok + j, none⟩ = some (.string (strB s1)) ∧ W.cell? ⟨bk, ok + (j + 1), none⟩ = some (.string (strB s2))) (by kernel_rfl) hS0 (fun hS => ?_)
        refine tk 0 10 (v := .slice (some ⟨bk, ok, none⟩) l.length c) rfl rfl (fun W hW => exec_move rfl rfl) ?_
        simp only [Act.put, sA, sZ, sS]
        refine tk 1 11 (v := .int .i64 ((j : Int) + 1)) rfl rfl (fun W hW => exec_move rfl rfl) ?_
        simp only [Act.put, sA, sZ, sS]
        refine tk 2 12 (v := .int .i64 (j : Int)) rfl rfl (fun W hW => exec_bini rfl rfl rfl (hsub W)) ?_
        simp only [Act.put, sA, sZ, sS]
        refine tk 3 13 (v := .pointer (some ⟨bk, ok + j, none⟩)) rfl rfl (fun W hW => exec_indexAddr rfl rfl rfl (hi1 W)) ?_
        simp only [Act.put, sA, sZ, sS]
        refine tk 4 14 (v := .string (strB s1)) rfl rfl (fun W hW => exec_load rfl rfl (run_load1 (w := W) Tryz.underlying9 rfl hW.1)) ?_
        simp only [Act.put, sA, sZ, sS]
        refine tk 5 15 (v := .slice (some ⟨bk, ok, none⟩) l.length c) rfl rfl (fun W hW => exec_move rfl rfl) ?_
        simp only [Act.put, sA, sZ, sS]
        refine tk 6 16 (v := .int .i64 ((j : Int) + 1)) rfl rfl (fun W hW => exec_move rfl rfl) ?_
        simp only [Act.put, sA, sZ, sS]
        refine tk 7 17 (v := .pointer (some ⟨bk, ok + (j + 1), none⟩)) rfl rfl (fun W hW => exec_indexAddr rfl rfl rfl (hi2 W)) ?_
        simp only [Act.put, sA, sZ, sS]
        refine tk 8 18 (v := .string (strB s2)) rfl rfl (fun W hW => exec_load rfl rfl (run_load1 (w := W) Tryz.underlying9 rfl hW.2)) ?_
        simp only [Act.put, sA, sZ, sS]
        refine tk 9 19 (v := .bool (!(ltB s1 s2))) rfl rfl (fun W hW => exec_bins rfl rfl rfl (geq_texts s1 s2 W)) ?_
        simp only [Act.put, sA, sZ, sS]
        refine done (by kernel_rfl) ?_ _
        clear hS hS0 hi1 hi2 hsub
        simp only [hb, Bool.not_true]
        go_wp2
        go_roundw
        case rel => exact ⟨j + 1, by omega, by go_num, Lib.hid ⟨by rw [HC.out.1, HR.out, hb]; rfl, HB.out⟩⟩
        case measure => simp [intOf]; omega
      | false =>
        go_wp2
        obtain ⟨hi1, hi2, hsub⟩ := HX.out
        refine plain_region_draws (fun W => W.cell? ⟨bk, ok + j, none⟩ = some (.string (strB s1)) ∧ W.cell? ⟨bk, ok + (j + 1), none⟩ = some (.string (strB s2))) (by kernel_rfl) hS0 (fun hS => ?_)
        refine tk 0 10 (v := .slice (some ⟨bk, ok, none⟩) l.length c) rfl rfl (fun W hW => exec_move rfl rfl) ?_
        simp only [Act.put, sA, sZ, sS]
        refine tk 1 11 (v := .int .i64 ((j : Int) + 1)) rfl rfl (fun W hW => exec_move rfl rfl) ?_
        simp only [Act.put, sA, sZ, sS]
        refine tk 2 12 (v := .int .i64 (j : Int)) rfl rfl (fun W hW => exec_bini rfl rfl rfl (hsub W)) ?_
        simp only [Act.put, sA, sZ, sS]
        refine tk 3 13 (v := .pointer (some ⟨bk, ok + j, none⟩)) rfl rfl (fun W hW => exec_indexAddr rfl rfl rfl (hi1 W)) ?_
        simp only [Act.put, sA, sZ, sS]
        refine tk 4 14 (v := .string (strB s1)) rfl rfl (fun W hW => exec_load rfl rfl (run_load1 (w := W) Tryz.underlying9 rfl hW.1)) ?_
        simp only [Act.put, sA, sZ, sS]
        refine tk 5 15 (v := .slice (some ⟨bk, ok, none⟩) l.length c) rfl rfl (fun W hW => exec_move rfl rfl) ?_
        simp only [Act.put, sA, sZ, sS]
        refine tk 6 16 (v := .int .i64 ((j : Int) + 1)) rfl rfl (fun W hW => exec_move rfl rfl) ?_
        simp only [Act.put, sA, sZ, sS]
        refine tk 7 17 (v := .pointer (some ⟨bk, ok + (j + 1), none⟩)) rfl rfl (fun W hW => exec_indexAddr rfl rfl rfl (hi2 W)) ?_
        simp only [Act.put, sA, sZ, sS]
        refine tk 8 18 (v := .string (strB s2)) rfl rfl (fun W hW => exec_load rfl rfl (run_load1 (w := W) Tryz.underlying9 rfl hW.2)) ?_
        simp only [Act.put, sA, sZ, sS]
        refine tk 9 19 (v := .bool (!(ltB s1 s2))) rfl rfl (fun W hW => exec_bins rfl rfl rfl (geq_texts s1 s2 W)) ?_
        simp only [Act.put, sA, sZ, sS]
        refine done (by kernel_rfl) ?_ _
        clear hS hS0 hi1 hi2 hsub
        simp only [hb, Bool.not_false]
        go_wp2
        go_ret
        refine ⟨?_, HB.out⟩
        have hf : risesB l = false := by
          cases hr : risesB l with
          | false => rfl
          | true =>
            have := HC.out.2 hr
            rw [HC.out.1, hb, Bool.and_false] at this
            cases this
        rw [hf]; rfl
    · have g1 : ¬ ((j : Int) + 1 < (l.length : Int)) := by omega
      have hf : risesB l = true := by
        have := HI.out.1
        rw [List.take_of_length_le (by omega)] at this
        exact this
      have HF := Lib.hid (And.intro hf HI.out.2)
      clear hf HI
      go_wp2
      go_ret
      exact ⟨by rw [HF.out.1]; rfl, HF.out.2⟩
theorem keysG_any {w : World} {p : Option Addr} {c : Nat} {l : List PropD} (h : GRd PRd 7 w p c l) (hl : l.length ≤ 1000000) : Calls Tryz.prog 166 #[.slice p l.length c] w fun e w' => ∃ v, e = .returned v ∧ OwnsP w' (fun b => w.heap.size ≤ b) 9 1 v l.length (l.map fun p => strV p.key) ∧ Below w.heap.size w w' := by
  have z1 : (l.length : Int) ≤ 1000000 := by omega
  have H := Lib.hid h
  clear h
  go_enter Tryz.func166, Tryz.ntmps166
  go_wp2
  go_loopw [3, 8] (fun ov i W => ∃ (j : Nat) (a : Option Addr) (n1 c1 : Nat), j ≤ l.length ∧ i = .int .i64 (j : Int) ∧ ov = .slice a n1 c1 ∧ Hid (OwnsP W (fun b => w.heap.size ≤ b) 9 1 (.slice a n1 c1) j ((l.take j).map fun p => strV p.key) ∧ Below w.heap.size w W)) (fun _ i _ => l.length - (intOf i).toNat)
  case atStart => exact ⟨0, none, 0, 0, Nat.zero_le _, rfl, rfl, Lib.hid ⟨⟨⟨by simp, .inl ⟨rfl, rfl⟩⟩, fun g hg => by simp [Value.ownBlock] at hg⟩, Below.refl _ _⟩⟩
  case round =>
    obtain ⟨j, a, n1, c1, hj, rfl, rfl, HI⟩ := hrel
    by_cases hlt : j < l.length
    · have hlt1 : j + 1 ≤ l.length := hlt
      obtain ⟨b, of, cs, rfl, hs, hc, hv⟩ := H.out.get hlt
      have hones := ef_prop.ones hv
      have hk0 : cs[0]? = some (.string (strB l[j].key)) := by obtain ⟨y, e, _⟩ := hv; rw [e, Array.getElem?_append_left (by simp)]; rfl
      have HL1 := Lib.hid (StT.load st_prop hs (fun i u hu => belowCell HI.out.2 (ltOf (hc i u hu)) (hc i u hu)) (W := wr))
      have HS := Lib.hid (StT.fresh st_prop hs hones (W := wr))
      have hb := below_new (w := wr) (.cells cs 136)
      have HK := Lib.hid (run_load1 (P := Tryz.prog) (w := wr.alloc (.cells cs 136)) Tryz.underlying9 rfl (cellOf (o := 0) (heap_alloc_new wr (.cells cs 136)) hk0))
      have HBS := Lib.hid (run_buildSlice_one (P := Tryz.prog) (w := wr.alloc (.cells cs 136)) (v := .string (strB l[j].key)) Tryz.underlying45 Tryz.sizeOf9 Tryz.zeroValue9 rfl (by omega) (by omega))
      have hb2 : Below wr.heap.size wr ((wr.alloc (.cells cs 136)).alloc (.cells #[.string (strB l[j].key)] 9)) := hb.alloc (by simp) _
      have ho := HI.out.1.keep (w' := (wr.alloc (.cells cs 136)).alloc (.cells #[.string (strB l[j].key)] 9)) fun b _ hl => hb2.block b hl
      obtain ⟨v', W4, a1, a2, a3, a4, a5⟩ := gt_str.app ho.1 (g := (wr.alloc (.cells cs 136)).heap.size) (x := #[.string (strB l[j].key)]) rfl (fun u hu => by simp only [List.mem_cons, List.not_mem_nil, or_false] at hu; subst hu; rfl) (heap_alloc_new _ _) (by omega) 45
      have hw := HI.out.2.size
      have hsz : ((wr.alloc (.cells cs 136)).alloc (.cells #[.string (strB l[j].key)] 9)).heap.size = wr.heap.size + 2 := by simp
      have hB4 : Below w.heap.size w W4 := a3.below (below_trans HI.out.2 hb2) (fun b hl e => by have := HI.out.1.2 b e; omega) (by omega)
      have hstep : (l.take (j + 1)).map (fun p => strV p.key) = (l.take j).map (fun p => strV p.key) ++ [strV l[j].key] := by rw [List.take_succ_eq_append_getElem hlt, List.map_append]; rfl
      have how : OwnsP W4 (fun b => w.heap.size ≤ b) 9 1 v' (j + 1) ((l.take (j + 1)).map fun p => strV p.key) := ⟨by rw [hstep]; simpa [strV] using a2, fun g hg => by
        rcases a4 with e | e
        · exact HI.out.1.2 g (e.symm.trans hg)
        · rw [e] at hg; cases hg; omega⟩
      obtain ⟨pk, nk, ck, rfl⟩ : ∃ pk n ck, v' = .slice pk n ck := by
        rcases how.1.2 with ⟨h, _⟩ | ⟨g, cap, cur, h, _⟩ <;> exact ⟨_, _, _, h⟩
      have HA := Lib.hid a1
      have HF := Lib.hid (And.intro how hB4)
      clear hones hk0 hb hb2 ho a1 a2 a3 a4 a5 hw hsz hB4 hstep how hc hv
      go_wp2_with (first
        | ((with_reducible apply op_load); exact HL1.out; exact rfl; clear HL1)
        | ((with_reducible apply op_store); exact HS.out _ rfl; exact rfl; exact rfl; clear HS)
        | ((with_reducible apply op_load); exact HK.out; exact rfl; clear HK)
        | ((with_reducible apply op_bs1); exact HBS.out; exact rfl; clear HBS)
        | ((with_reducible apply op_append); exact HA.out; exact rfl; exact rfl))
      go_roundw
      case rel => exact ⟨j + 1, pk, nk, ck, hlt1, by go_num, rfl, HF⟩
      case measure => simp [intOf]; omega
    · obtain rfl : j = l.length := by omega
      have hlast := HI.out.1
      rw [List.take_length] at hlast
      have HF := Lib.hid (And.intro hlast HI.out.2)
      clear hlast HI
      go_wp2
      go_ret
      exact ⟨_, rfl, HF.out⟩
end Go.Proofs.YthdfedfholmbmaaGreatDoor

namespace Go.Proofs.YthdfedfholmbmaaGreatDoor
open Go.RowKit
theorem wpList_runG {P : Program} {ops : Array Oper} {rest : List Oper} {o : Oper} {a : Act} {w w' : World} {v : Value} {Q : Exit → Act → World → Prop} (hw : Region.wanted o (yielded ops a.tmps) = true) (hr : (execOp a.eval o).run P w = .ok (.value v) w') (h : wpList P ops Q rest (a.put o.dst v) w') : wpList P ops Q (o :: rest) a w := by
  unfold wpList
  rw [if_pos hw]
  exact .inl (by unfold Oper.wp; rw [hr]; exact h)
def VRs (w : World) (l : List V) (xs : List (Array Value)) : Prop := xs.length = l.length ∧ ∀ (j : Nat) (v : V), l[j]? = some v → ∃ x, xs[j]? = some x ∧ VRd w v x
theorem VRs.nil (w : World) : VRs w [] [] := ⟨rfl, fun j v h => by simp at h⟩
theorem VRd.size6 {w : World} {v : V} {x : Array Value} (h : VRd w v x) : x.size = 6 := by
  obtain ⟨_, _, _, _, rfl, _⟩ := h.open; rfl
theorem VRd.ones {w : World} {v : V} {x : Array Value} (h : VRd w v x) : ∀ u ∈ x.toList, u.oneCell' = true := by
  obtain ⟨_, _, _, _, rfl, _⟩ := h.open; simp [Value.oneCell']
theorem VRs.append {w : World} {l m : List V} {xs ys : List (Array Value)} (h : VRs w l xs) (g : VRs w m ys) : VRs w (l ++ m) (xs ++ ys) := by
  refine ⟨by simp [h.1, g.1], fun j v hv => ?_⟩
  by_cases hj : j < l.length
  · rw [List.getElem?_append_left hj] at hv
    obtain ⟨x, h1, h2⟩ := h.2 j v hv
    exact ⟨x, by rw [List.getElem?_append_left (by rw [h.1]; exact hj)]; exact h1, h2⟩
  · rw [List.getElem?_append_right (by omega)] at hv
    obtain ⟨x, h1, h2⟩ := g.2 _ v hv
    exact ⟨x, by rw [List.getElem?_append_right (by rw [h.1]; omega), h.1]; exact h1, h2⟩
theorem VRs.six {w : World} {l : List V} {xs : List (Array Value)} (h : VRs w l xs) : ∀ x ∈ xs, ∃ v, VRd w v x := by
  intro x hx
  obtain ⟨j, hj, rfl⟩ := List.getElem_of_mem hx
  have hj2 : j < l.length := by rw [← h.1]; exact hj
  obtain ⟨y, h1, h2⟩ := h.2 j _ (List.getElem?_eq_getElem hj2)
  rw [List.getElem?_eq_getElem hj] at h1
  cases h1
  exact ⟨_, h2⟩
theorem VRs.below {w w' : World} {l : List V} {xs : List (Array Value)} (h : VRs w l xs) (g : Below w.heap.size w w') : VRs w' l xs :=
  ⟨h.1, fun j v hv => by obtain ⟨x, h1, h2⟩ := h.2 j v hv; exact ⟨x, h1, h2.below g⟩⟩
theorem flatA_len {xs : List (Array Value)} (h6 : ∀ x ∈ xs, x.size = 6) : (xs.flatMap Array.toList).length = xs.length * 6 := by
  induction xs with
  | nil => rfl
  | cons a r ih =>
    rw [List.flatMap_cons, List.length_append, ih fun x hx => h6 x (by simp [hx])]
    have := h6 a (by simp)
    simp [this]; omega
theorem LRd.cells {w : World} {p : Option Addr} {c : Nat} {l : List V} (h : LRd w p c l) : ∃ xs, VRs w l xs ∧ ∀ ad, p = some ad → ∀ (j : Nat) (u : Value), (xs.flatMap Array.toList)[j]? = some u → w.cell? (ad.add j) = some u := by
  have hx : ∀ i : Nat, ∃ x : Array Value, ∀ (hi : i < l.length), VRd w l[i] x ∧ ∀ ad, p = some ad → ad.spot = none ∧ Six w ad.block (ad.off + i * 6) x := by
    intro i
    by_cases hi : i < l.length
    · obtain ⟨b, o, cs, rfl, h6, hv⟩ := h.get hi
      exact ⟨cs, fun _ => ⟨hv, fun ad e => by cases e; exact ⟨rfl, h6⟩⟩⟩
    · exact ⟨#[], fun h => absurd h hi⟩
  obtain ⟨f, hf⟩ := Classical.axiomOfChoice hx
  have hxs : VRs w l ((List.range l.length).map f) := by
    refine ⟨by simp, fun j v hv => ?_⟩
    obtain ⟨hj, rfl⟩ := List.getElem?_eq_some_iff.1 hv
    exact ⟨f j, by simp [hj], (hf j hj).1⟩
  refine ⟨_, hxs, fun ad had j u hu => ?_⟩
  have h6 : ∀ x ∈ (List.range l.length).map f, x.size = 6 := fun x hx => by obtain ⟨v, hv⟩ := hxs.six x hx; exact hv.size6
  have hlen := flatA_len h6
  have hj : j < l.length * 6 := by
    have := (List.getElem?_eq_some_iff.1 hu).1
    simpa [hlen] using this
  have hq : j / 6 < l.length := by omega
  have e : j = j / 6 * 6 + j % 6 := by omega
  have hfs := flat_six h6 (j / 6) (f (j / 6)) (by simp [hq]) (j % 6) (by omega)
  rw [← e, hu] at hfs
  obtain ⟨hsp, c0, c1, c2, c3, c4, c5, ex, q0, q1, q2, q3, q4, q5⟩ := (hf _ hq).2 ad had
  obtain ⟨b, o, sp⟩ := ad
  simp only at hsp q0 q1 q2 q3 q4 q5; subst hsp
  rw [addr_add]
  rw [ex] at hfs
  have hm : j % 6 = 0 ∨ j % 6 = 1 ∨ j % 6 = 2 ∨ j % 6 = 3 ∨ j % 6 = 4 ∨ j % 6 = 5 := by omega
  rcases hm with hm | hm | hm | hm | hm | hm
  all_goals
    rw [hm] at hfs e
    simp at hfs
    subst hfs
    rw [e]
    assumption
def AInv (w W : World) (v : Value) (l : List V) : Prop := ∃ xs, OwnsP W (fun b => w.heap.size ≤ b) 48 6 v l.length (xs.flatMap Array.toList) ∧ VRs w l xs ∧ Below w.heap.size w W
theorem AInv.b {w W : World} {v : Value} {l : List V} (h : AInv w W v l) : Below w.heap.size w W := by obtain ⟨_, _, _, h⟩ := h; exact h
theorem AInv.slice {w W : World} {v : Value} {l : List V} (h : AInv w W v l) : ∃ p c, v = .slice p l.length c := by obtain ⟨_, h, _, _⟩ := h; exact slices_of h
theorem AInv.start {w W : World} (h : Below w.heap.size w W) : AInv w (W.alloc (.cells #[] 48)) (.slice (some ⟨W.heap.size, 0, none⟩) 0 0) [] :=
  ⟨[], ⟨ownsRow_of_heap (heap_alloc_new W _) (Nat.le_refl _) (by unfold maxLen; omega) rfl rfl rfl, fun g hg => by cases hg; exact h.size⟩, VRs.nil w, below_trans h (below_new _)⟩
theorem AInv.step {w W : World} {v : Value} {l m : List V} {p : Option Addr} {c : Nat} (h : AInv w W v l) (hm : LRd w p c m) (hn : l.length + m.length ≤ 1000000) (ty : TypeId) :
    ∃ v' W', (Builtin.append_ #[46, 46] ty #[v, .slice p m.length c]).run Tryz.prog W = .ok v' W' ∧ AInv w W' v' (l ++ m) := by
  obtain ⟨xs, h1, h2, h3⟩ := h
  obtain ⟨i, i1, i2, i3, i4⟩ := info_val
  obtain ⟨ys, hy, hcell⟩ := hm.cells
  have hy6 : ∀ x ∈ ys, x.size = 6 := fun x hx => by obtain ⟨v, hv⟩ := hy.six x hx; exact hv.size6
  cases p with
  | none =>
    have hc := hm.1.2.2 rfl
    have hl : m = [] := List.eq_nil_of_length_eq_zero (by have := hm.1.1; omega)
    subst hc hl
    refine ⟨v, W, append_law_nil (P := Tryz.prog) (w := W) 46 ty 48 i 6 Tryz.underlying46 i1 i3 v l.length _ h1.1, ?_⟩
    rw [List.append_nil]
    exact ⟨xs, h1, h2, h3⟩
  | some ad =>
    obtain ⟨v', W2, a1, a2, a3, a4, a5⟩ := append_law (P := Tryz.prog) (w := W) 46 ty 48 i _ 6 88 Tryz.underlying46 i1 i2 i3 i4 rfl v l.length _ h1.1 ad m.length c (ys.flatMap Array.toList)
      (by rw [flatA_len hy6, hy.1]) (fun j u hu => by
        have hq := hcell ad rfl j u hu
        have hne : m ≠ [] := by
          rintro rfl
          have e : ys = [] := List.eq_nil_of_length_eq_zero hy.1
          subst e
          simp at hu
        have hs := (hm.2 ad rfl).1 hne
        obtain ⟨b, o, sp⟩ := ad
        simp only at hs
        subst hs
        rw [addr_add] at hq ⊢
        exact belowCell h3 (ltOf hq) hq) (fun u hu => by
        obtain ⟨x, hx, hu⟩ := List.mem_flatMap.1 hu
        obtain ⟨v, hv⟩ := hy.six x hx
        exact hv.ones u hu) (by unfold maxLen; omega) (by omega)
    refine ⟨v', W2, a1, xs ++ ys, ⟨?_, fun g hg => ?_⟩, h2.append hy, ?_⟩
    · rw [List.flatMap_append, List.length_append]; exact a2
    · rcases a4 with e | e
      · exact h1.2 g (e.symm.trans hg)
      · rw [e] at hg; cases hg; exact h3.size
    · exact a3.below h3 (fun b hb e => by have := h1.2 b e; omega) h3.size
theorem AInv.rd {w W : World} {v : Value} {l : List V} (h : AInv w W v l) (hn : l.length ≤ 1000000) : ∃ p c, v = .slice p l.length c ∧ LRd W p c l := by
  obtain ⟨xs, h1, h2, h3⟩ := h
  have hc := fun g => h1.1.cells (g := g)
  have h6 : ∀ x ∈ xs, x.size = 6 := fun x hx => by obtain ⟨v, hv⟩ := h2.six x hx; exact hv.size6
  rcases h1.1.2 with ⟨rfl, h0⟩ | ⟨g, cap, cur, rfl, _, hg, hnc, hcm, _⟩
  · have : l = [] := List.eq_nil_of_length_eq_zero h0
    subst this
    exact ⟨none, 0, rfl, ⟨Nat.le_refl _, ⟨by simp, by omega⟩, fun _ => rfl⟩, fun ad h => by cases h⟩
  · refine ⟨some ⟨g, 0, none⟩, cap, rfl, ⟨hnc, ⟨by omega, by unfold maxLen at hcm; omega⟩, fun h => by cases h⟩, fun ad had => ?_⟩
    cases had
    refine ⟨fun _ => rfl, fun j v hv => ?_⟩
    obtain ⟨x, hx, hvx⟩ := h2.2 j v hv
    have hv2 := hvx.below h3
    obtain ⟨_, _, _, _, rfl, _⟩ := hvx.open
    have q := fun (i : Nat) (hi : i < 6) => flat_six h6 j _ hx i hi
    refine ⟨_, ⟨_, _, _, _, _, _, rfl, ?_, ?_, ?_, ?_, ?_, ?_⟩, hv2⟩
    · have := hc g rfl _ _ (q 0 (by omega)); rw [addr_add] at this; simpa using this
    · have := hc g rfl _ _ (q 1 (by omega)); rw [addr_add] at this; simpa [Nat.add_assoc] using this
    · have := hc g rfl _ _ (q 2 (by omega)); rw [addr_add] at this; simpa [Nat.add_assoc] using this
    · have := hc g rfl _ _ (q 3 (by omega)); rw [addr_add] at this; simpa [Nat.add_assoc] using this
    · have := hc g rfl _ _ (q 4 (by omega)); rw [addr_add] at this; simpa [Nat.add_assoc] using this
    · have := hc g rfl _ _ (q 5 (by omega)); rw [addr_add] at this; simpa [Nat.add_assoc] using this
end Go.Proofs.YthdfedfholmbmaaGreatDoor

namespace Go.Proofs.YthdfedfholmbmaaGreatDoor
open Go.RowKit
section
variable {P : Program} {ops : Array Oper} {rest : List Oper} {Q : Exit → Act → World → Prop} {a : Act} {w w' : World} {dst : Option Tmp} {ty : TypeId} {pos : String} {af : Array Edge} {t : TypeId} {x y : Operand} {v : Value}
theorem op_loadH {b : Addr} {g : Nat × Bool} (hr : (loadVar t b).run P w = .ok v w) (hx : a.eval x = .pointer (some b)) (hw : Region.wanted (⟨dst, .load t x, ty, pos, af, some g⟩ : Oper) (yielded ops a.tmps) = true) (h : wpList P ops Q rest (a.put dst v) w) : wpList P ops Q (⟨dst, .load t x, ty, pos, af, some g⟩ :: rest) a w := wpList_runG hw (exec_load rfl hx hr) h
end
end Go.Proofs.YthdfedfholmbmaaGreatDoor

namespace Go.Proofs.YthdfedfholmbmaaGreatDoor
open Go.RowKit
theorem badName_any {w : World} (hE : Env w) (s : List UInt8) (hs : s.length ≤ 140737488355328) : Calls Tryz.prog 143 #[.string (strB s)] w fun e w' => e = .returned (.bool (!okNm s)) ∧ Below w.heap.size w w' := by
  have HV := Lib.hid (wname_any hE s hs)
  clear hE
  generalize okNm s = r at *
  go_enter Tryz.func143, Tryz.ntmps143
  go_wp2_with (go_at_call 144; refine HV.out.mono ?_; rintro e W1 ⟨rfl, hb⟩; have HB := Lib.hid hb; clear hb)
  go_ret
  exact ⟨rfl, HB.out⟩
def badAt (l : List (List UInt8)) : Int := match l.findIdx? (fun s => !okNm s) with
  | some i => (i : Int)
  | none => -1
theorem badAt_ge (l : List (List UInt8)) : decide (0 ≤ badAt l) = !(l.all okNm) := by
  unfold badAt
  rw [Bool.eq_iff_iff]
  cases h : l.findIdx? (fun s => !okNm s) with
  | none =>
    rw [List.findIdx?_eq_none_iff] at h
    simp only [decide_eq_true_eq, Bool.not_eq_true', List.all_eq_false]
    constructor
    · intro h; omega
    · rintro ⟨x, hx, hn⟩
      have := h x hx
      simp_all
  | some i =>
    rw [List.findIdx?_eq_some_iff_getElem] at h
    obtain ⟨hi, h1, _⟩ := h
    simp only [decide_eq_true_eq, Bool.not_eq_true', List.all_eq_false]
    exact ⟨fun _ => ⟨l[i], List.getElem_mem hi, by simpa using h1⟩, fun _ => by omega⟩
theorem badAt_hit {l : List (List UInt8)} {j : Nat} (hj : j < l.length) (h1 : (l.take j).all okNm = true) (h2 : okNm l[j] = false) : badAt l = (j : Int) := by
  unfold badAt
  have : l.findIdx? (fun s => !okNm s) = some j := by
    rw [List.findIdx?_eq_some_iff_getElem]
    refine ⟨hj, by simp [h2], fun i hi => ?_⟩
    rw [List.all_eq_true] at h1
    have := h1 l[i] (by rw [List.mem_take_iff_getElem]; exact ⟨i, by omega, rfl⟩)
    simp [this]
  rw [this]
theorem badAt_none {l : List (List UInt8)} (h1 : l.all okNm = true) : badAt l = -1 := by
  unfold badAt
  have : l.findIdx? (fun s => !okNm s) = none := by
    rw [List.findIdx?_eq_none_iff]
    intro s hs
    rw [List.all_eq_true] at h1
    simp [h1 s hs]
  rw [this]
theorem badIdx_any {w : World} (hE : Env w) {p : Option Addr} {c : Nat} {l : List (List UInt8)} (h : RdS w p c l) : Calls Tryz.prog 167 #[.slice p l.length c, .func (.func 143) #[] #[]] w fun e w' => e = .returned (.int .i64 (badAt l)) ∧ Below w.heap.size w w' := by
  have z1 : (l.length : Int) ≤ 140737488355328 := by have := h.2.1.1; omega
  have H := Lib.hid h
  have HE := Lib.hid hE
  clear h hE
  go_enter Tryz.func167, Tryz.ntmps167
  go_wp2
  go_loopw [8] (fun i W => ∃ j : Nat, j ≤ l.length ∧ i = .int .i64 (j : Int) ∧ Hid ((l.take j).all okNm = true ∧ Below w.heap.size w W)) (fun i _ => l.length - (intOf i).toNat)
  case atStart => exact ⟨0, Nat.zero_le _, rfl, Lib.hid ⟨by simp, Below.refl _ _⟩⟩
  case round =>
    obtain ⟨j, hj, rfl, HI⟩ := hrel
    by_cases hlt : j < l.length
    · have hlt1 : j + 1 ≤ l.length := hlt
      obtain ⟨b, of, rfl, hc, hcl⟩ := (H.out.below HI.out.2).get hlt
      have hone := badName_any (HE.out.b HI.out.2) l[j] hcl
      have hst : ∀ r, okNm l[j] = r → (l.take (j + 1)).all okNm = r := fun r hr => by
        rw [List.take_succ_eq_append_getElem hlt, List.all_append, HI.out.1]; simp [hr]
      have hbd := badAt_hit hlt HI.out.1
      generalize l[j] = s at *
      have HC := Lib.hid hone
      have HB := Lib.hid HI.out.2
      cases hok : okNm s with
      | true =>
        have HN := Lib.hid (hst true hok)
        rw [hok] at HC
        clear hone hst hbd hok HI
        go_wp2_with (go_at_call 143; refine HC.out.mono ?_; rintro e W2 ⟨rfl, hb⟩; have HB2 := Lib.hid (below_trans HB.out hb); clear hb)
        go_roundw
        case rel => exact ⟨j + 1, hlt1, by go_num, Lib.hid ⟨HN.out, HB2.out⟩⟩
        case measure => simp [intOf]; omega
      | false =>
        have HN := Lib.hid (hbd hok)
        rw [hok] at HC
        clear hone hst hbd hok HI
        go_wp2_with (go_at_call 143; refine HC.out.mono ?_; rintro e W2 ⟨rfl, hb⟩; have HB2 := Lib.hid (below_trans HB.out hb); clear hb)
        go_ret
        exact ⟨by rw [HN.out]; rfl, HB2.out⟩
    · obtain rfl : j = l.length := by omega
      have hall := HI.out.1
      rw [List.take_length] at hall
      have HF := Lib.hid (And.intro (badAt_none hall) HI.out.2)
      clear HI hall
      go_wp2
      go_ret
      exact ⟨by rw [HF.out.1]; rfl, HF.out.2⟩
theorem hasBad_any {w : World} (hE : Env w) {p : Option Addr} {c : Nat} {l : List (List UInt8)} (h : RdS w p c l) : Calls Tryz.prog 142 #[.slice p l.length c, .func (.func 143) #[] #[]] w fun e w' => e = .returned (.bool (!(l.all okNm))) ∧ Below w.heap.size w w' := by
  have HV := Lib.hid (badIdx_any hE h)
  have HG := Lib.hid (badAt_ge l)
  generalize l.all okNm = r at *
  clear hE h
  go_enter Tryz.func142, Tryz.ntmps142
  go_wp2_with (go_at_call 167; refine HV.out.mono ?_; rintro e W1 ⟨rfl, hb⟩; have HB := Lib.hid hb; clear hb)
  go_ret
  refine ⟨?_, HB.out⟩
  rw [← HG.out]; rfl
def okP (p : PropD) : Bool := okNm p.key && okSt p.val
theorem okPs_eq (l : List PropD) : okPs l = (l.all okP && risesB (l.map PropD.key)) := rfl
theorem okPs_no {l : List PropD} {j : Nat} (hj : j < l.length) (h : okP l[j] = false) : okPs l = false := by
  rw [okPs_eq]
  have : l.all okP = false := by
    rw [List.all_eq_false]
    exact ⟨l[j], List.getElem_mem hj, by simp [h]⟩
  rw [this, Bool.false_and]
theorem all_snoc {α : Type} {f : α → Bool} {l : List α} {j : Nat} (hj : j < l.length) (h1 : (l.take j).all f = true) (h2 : f l[j] = true) : (l.take (j + 1)).all f = true := by
  rw [List.take_succ_eq_append_getElem hj, List.all_append, h1]; simp [h2]
theorem keys_rise {w : World} {p : Option Addr} {c : Nat} {l : List PropD} (h : GRd PRd 7 w p c l) (hl : l.length ≤ 1000000) (hk : ∀ s ∈ l.map PropD.key, s.length ≤ 140737488355328) :
    Calls Tryz.prog 166 #[.slice p l.length c] w fun e w' => ∃ pk ck, e = .returned (.slice pk l.length ck) ∧ Below w.heap.size w w' ∧
      Calls Tryz.prog 140 #[.slice pk l.length ck] w' fun e w'' => e = .returned (.bool (risesB (l.map PropD.key))) ∧ Below w'.heap.size w' w'' := by
  refine (keysG_any h hl).mono ?_
  rintro e w' ⟨v, rfl, ho, hb⟩
  have ho' : OwnsP w' (fun b => w.heap.size ≤ b) 9 1 v (l.map PropD.key).length ((l.map PropD.key).map strV) := by
    rw [List.length_map, List.map_map]; exact ho
  obtain ⟨pk, ck, rfl, hr⟩ := owned_rdS ho' (by rw [List.length_map]; omega) hk
  have hc := risesS_any hr
  rw [List.length_map] at hc
  exact ⟨pk, ck, by rw [List.length_map], hb, hc⟩
theorem gprops_any {w : World} (hE : Env w) {p : Option Addr} {c : Nat} {l : List PropD} (h : GRd PRd 7 w p c l) (ht : totPs l ≤ 1000000) : Calls Tryz.prog 141 #[.slice p l.length c] w fun e w' => e = .returned (.bool (okPs l)) ∧ Below w.heap.size w w' := by
  have hlen : l.length ≤ 1000000 := Nat.le_trans (len_sum totP fun p _ => by unfold totP; omega) ht
  have z1 : (l.length : Int) ≤ 1000000 := by omega
  have hkey : ∀ s ∈ l.map PropD.key, s.length ≤ 140737488355328 := fun s hs => by
    obtain ⟨x, hx, rfl⟩ := List.mem_map.1 hs
    have h1 : totP x ≤ totPs l := mem_sum totP hx
    unfold totP at h1; omega
  have H := Lib.hid h
  have HE := Lib.hid hE
  have HT := Lib.hid ht
  have HK := Lib.hid hkey
  have HLN := Lib.hid hlen
  clear h hE ht hkey hlen
  go_enter Tryz.func141, Tryz.ntmps141
  go_wp2
  go_loopw [7] (fun i W => ∃ j : Nat, j ≤ l.length ∧ i = .int .i64 (j : Int) ∧ Hid ((l.take j).all okP = true ∧ Below w.heap.size w W)) (fun i _ => l.length - (intOf i).toNat)
  case atStart => exact ⟨0, Nat.zero_le _, rfl, Lib.hid ⟨by simp, Below.refl _ _⟩⟩
  case round =>
    obtain ⟨j, hj, rfl, HI⟩ := hrel
    by_cases hlt : j < l.length
    · have hlt1 : j + 1 ≤ l.length := hlt
      obtain ⟨b, of, cs, rfl, hs, hc, hv⟩ := H.out.get hlt
      have hones := ef_prop.ones hv
      have hb := below_new (w := wr) (.cells cs 136)
      have hb2 : Below w.heap.size w (wr.alloc (.cells cs 136)) := below_trans HI.out.2 hb
      have HL1 := Lib.hid (StT.load st_prop hs (fun i u hu => belowCell HI.out.2 (ltOf (hc i u hu)) (hc i u hu)) (W := wr))
      have HS := Lib.hid (StT.fresh st_prop hs hones (W := wr))
      have hv1 : PRd (wr.alloc (.cells cs 136)) l[j] cs := hv.below hb2
      obtain ⟨y, ey, hkl, hvv⟩ := hv1
      have hys : y.size = 6 := ef_val.size hvv
      have htot : totV l[j].val ≤ 1000000 := by
        have h1 : totP l[j] ≤ totPs l := mem_sum totP (List.getElem_mem hlt)
        have := HT.out
        unfold totP at h1; omega
      have hno := okPs_no hlt
      have hsn := all_snoc (f := okP) hlt HI.out.1
      have hokp : okP l[j] = (okNm l[j].key && (okV l[j].val && storB l[j].val)) := rfl
      rw [hokp] at hno hsn
      clear hokp
      generalize l[j].key = key at *
      generalize l[j].val = val at *
      have hk0 : cs[0]? = some (.string (strB key)) := by rw [ey, Array.getElem?_append_left (by simp)]; rfl
      have hky : ∀ (i : Nat) (u : Value), y[i]? = some u → cs[1 + i]? = some u := fun i u hu => by
        rw [ey, Array.getElem?_append_right (by simp)]
        simpa using hu
      have HKL := Lib.hid (run_load1 (P := Tryz.prog) (w := wr.alloc (.cells cs 136)) Tryz.underlying9 rfl (cellOf (o := 0) (heap_alloc_new wr (.cells cs 136)) hk0))
      have hlv : ∀ W2, Below (wr.alloc (.cells cs 136)).heap.size (wr.alloc (.cells cs 136)) W2 → (loadVar 48 ⟨wr.heap.size, 1, none⟩).run Tryz.prog W2 = .ok (.agg y) W2 := fun W2 g =>
        StT.load st_val hys fun i u hu => belowCell g (by simp) (cellOf (o := 1 + i) (heap_alloc_new wr (.cells cs 136)) (hky i u hu))
      have hone := wname_any (HE.out.b hb2) key hkl
      have hstq : ∀ W2, Below (wr.alloc (.cells cs 136)).heap.size (wr.alloc (.cells cs 136)) W2 → Calls Tryz.prog 165 #[.agg y] W2 fun e w' => e = .returned (.bool (okV val && storB val)) ∧ Below W2.heap.size W2 w' := fun W2 g => storable_any (HE.out.b (below_trans hb2 g)) (hvv.below g) (by omega)
      have HC := Lib.hid hone
      have HST := Lib.hid hstq
      have HLV := Lib.hid hlv
      have HB := Lib.hid hb2
      clear hone hstq hlv hb hb2 hv hvv hk0 hky hones hc ey
      cases hok : okNm key with
      | false =>
        have HN := Lib.hid (hno (by rw [hok]; rfl))
        rw [hok] at HC
        clear hno hsn hok HI HK
        go_wp2_with (first
          | ((with_reducible apply op_load); exact HL1.out; exact rfl; clear HL1)
          | ((with_reducible apply op_store); exact HS.out _ rfl; exact rfl; exact rfl; clear HS)
          | ((with_reducible apply op_load); exact HKL.out; exact rfl; clear HKL)
          | (go_at_call 144; refine HC.out.mono ?_; rintro e W2 ⟨rfl, hb⟩; have HB2 := Lib.hid (below_trans HB.out hb); clear hb))
        go_ret
        exact ⟨by rw [HN.out]; rfl, HB2.out⟩
      | true =>
        rw [hok] at HC
        cases hst : (okV val && storB val) with
        | false =>
          have HN := Lib.hid (hno (by rw [hok, hst]; rfl))
          rw [hst] at HST
          clear hno hsn hok hst HI HK
          go_wp2_with (first
            | ((with_reducible apply op_load); exact HL1.out; exact rfl; clear HL1)
            | ((with_reducible apply op_store); exact HS.out _ rfl; exact rfl; exact rfl; clear HS)
            | ((with_reducible apply op_load); exact HKL.out; exact rfl; clear HKL)
            | ((with_reducible apply op_loadH); (exact HLV.out _ HB3.out; exact rfl; exact rfl; clear HLV))
            | (go_at_call 144; refine HC.out.mono ?_; rintro e W2 ⟨rfl, hb⟩; have HB2 := Lib.hid (below_trans HB.out hb); have HB3 := Lib.hid hb; clear hb)
            | (go_at_call 165; refine (HST.out _ HB3.out).mono ?_; rintro e W3 ⟨rfl, hb⟩; have HB4 := Lib.hid (below_trans HB2.out hb); clear hb))
          go_ret
          exact ⟨by rw [HN.out]; rfl, HB4.out⟩
        | true =>
          have HN := Lib.hid (hsn (by rw [hok, hst]; rfl))
          rw [hst] at HST
          clear hno hsn hok hst HI HK
          go_wp2_with (first
            | ((with_reducible apply op_load); exact HL1.out; exact rfl; clear HL1)
            | ((with_reducible apply op_store); exact HS.out _ rfl; exact rfl; exact rfl; clear HS)
            | ((with_reducible apply op_load); exact HKL.out; exact rfl; clear HKL)
            | ((with_reducible apply op_loadH); (exact HLV.out _ HB3.out; exact rfl; exact rfl; clear HLV))
            | (go_at_call 144; refine HC.out.mono ?_; rintro e W2 ⟨rfl, hb⟩; have HB2 := Lib.hid (below_trans HB.out hb); have HB3 := Lib.hid hb; clear hb)
            | (go_at_call 165; refine (HST.out _ HB3.out).mono ?_; rintro e W3 ⟨rfl, hb⟩; have HB4 := Lib.hid (below_trans HB2.out hb); clear hb))
          go_roundw
          case rel => exact ⟨j + 1, hlt1, by go_num, Lib.hid ⟨HN.out, HB4.out⟩⟩
          case measure => simp [intOf]; omega
    · obtain rfl : j = l.length := by omega
      have hall := HI.out.1
      rw [List.take_length] at hall
      have hkeys := keys_rise (H.out.below (fun h => h.below HI.out.2) HI.out.2) HLN.out HK.out
      have hfin : okPs l = risesB (l.map PropD.key) := by rw [okPs_eq, hall, Bool.true_and]
      have HF := Lib.hid hfin
      have HC := Lib.hid hkeys
      have HB := Lib.hid HI.out.2
      generalize risesB (l.map PropD.key) = r at *
      clear HI hall hkeys hfin
      go_wp2_with (first
        | (go_at_call 166; refine HC.out.mono ?_; rintro e W2 ⟨pk, ck, rfl, hb, hr⟩; have HB2 := Lib.hid (below_trans HB.out hb); have HR := Lib.hid hr; clear hb hr)
        | (go_at_call 140; refine HR.out.mono ?_; rintro e W3 ⟨rfl, hb⟩; have HB3 := Lib.hid (below_trans HB2.out hb); clear hb))
      go_ret
      exact ⟨by rw [HF.out]; rfl, HB3.out⟩
end Go.Proofs.YthdfedfholmbmaaGreatDoor

namespace Go.Proofs.YthdfedfholmbmaaGreatDoor
open Go.RowKit
theorem box_load {w w' : World} {B o : Nat} {cs : Array Value} {T t : TypeId} {d : TypeDesc} {v : Value} (hu : Tryz.prog.underlying t = some d) (hd : isAggD d = false) (h : w'.heap[B]? = some (.cells cs T (0, 0))) (hv : cs[o]? = some v) : (loadVar t ⟨B, o, none⟩).run Tryz.prog w' = .ok v w' :=
  run_load1 hu (by revert hd; cases d <;> simp [isAggD]) (cellOf (o := o) h hv)
theorem gnode_any {w : World} (hE : Env w) {n : NodeD} {x : Array Value} (h : NRd w n x) (ht : totN n ≤ 1000000) : Calls Tryz.prog 100 #[.agg x] w fun e w' => e = .returned (.bool (okN n)) ∧ Below w.heap.size w w' := by
  obtain ⟨pl, cl, pp, cp, rfl, hl, hp⟩ := h
  have hW : ∀ W, Below (w.alloc (.cells #[.int .i64 n.id, .slice pl n.labels.length cl, .slice pp n.props.length cp] 70)).heap.size (w.alloc (.cells #[.int .i64 n.id, .slice pl n.labels.length cl, .slice pp n.props.length cp] 70)) W → W.heap[w.heap.size]? = some (.cells #[.int .i64 n.id, .slice pl n.labels.length cl, .slice pp n.props.length cp] 70 (0, 0)) := fun W g => belowBlk g (by simp) (heap_alloc_new w _)
  have hok : okN n = ((decide (0 ≤ n.id) && risesB n.labels) && okPs n.props && n.labels.all okNm) := rfl
  have hb := below_new (w := w) (.cells #[.int .i64 n.id, .slice pl n.labels.length cl, .slice pp n.props.length cp] 70)
  have hrs := fun W (g : Below w.heap.size w W) => risesS_any (hl.below g)
  have hps := fun W (g : Below w.heap.size w W) => gprops_any (hE.b g) (hp.below (fun h => h.below g) g) (by unfold totN at ht; omega)
  have hbd := fun W (g : Below w.heap.size w W) => hasBad_any (hE.b g) (hl.below g)
  rw [hok]
  clear hok hE hl hp ht
  generalize okPs n.props = r2 at *
  generalize n.labels.all okNm = r3 at *
  generalize risesB n.labels = r1 at *
  have HR := Lib.hid hrs
  have HP := Lib.hid hps
  have HD := Lib.hid hbd
  have HB := Lib.hid hb
  have HW := Lib.hid hW
  clear hrs hps hbd hW hb
  cases hc0 : decide (0 ≤ n.id) <;> cases r1 <;> cases r2
  all_goals
    go_enter Tryz.func100, Tryz.ntmps100
    go_wp2_with (first
      | (go_at_call 140; refine (HR.out _ HB.out).mono ?_; rintro e W2 ⟨rfl, hb⟩; have HB1 := Lib.hid (And.intro hb (below_trans HB.out hb)); have HL2 := cellOf (o := 2) (HW.out _ hb) rfl; clear hb)
      | (go_at_call 141; refine (HP.out _ HB1.out.2).mono ?_; rintro e W3 ⟨rfl, hb⟩; have HB2 := Lib.hid (And.intro (below_trans HB1.out.1 hb) (below_trans HB1.out.2 hb)); have HL1 := cellOf (o := 1) (HW.out _ HB2.out.1) rfl; clear hb HL2)
      | (go_at_call 142; refine (HD.out _ HB2.out.2).mono ?_; rintro e W4 ⟨rfl, hb⟩; have HB3 := Lib.hid (below_trans HB2.out.2 hb); clear hb HL1))
    go_ret
    first
      | exact ⟨by simp, HB3.out⟩
      | exact ⟨by simp, HB2.out.2⟩
      | exact ⟨by simp, HB1.out.2⟩
      | exact ⟨by simp, HB.out⟩
theorem grel_any {w : World} (hE : Env w) {n : RelD} {x : Array Value} (h : RRd w n x) (ht : totR n ≤ 1000000) : Calls Tryz.prog 101 #[.agg x] w fun e w' => e = .returned (.bool (okR n)) ∧ Below w.heap.size w w' := by
  obtain ⟨pp, cp, rfl, hl, hp⟩ := h
  have hW : ∀ W, Below (w.alloc (.cells #[.int .i64 n.id, .int .i64 n.src, .int .i64 n.dst, .string (strB n.type), .slice pp n.props.length cp] 72)).heap.size (w.alloc (.cells #[.int .i64 n.id, .int .i64 n.src, .int .i64 n.dst, .string (strB n.type), .slice pp n.props.length cp] 72)) W → W.heap[w.heap.size]? = some (.cells #[.int .i64 n.id, .int .i64 n.src, .int .i64 n.dst, .string (strB n.type), .slice pp n.props.length cp] 72 (0, 0)) := fun W g => belowBlk g (by simp) (heap_alloc_new w _)
  have hok : okR n = ((decide (0 ≤ n.id) && okNm n.type) && okPs n.props) := rfl
  have hb := below_new (w := w) (.cells #[.int .i64 n.id, .int .i64 n.src, .int .i64 n.dst, .string (strB n.type), .slice pp n.props.length cp] 72)
  have hrs := fun W (g : Below w.heap.size w W) => wname_any (hE.b g) n.type hl
  have hps := fun W (g : Below w.heap.size w W) => gprops_any (hE.b g) (hp.below (fun h => h.below g) g) (by unfold totR at ht; omega)
  rw [hok]
  clear hok hE hl hp ht
  generalize okPs n.props = r2 at *
  generalize okNm n.type = r1 at *
  have HR := Lib.hid hrs
  have HP := Lib.hid hps
  have HB := Lib.hid hb
  have HW := Lib.hid hW
  clear hrs hps hW hb
  cases hc0 : decide (0 ≤ n.id) <;> cases r1
  all_goals
    go_enter Tryz.func101, Tryz.ntmps101
    go_wp2_with (first
      | (go_at_call 144; refine (HR.out _ HB.out).mono ?_; rintro e W2 ⟨rfl, hb⟩; have HB1 := Lib.hid (And.intro hb (below_trans HB.out hb)); have HL2 := cellOf (o := 4) (HW.out _ hb) rfl; clear hb)
      | (go_at_call 141; refine (HP.out _ HB1.out.2).mono ?_; rintro e W3 ⟨rfl, hb⟩; have HB2 := Lib.hid (And.intro (below_trans HB1.out.1 hb) (below_trans HB1.out.2 hb)); clear hb HL2))
    go_ret
    first
      | exact ⟨by simp, HB2.out.2⟩
      | exact ⟨by simp, HB1.out.2⟩
      | exact ⟨by simp, HB.out⟩
end Go.Proofs.YthdfedfholmbmaaGreatDoor

namespace Go.Proofs.YthdfedfholmbmaaGreatDoor
open Go.RowKit
def cmpZ (a b : Int) : Int := if a < b then -1 else if b < a then 1 else 0
theorem cmpZ_zero (a b : Int) : decide (cmpZ a b = 0) = decide (a = b) := by
  unfold cmpZ
  split
  · rw [Bool.eq_iff_iff]; simp; omega
  · split
    · rw [Bool.eq_iff_iff]; simp; omega
    · rw [Bool.eq_iff_iff]; simp; omega
theorem cmpZ_neg (a b : Int) : decide (cmpZ a b < 0) = decide (a < b) := by
  unfold cmpZ
  split
  · rw [Bool.eq_iff_iff]; simp; omega
  · split
    · rw [Bool.eq_iff_iff]; simp; omega
    · rw [Bool.eq_iff_iff]; simp; omega
theorem noNaN (n : Int) (w : World) : Calls Tryz.prog 169 #[.int .i64 n] w fun e w' => e = .returned (.bool false) ∧ w = w' := by
  go_enter Tryz.func169, Tryz.ntmps169
  go_wp2
  go_ret
  exact ⟨rfl, rfl⟩
theorem cmpZ_any (a b : Int) (w : World) : Calls Tryz.prog 147 #[.int .i64 a, .int .i64 b] w fun e w' => e = .returned (.int .i64 (cmpZ a b)) ∧ w = w' := by
  have HN := Lib.hid (fun n => noNaN n w)
  have HU := Lib.hid (show cmpZ a b = if a < b then -1 else if b < a then 1 else 0 from rfl)
  generalize cmpZ a b = r at *
  by_cases h1 : a < b
  · have hr : r = -1 := by rw [HU.out, if_pos h1]
    clear HU
    subst hr
    go_enter Tryz.func147, Tryz.ntmps147
    go_wp2_with (go_at_call 169; refine (HN.out _).mono ?_; rintro e w1 ⟨rfl, rfl⟩)
    go_ret
    exact ⟨rfl, rfl⟩
  · by_cases h2 : b < a
    · have hr : r = 1 := by rw [HU.out, if_neg h1, if_pos h2]
      clear HU
      subst hr
      go_enter Tryz.func147, Tryz.ntmps147
      go_wp2_with (go_at_call 169; refine (HN.out _).mono ?_; rintro e w1 ⟨rfl, rfl⟩)
      go_ret
      exact ⟨rfl, rfl⟩
    · have hr : r = 0 := by rw [HU.out, if_neg h1, if_neg h2]
      clear HU
      subst hr
      go_enter Tryz.func147, Tryz.ntmps147
      go_wp2_with (go_at_call 169; refine (HN.out _).mono ?_; rintro e w1 ⟨rfl, rfl⟩)
      go_ret
      exact ⟨rfl, rfl⟩
theorem hasCmp_any {w : World} {n : NodeD} {cs : Array Value} (h : NRd w n cs) (x : Int) : Calls Tryz.prog 146 #[.agg cs, .int .i64 x] w fun e w' => e = .returned (.int .i64 (cmpZ n.id x)) ∧ Below w.heap.size w w' := by
  obtain ⟨pl, cl, pp, cp, rfl, hl, hp⟩ := h
  have HC := Lib.hid (cmpZ_any n.id x (w.alloc (.cells #[.int .i64 n.id, .slice pl n.labels.length cl, .slice pp n.props.length cp] 70)))
  have HB := Lib.hid (below_new (w := w) (.cells #[.int .i64 n.id, .slice pl n.labels.length cl, .slice pp n.props.length cp] 70))
  clear hl hp
  go_enter Tryz.func146, Tryz.ntmps146
  go_wp2_with (go_at_call 147; refine HC.out.mono ?_; rintro e w1 ⟨rfl, rfl⟩)
  go_ret
  exact ⟨rfl, HB.out⟩
section
variable {P : Program} {ops : Array Oper} {rest : List Oper} {Q : Exit → Act → World → Prop} {a : Act} {w w' : World} {dst : Option Tmp} {ty : TypeId} {pos : String} {af : Array Edge} {t t' : TypeId} {x y : Operand} {v : Value}
theorem op_binu {op : BinOp} {k k' : IntKind} {n m : Int} (hr : (binOp op t (.int k n) (.int k' m)).run P w = .ok v w) (hx : a.eval x = .int k n) (hy : a.eval y = .int k' m) (h : wpList P ops Q rest (a.put dst v) w) : wpList P ops Q (⟨dst, .binOp op t x y t', ty, pos, af, none⟩ :: rest) a w := wpList_run rfl (exec_binu rfl hx hy hr) h
end
theorem add_int {i j : Nat} (h : i + j ≤ 281474976710656) (W : World) : (binOp .add 3 (.int .i64 (i : Int)) (.int .i64 (j : Int))).run Tryz.prog W = .ok (.int .i64 ((i + j : Nat) : Int)) W := by
  have e : IntKind.i64.wrap ((i : Int) + (j : Int)) = ((i + j : Nat) : Int) := by rw [IntKind.wrap_i64]; omega
  simp [go_sem, e]
theorem conv_iu {i : Nat} (h : i ≤ 281474976710656) (W : World) : (convert 3 182 (.int .i64 (i : Int))).run Tryz.prog W = .ok (.int .u64 (i : Int)) W := by
  have e : IntKind.u64.wrap (i : Int) = (i : Int) := by rw [IntKind.wrap_u64]; omega
  simp [convert, go_sem, e]
theorem conv_ui {i : Nat} (h : i ≤ 281474976710656) (W : World) : (convert 182 3 (.int .u64 (i : Int))).run Tryz.prog W = .ok (.int .i64 (i : Int)) W := by
  have e : IntKind.i64.wrap (i : Int) = (i : Int) := by rw [IntKind.wrap_i64]; omega
  simp [convert, go_sem, e]
theorem half_uint {i : Nat} (W : World) : (binOp .shr 182 (.int .u64 (i : Int)) (.int .u64 1)).run Tryz.prog W = .ok (.int .u64 ((i / 2 : Nat) : Int)) W := by
  simp [go_sem]
theorem bsearch_any {w : World} {p : Option Addr} {c : Nat} {l : List NodeD} (h : GRd NRd 3 w p c l) (hr : risesI (l.map NodeD.id) = true) (x : Int) :
    Calls Tryz.prog 145 #[.slice p l.length c, .int .i64 x, .func (.func 146) #[] #[]] w fun e w' => ∃ k, e = .returned (.tuple #[.int .i64 k, .bool ((l.map NodeD.id).any (· == x))]) ∧ Below w.heap.size w w' := by
  have z1 : (l.length : Int) ≤ 140737488355328 := by have := h.1.2.1; omega
  have H := Lib.hid h
  have HR := Lib.hid hr
  clear h hr
  go_enter Tryz.func145, Tryz.ntmps145
  go_wp2
  go_loopw [9, 10] (fun a b W => ∃ i j : Nat, i ≤ j ∧ j ≤ l.length ∧ a = .int .i64 (i : Int) ∧ b = .int .i64 (j : Int) ∧ Hid ((∀ t (ht : t < (l.map NodeD.id).length), t < i → (l.map NodeD.id)[t] < x) ∧ (∀ t (ht : t < (l.map NodeD.id).length), j ≤ t → x ≤ (l.map NodeD.id)[t]) ∧ Below w.heap.size w W)) (fun a b _ => (intOf b).toNat - (intOf a).toNat)
  case atStart => exact ⟨0, l.length, Nat.zero_le _, Nat.le_refl _, rfl, rfl, Lib.hid ⟨fun t _ h => by omega, fun t ht h => by rw [List.length_map] at ht; omega, Below.refl _ _⟩⟩
  case round =>
    obtain ⟨i, j, hij, hj, rfl, rfl, HI⟩ := hrel
    by_cases hlt : i < j
    · obtain ⟨h, hh⟩ : ∃ h, h = (i + j) / 2 := ⟨_, rfl⟩
      have h1 : i ≤ h := by omega
      have h2 : h < j := by omega
      have hl : h < l.length := by omega
      have glt : (i : Int) < (j : Int) := by omega
      obtain ⟨bk, ok, cs, rfl, hs, hc, hv⟩ := (H.out.below (fun h => h.below HI.out.2.2) HI.out.2.2).get hl
      have HL := Lib.hid (StT.load st_node hs hc)
      have HC := Lib.hid (hasCmp_any hv x)
      have HA := Lib.hid (add_int (i := i) (j := j) (by omega) wr)
      have HU := Lib.hid (conv_iu (i := i + j) (by omega) wr)
      have HS := Lib.hid (half_uint (i := i + j) wr)
      have HV := Lib.hid (conv_ui (i := (i + j) / 2) (by omega) wr)
      rw [← hh] at HS HV
      have hia : ∀ W' : World, (Instr.indexAt 22 (.slice (some ⟨bk, ok, none⟩) l.length c) (.int .i64 (h : Int))).run Tryz.prog W' = .ok (.pointer (some ⟨bk, ok + h * 3, none⟩)) W' := by intro W'; simp [go_sem, hl]
      have hlo : (l.map NodeD.id)[h]'(by simpa using hl) < x → ∀ t (ht : t < (l.map NodeD.id).length), t < h + 1 → (l.map NodeD.id)[t] < x := fun hx t ht hth => by
        by_cases e : t = h
        · subst e; exact hx
        · have := risesI_lt HR.out (a := t) (b := h) (by simpa using hl) (by omega)
          omega
      have hhi : ¬ (l.map NodeD.id)[h]'(by simpa using hl) < x → ∀ t (ht : t < (l.map NodeD.id).length), h ≤ t → x ≤ (l.map NodeD.id)[t] := fun hx t ht hth => by
        by_cases e : t = h
        · subst e; omega
        · have := risesI_lt HR.out (a := h) (b := t) ht (by omega)
          omega
      rw [List.getElem_map] at hlo hhi
      generalize l[h].id = id at *
      have hcn := cmpZ_neg id x
      have HX := Lib.hid (And.intro hlo hhi)
      have HJ := Lib.hid HI.out
      clear hlo hhi hs hc hv HI
      generalize cmpZ id x = r at *
      cases hcx : decide (id < x) with
      | true =>
        rw [hcx] at hcn
        have hlt0 : id < x := by simpa using hcx
        have HX1 := Lib.hid (HX.out.1 hlt0)
        clear HX hcx hlt0 hh
        go_wp2_with (first
          | ((with_reducible apply op_binu); exact HA.out; exact rfl; exact rfl)
          | ((with_reducible apply op_conv); exact HU.out; exact rfl)
          | ((with_reducible apply op_binu); exact HS.out; exact rfl; exact rfl)
          | ((with_reducible apply op_conv); exact HV.out; exact rfl)
          | ((with_reducible apply op_load); exact HL.out; exact rfl)
          | (go_at_call 146; refine HC.out.mono ?_; rintro e W2 ⟨rfl, hb⟩; have HB2 := Lib.hid (below_trans HJ.out.2.2 hb); clear hb))
        go_roundw
        case rel => exact ⟨h + 1, j, h2, hj, by go_num, rfl, Lib.hid ⟨HX1.out, HJ.out.2.1, HB2.out⟩⟩
        case measure => simp [intOf]; omega
      | false =>
        rw [hcx] at hcn
        have hlt0 : ¬ id < x := by simpa using hcx
        have HX1 := Lib.hid (HX.out.2 hlt0)
        clear HX hcx hlt0 hh
        go_wp2_with (first
          | ((with_reducible apply op_binu); exact HA.out; exact rfl; exact rfl)
          | ((with_reducible apply op_conv); exact HU.out; exact rfl)
          | ((with_reducible apply op_binu); exact HS.out; exact rfl; exact rfl)
          | ((with_reducible apply op_conv); exact HV.out; exact rfl)
          | ((with_reducible apply op_load); exact HL.out; exact rfl)
          | (go_at_call 146; refine HC.out.mono ?_; rintro e W2 ⟨rfl, hb⟩; have HB2 := Lib.hid (below_trans HJ.out.2.2 hb); clear hb))
        go_roundw
        case rel => exact ⟨i, h, h1, by omega, rfl, rfl, Lib.hid ⟨HJ.out.1, HX1.out, HB2.out⟩⟩
        case measure => simp [intOf]; omega
    · obtain rfl : i = j := by omega
      by_cases hl : i < l.length
      · obtain ⟨bk, ok, cs, rfl, hs, hc, hv⟩ := H.out.get hl
        have hia : ∀ W' : World, (Instr.indexAt 22 (.slice (some ⟨bk, ok, none⟩) l.length c) (.int .i64 (i : Int))).run Tryz.prog W' = .ok (.pointer (some ⟨bk, ok + i * 3, none⟩)) W' := by intro W'; simp [go_sem, hl]
        have hld : (loadVar 70 ⟨bk, ok + i * 3, none⟩).run Tryz.prog wr = .ok (.agg cs) wr := StT.load st_node hs fun k u hu => belowCell HI.out.2.2 (ltOf (hc k u hu)) (hc k u hu)
        have HC := Lib.hid (hasCmp_any (hv.below HI.out.2.2) x)
        have hfo := found_of HI.out.1 HI.out.2.1 HR.out (by simpa using hl)
        rw [List.getElem_map] at hfo
        generalize l[i].id = id at *
        have hcz := cmpZ_zero id x
        have HL := Lib.hid hld
        have HB := Lib.hid HI.out.2.2
        have gl : (i : Int) < (l.length : Int) := by omega
        rw [hfo] at hcz
        clear hld hfo hs hc hv HI HR H
        generalize cmpZ id x = z at *
        go_wp2_with (first
          | ((with_reducible apply op_load); exact HL.out; exact rfl)
          | ((with_reducible apply op_loadH); exact HL.out; exact rfl; exact rfl)
          | (go_at_call 146; refine HC.out.mono ?_; rintro e W2 ⟨rfl, hb⟩; have HB2 := Lib.hid (below_trans HB.out hb); clear hb))
        go_ret2
        have e : (z == 0) = (l.map NodeD.id).any (· == x) := by rw [← hcz]; rfl
        refine ⟨(i : Int), ?_, HB2.out⟩
        show Ending.returned (.tuple #[.int .i64 (i : Int), .bool (z == 0)]) = _
        rw [e]
      · obtain rfl : i = l.length := by omega
        have hfo := found_none (l := l.map NodeD.id) (x := x) fun t ht => HI.out.1 t ht (by simpa using ht)
        have HF := Lib.hid (And.intro hfo HI.out.2.2)
        clear hfo HI HR H
        go_wp2
        go_ret2
        exact ⟨_, by rw [HF.out.1]; rfl, HF.out.2⟩
theorem has_any {w : World} {g : GraphD} {x : Array Value} (h : GrRd w g x) (hr : risesI (g.nodes.map NodeD.id) = true) (i : Int) : Calls Tryz.prog 102 #[.agg x, .int .i64 i] w fun e w' => e = .returned (.bool (hasN g i)) ∧ Below w.heap.size w w' := by
  obtain ⟨pn, cn, pr, cr, rfl, hn, hrl⟩ := h
  have hb := below_new (w := w) (.cells #[.slice pn g.nodes.length cn, .slice pr g.rels.length cr, .int .i64 g.nextNode, .int .i64 g.nextRel] 25)
  have HC := Lib.hid (bsearch_any (hn.below (fun h => h.below hb) hb) hr i)
  have HB := Lib.hid hb
  rw [hasN_ids]
  clear hn hrl hb hr
  generalize (g.nodes.map NodeD.id).any (· == i) = r at *
  go_enter Tryz.func102, Tryz.ntmps102
  go_wp2_with (go_at_call 145; refine HC.out.mono ?_; rintro e w1 ⟨k, rfl, hb⟩; have HB2 := Lib.hid (below_trans HB.out hb); clear hb)
  go_ret
  exact ⟨rfl, HB2.out⟩
end Go.Proofs.YthdfedfholmbmaaGreatDoor

namespace Go.Proofs.YthdfedfholmbmaaGreatDoor
open Go.RowKit
theorem node_id {w : World} {n : NodeD} {cs : Array Value} (h : NRd w n cs) : cs[0]? = some (.int .i64 n.id) := by
  obtain ⟨pl, cl, pp, cp, rfl, _⟩ := h; rfl
def okAt (g : GraphD) (n : NodeD) : Bool := okN n && decide (n.id < g.nextNode)
theorem ld_cell {w w' : World} {B o : Nat} {cs : Array Value} {T t : TypeId} {d : TypeDesc} {v : Value} (hu : Tryz.prog.underlying t = some d) (hd : isAggD d = false) (g : Below w.heap.size w w') (h : w.heap[B]? = some (.cells cs T (0, 0))) (hv : cs[o]? = some v) : (loadVar t ⟨B, o, none⟩).run Tryz.prog w' = .ok v w' :=
  box_load (w := w) hu hd (belowBlk g (Array.getElem?_eq_some_iff.1 h).1 h) hv
theorem dec_lt (a b : Int) : decide (a < b) = !decide (b ≤ a) := by rw [Bool.eq_iff_iff]; simp
theorem okNs_eq (g : GraphD) : okNs g = (g.nodes.all (okAt g) && risesI (g.nodes.map NodeD.id)) := rfl
theorem okNs_no {g : GraphD} {j : Nat} (hj : j < g.nodes.length) (h : okAt g g.nodes[j] = false) : okNs g = false := by
  rw [okNs_eq]
  have : g.nodes.all (okAt g) = false := by
    rw [List.all_eq_false]
    exact ⟨g.nodes[j], List.getElem_mem hj, by simp [h]⟩
  rw [this, Bool.false_and]
theorem okNs_fall {g : GraphD} {k j : Nat} (hk : k + 1 = j) (hj : j < g.nodes.length) (h : g.nodes[j].id ≤ g.nodes[k].id) : okNs g = false := by
  rw [okNs_eq]
  cases hr : risesI (g.nodes.map NodeD.id) with
  | false => rw [Bool.and_false]
  | true =>
    have := risesI_lt hr (a := k) (b := j) (by simpa using hj) (by omega)
    rw [List.getElem_map, List.getElem_map] at this
    omega
def NsInv (g : GraphD) (j : Nat) : Prop := (g.nodes.take j).all (okAt g) = true ∧ risesI ((g.nodes.map NodeD.id).take j) = true
theorem NsInv.zero (g : GraphD) : NsInv g 0 := ⟨by simp, by simp [risesI]⟩
theorem NsInv.one {g : GraphD} {j : Nat} (h0 : j = 0) (hj : j < g.nodes.length) (h : okAt g g.nodes[j] = true) : NsInv g (j + 1) := by
  subst h0
  exact ⟨all_snoc hj (by simp) h, risesI_one _⟩
theorem NsInv.snoc {g : GraphD} {k j : Nat} (hk : k + 1 = j) (hj : j < g.nodes.length) (hi : NsInv g j) (h : okAt g g.nodes[j] = true) (hlt : ¬ g.nodes[j].id ≤ g.nodes[k].id) : NsInv g (j + 1) := by
  subst hk
  refine ⟨all_snoc hj hi.1 h, ?_⟩
  rw [risesI_step (by simpa using hj), hi.2, Bool.true_and]
  simp only [List.getElem_map, decide_eq_true_eq]; omega
theorem NsInv.last {g : GraphD} (h : NsInv g g.nodes.length) : okNs g = true := by
  rw [okNs_eq]
  have h1 := h.1
  have h2 := h.2
  rw [List.take_length] at h1
  rw [List.take_of_length_le (by simp)] at h2
  rw [h1, h2]; rfl
theorem gnodes_any {w : World} (hE : Env w) {g : GraphD} {x : Array Value} (h : GrRd w g x) (ht : totG g ≤ 1000000) : Calls Tryz.prog 44 #[.agg x] w fun e w' => e = .returned (.bool (okNs g)) ∧ Below w.heap.size w w' := by
  have hgr := h
  obtain ⟨pn, cn, pr, cr, rfl, hn, hrl⟩ := h
  have z1 : (g.nodes.length : Int) ≤ 140737488355328 := by have := hn.1.2.1; omega
  have htn : ∀ n ∈ g.nodes, totN n ≤ 1000000 := fun n hm => by
    have h1 := mem_sum totN hm
    unfold totG at ht; omega
  have hb := below_new (w := w) (.cells #[.slice pn g.nodes.length cn, .slice pr g.rels.length cr, .int .i64 g.nextNode, .int .i64 g.nextRel] 25)
  have hg := heap_alloc_new w (.cells #[.slice pn g.nodes.length cn, .slice pr g.rels.length cr, .int .i64 g.nextNode, .int .i64 g.nextRel] 25)
  have hn1 := hn.below (fun h => h.below hb) hb
  have hE1 := hE.b hb
  have hgr1 := hgr.below hb
  have hlt0 := Array.getElem?_eq_some_iff.1 hg |>.1
  have H := Lib.hid (And.intro hn1 (And.intro hE1 (And.intro hg (And.intro hgr1 hlt0))))
  have HB0 := Lib.hid hb
  have HT := Lib.hid htn
  clear hn hrl hb hg hn1 hE1 hE ht htn hgr hgr1 hlt0
  go_enter Tryz.func44, Tryz.ntmps44
  go_wp2
  generalize w.alloc (.cells #[.slice pn g.nodes.length cn, .slice pr g.rels.length cr, .int .i64 g.nextNode, .int .i64 g.nextRel] 25) = w1 at *
  go_loopw [8] (fun i W => ∃ j : Nat, j ≤ g.nodes.length ∧ i = .int .i64 (j : Int) ∧ Hid (NsInv g j ∧ Below w1.heap.size w1 W)) (fun i _ => g.nodes.length - (intOf i).toNat)
  case atStart => exact ⟨0, Nat.zero_le _, rfl, Lib.hid ⟨NsInv.zero g, Below.refl _ _⟩⟩
  case round =>
    obtain ⟨j, hj, rfl, HI⟩ := hrel
    by_cases hlt : j < g.nodes.length
    · have hlt1 : j + 1 ≤ g.nodes.length := hlt
      obtain ⟨hn1, hE1, hg, hgr1, hlt0⟩ := H.out
      have hnr := hn1.below (fun h => h.below HI.out.2) HI.out.2
      obtain ⟨b, of, cs, rfl, hs, hc, hv⟩ := hnr.get hlt
      have hones := ef_node.ones hv
      have hnof : okAt g g.nodes[j] = false → okNs g = false := okNs_no hlt
      have hfaf : ∀ k, k + 1 = j → ∀ hk : k < g.nodes.length, g.nodes[j].id ≤ g.nodes[k].id → okNs g = false := fun k hk _ h => okNs_fall hk hlt h
      have honf : j = 0 → okAt g g.nodes[j] = true → NsInv g (j + 1) := fun h0 h => NsInv.one h0 hlt h
      have hsnf : ∀ k, k + 1 = j → ∀ hk : k < g.nodes.length, okAt g g.nodes[j] = true → ¬ g.nodes[j].id ≤ g.nodes[k].id → NsInv g (j + 1) := fun k hk _ h h' => NsInv.snoc hk hlt HI.out.1 h h'
      have hoaf : okAt g g.nodes[j] = (okN g.nodes[j] && !decide (g.nextNode ≤ g.nodes[j].id)) := by rw [← dec_lt]; rfl
      have htot : totN g.nodes[j] ≤ 1000000 := HT.out _ (List.getElem_mem hlt)
      generalize g.nodes[j] = nj at *
      have hbn := below_new (w := wr) (.cells cs 70)
      have hb2 := below_trans HI.out.2 hbn
      have hB := heap_alloc_new wr (.cells cs 70)
      have HL1 := Lib.hid (st_node.load hs hc)
      have HS := Lib.hid (st_node.fresh hs hones (W := wr))
      have hl4 : ∀ W, Below (wr.alloc (.cells cs 70)).heap.size (wr.alloc (.cells cs 70)) W → (loadVar 70 ⟨wr.heap.size, 0, none⟩).run Tryz.prog W = .ok (.agg cs) W := fun W q => st_node.get hs (belowBlk q (Array.getElem?_eq_some_iff.1 hB).1 hB)
      have hidl : ∀ W, Below (wr.alloc (.cells cs 70)).heap.size (wr.alloc (.cells cs 70)) W → (loadVar 2 ⟨wr.heap.size, 0, none⟩).run Tryz.prog W = .ok (.int .i64 nj.id) W := fun W q => ld_cell Tryz.underlying2 rfl q hB (node_id hv)
      have hnx : ∀ W, Below (wr.alloc (.cells cs 70)).heap.size (wr.alloc (.cells cs 70)) W → (loadVar 2 ⟨w.heap.size, 2, none⟩).run Tryz.prog W = .ok (.int .i64 g.nextNode) W := fun W q => ld_cell Tryz.underlying2 rfl (below_trans hb2 q) hg rfl
      have hls : ∀ W, Below (wr.alloc (.cells cs 70)).heap.size (wr.alloc (.cells cs 70)) W → (loadVar 22 ⟨w.heap.size, 0, none⟩).run Tryz.prog W = .ok (.slice (some ⟨b, of, none⟩) g.nodes.length cn) W := fun W q => ld_cell Tryz.underlying22 rfl (below_trans hb2 q) hg rfl
      have hia : ∀ W' : World, (Instr.indexAt 22 (.slice (some ⟨b, of, none⟩) g.nodes.length cn) (.int .i64 (j : Int))).run Tryz.prog W' = .ok (.pointer (some ⟨b, of + j * 3, none⟩)) W' := by intro W'; simp [go_sem, hlt]
      have hf0 : ∀ W' : World, (Instr.fieldAt 70 (.pointer (some ⟨wr.heap.size, 0, none⟩)) 0).run Tryz.prog W' = .ok (.pointer (some ⟨wr.heap.size, 0, none⟩)) W' := by intro W'; simp [go_sem]
      have hfn : ∀ W' : World, (Instr.fieldAt 25 (.pointer (some ⟨w.heap.size, 0, none⟩)) 2).run Tryz.prog W' = .ok (.pointer (some ⟨w.heap.size, 2, none⟩)) W' := by intro W'; simp [go_sem]
      have hfl : ∀ W' : World, (Instr.fieldAt 25 (.pointer (some ⟨w.heap.size, 0, none⟩)) 0).run Tryz.prog W' = .ok (.pointer (some ⟨w.heap.size, 0, none⟩)) W' := by intro W'; simp [go_sem]
      have hge : ∀ bb, decide (g.nextNode ≤ nj.id) = bb → ∀ W' : World, (binOp .geq 2 (.int .i64 nj.id) (.int .i64 g.nextNode)).run Tryz.prog W' = .ok (.bool bb) W' := by intro bb hbb W'; subst hbb; simp [go_sem]
      have hgt : ∀ bb, decide (0 < j) = bb → ∀ W' : World, (binOp .gtr 3 (.int .i64 (j : Int)) (.int .i64 0)).run Tryz.prog W' = .ok (.bool bb) W' := by intro bb hbb W'; subst hbb; simp [go_sem]
      have hokc : ∀ bb, okN nj = bb → ∀ W', Below (wr.alloc (.cells cs 70)).heap.size (wr.alloc (.cells cs 70)) W' → Calls Tryz.prog 100 #[.agg cs] W' fun e w' => e = .returned (.bool bb) ∧ Below W'.heap.size W' w' := fun bb hbb W' q => hbb ▸ gnode_any (hE1.b (below_trans hb2 q)) (hv.below (below_trans hbn q)) htot
      have hkp : ∀ k, k + 1 = j → ∀ hk : k < g.nodes.length, (∀ W' : World, (binOp .sub 3 (.int .i64 (j : Int)) (.int .i64 1)).run Tryz.prog W' = .ok (.int .i64 (k : Int)) W') ∧ (∀ W' : World, (Instr.indexAt 22 (.slice (some ⟨b, of, none⟩) g.nodes.length cn) (.int .i64 (k : Int))).run Tryz.prog W' = .ok (.pointer (some ⟨b, of + k * 3, none⟩)) W') ∧
          (∀ W' : World, (Instr.fieldAt 70 (.pointer (some ⟨b, of + k * 3, none⟩)) 0).run Tryz.prog W' = .ok (.pointer (some ⟨b, of + k * 3, none⟩)) W') ∧ (∀ W, Below (wr.alloc (.cells cs 70)).heap.size (wr.alloc (.cells cs 70)) W → (loadVar 2 ⟨b, of + k * 3, none⟩).run Tryz.prog W = .ok (.int .i64 g.nodes[k].id) W) ∧
          (∀ bb, decide (nj.id ≤ g.nodes[k].id) = bb → ∀ W' : World, (binOp .geq 2 (.int .i64 g.nodes[k].id) (.int .i64 nj.id)).run Tryz.prog W' = .ok (.bool bb) W') := by
        intro k hk hkl
        obtain ⟨b', of', cs', e', hs', hc', hv'⟩ := hnr.get hkl
        cases e'
        refine ⟨fun W' => ?_, fun W' => by simp [go_sem, hkl], fun W' => by simp [go_sem], fun W q => ?_, fun bb hbb W' => by subst hbb; simp [go_sem]⟩
        · rw [← hk]
          exact_mod_cast sub_one (j := k) (by omega) W'
        · have hc0 := hc' 0 _ (node_id hv')
          exact run_load1 Tryz.underlying2 rfl (belowCell (below_trans hbn q) (ltOf hc0) hc0)
      have HX := Lib.hid (And.intro hl4 (And.intro hidl (And.intro hnx (And.intro hls (And.intro hf0 (And.intro hfn hfl))))))
      have HKP := Lib.hid hkp
      have HBN := Lib.hid (below_trans HB0.out hb2)
      have HSB := Lib.hid ((Below.refl (wr.alloc (.cells cs 70)).heap.size (wr.alloc (.cells cs 70))).drew)
      have HGE0 := Lib.hid hge
      have HGT0 := Lib.hid hgt
      have HOK0 := Lib.hid hokc
      have HLW := Lib.hid (And.intro hnof (And.intro hfaf (And.intro honf (And.intro hsnf hoaf))))
      clear hl4 hidl hnx hls hf0 hfn hfl hge hgt hokc hkp htot hnof hfaf honf hsnf hoaf hb2 hB hones hs hc hv hbn hnr hn1 hE1 hg hgr1 hlt0
      cases hok : okN nj with
      | false =>
        obtain ⟨hnof, hfaf, honf, hsnf, hoaf⟩ := HLW.out
        have HFIN := Lib.hid (hnof (by rw [hoaf, hok]; rfl))
        have HOKC := Lib.hid (HOK0.out _ hok)
        clear hok hnof hfaf honf hsnf hoaf
        go_wp2_with (first
          | ((with_reducible apply op_load); exact HL1.out; exact rfl)
          | ((with_reducible apply op_store); exact HS.out _ rfl; exact rfl; exact rfl))
        obtain ⟨hl4, hidl, hnx, hls, hf0, hfn, hfl⟩ := HX.out
        have hS0 := HSB.out
        refine plain_region_draws (fun W => Below (wr.alloc (.cells cs 70)).heap.size (wr.alloc (.cells cs 70)) W) (by kernel_rfl) hS0 (fun hS => ?_)
        refine tk 0 13 (v := .agg cs) rfl rfl (fun W hW => exec_load rfl rfl (hl4 W hW)) ?_
        simp only [Act.put, sA, sZ, sS]
        refine onlyCall 1 14 rfl rfl (by kernel_rfl) rfl (exec_call [.agg cs] rfl rfl Tryz.func100 (by kernel_rfl) (by kernel_rfl)) ?_
        refine (HOKC.out _ hS).mono ?_
        rintro e w1 ⟨rfl, hb1⟩
        have hS1 := below_trans hS hb1
        refine ⟨_, rfl, .inr hS1, ?_⟩
        simp only [Act.put, sA, sZ, sS]
        refine tk 2 15 (v := .bool true) rfl rfl (fun W hW => exec_unot (b := false) rfl rfl) ?_
        simp only [Act.put, sA, sZ, sS]
        refine tk 3 16 (v := .bool true) rfl rfl (fun W hW => exec_move rfl rfl) ?_
        simp only [Act.put, sA, sZ, sS]
        refine takeNot 4 17 rfl rfl (by kernel_rfl) (by kernel_rfl) (by kernel_rfl) rfl (by assumption) ?_
        simp only [Act.put, sA, sZ, sS]
        refine takeNot 5 18 rfl rfl (by kernel_rfl) (by kernel_rfl) (by kernel_rfl) rfl (by assumption) ?_
        simp only [Act.put, sA, sZ, sS]
        refine takeNot 6 19 rfl rfl (by kernel_rfl) (by kernel_rfl) (by kernel_rfl) rfl (by assumption) ?_
        simp only [Act.put, sA, sZ, sS]
        refine takeNot 7 20 rfl rfl (by kernel_rfl) (by kernel_rfl) (by kernel_rfl) rfl (by assumption) ?_
        simp only [Act.put, sA, sZ, sS]
        refine takeNot 8 21 rfl rfl (by kernel_rfl) (by kernel_rfl) (by kernel_rfl) rfl (by assumption) ?_
        simp only [Act.put, sA, sZ, sS]
        refine tk 9 22 (v := .bool true) rfl rfl (fun W hW => rfl) ?_
        simp only [Act.put, sA, sZ, sS]
        refine tk 10 23 (v := .bool true) rfl rfl (fun W hW => exec_move rfl rfl) ?_
        simp only [Act.put, sA, sZ, sS]
        refine takeNot 11 24 rfl rfl (by kernel_rfl) (by kernel_rfl) (by kernel_rfl) rfl (by assumption) ?_
        simp only [Act.put, sA, sZ, sS]
        refine takeNot 12 25 rfl rfl (by kernel_rfl) (by kernel_rfl) (by kernel_rfl) rfl (by assumption) ?_
        simp only [Act.put, sA, sZ, sS]
        refine takeNot 13 26 rfl rfl (by kernel_rfl) (by kernel_rfl) (by kernel_rfl) rfl (by assumption) ?_
        simp only [Act.put, sA, sZ, sS]
        refine takeNot 14 27 rfl rfl (by kernel_rfl) (by kernel_rfl) (by kernel_rfl) rfl (by assumption) ?_
        simp only [Act.put, sA, sZ, sS]
        refine takeNot 15 28 rfl rfl (by kernel_rfl) (by kernel_rfl) (by kernel_rfl) rfl (by assumption) ?_
        simp only [Act.put, sA, sZ, sS]
        refine takeNot 16 29 rfl rfl (by kernel_rfl) (by kernel_rfl) (by kernel_rfl) rfl (by assumption) ?_
        simp only [Act.put, sA, sZ, sS]
        refine takeNot 17 30 rfl rfl (by kernel_rfl) (by kernel_rfl) (by kernel_rfl) rfl (by assumption) ?_
        simp only [Act.put, sA, sZ, sS]
        refine takeNot 18 31 rfl rfl (by kernel_rfl) (by kernel_rfl) (by kernel_rfl) rfl (by assumption) ?_
        simp only [Act.put, sA, sZ, sS]
        refine takeNot 19 32 rfl rfl (by kernel_rfl) (by kernel_rfl) (by kernel_rfl) rfl (by assumption) ?_
        simp only [Act.put, sA, sZ, sS]
        refine takeNot 20 33 rfl rfl (by kernel_rfl) (by kernel_rfl) (by kernel_rfl) rfl (by assumption) ?_
        simp only [Act.put, sA, sZ, sS]
        refine takeNot 21 34 rfl rfl (by kernel_rfl) (by kernel_rfl) (by kernel_rfl) rfl (by assumption) ?_
        simp only [Act.put, sA, sZ, sS]
        refine takeNot 22 35 rfl rfl (by kernel_rfl) (by kernel_rfl) (by kernel_rfl) rfl (by assumption) ?_
        simp only [Act.put, sA, sZ, sS]
        refine takeNot 23 36 rfl rfl (by kernel_rfl) (by kernel_rfl) (by kernel_rfl) rfl (by assumption) ?_
        simp only [Act.put, sA, sZ, sS]
        refine takeNot 24 37 rfl rfl (by kernel_rfl) (by kernel_rfl) (by kernel_rfl) rfl (by assumption) ?_
        simp only [Act.put, sA, sZ, sS]
        refine tk 25 38 (v := .bool true) rfl rfl (fun W hW => rfl) ?_
        simp only [Act.put, sA, sZ, sS]
        refine done (by kernel_rfl) ?_ _
        have HBF := Lib.hid (below_trans HBN.out hS1)
        clear hl4 hidl hnx hls hf0 hfn hfl hS0 hS hS1 hb1
        go_wp2
        go_ret
        exact ⟨by rw [HFIN.out]; rfl, HBF.out⟩
      | true =>
        cases hnx : decide (g.nextNode ≤ nj.id) with
        | true =>
          obtain ⟨hnof, hfaf, honf, hsnf, hoaf⟩ := HLW.out
          have HFIN := Lib.hid (hnof (by rw [hoaf, hok, hnx]; rfl))
          have HOKC := Lib.hid (HOK0.out _ hok)
          have HGE := Lib.hid (HGE0.out _ hnx)
          clear hok hnof hfaf honf hsnf hoaf hnx
          go_wp2_with (first
            | ((with_reducible apply op_load); exact HL1.out; exact rfl)
            | ((with_reducible apply op_store); exact HS.out _ rfl; exact rfl; exact rfl))
          obtain ⟨hl4, hidl, hnx, hls, hf0, hfn, hfl⟩ := HX.out
          have hS0 := HSB.out
          refine plain_region_draws (fun W => Below (wr.alloc (.cells cs 70)).heap.size (wr.alloc (.cells cs 70)) W) (by kernel_rfl) hS0 (fun hS => ?_)
          refine tk 0 13 (v := .agg cs) rfl rfl (fun W hW => exec_load rfl rfl (hl4 W hW)) ?_
          simp only [Act.put, sA, sZ, sS]
          refine onlyCall 1 14 rfl rfl (by kernel_rfl) rfl (exec_call [.agg cs] rfl rfl Tryz.func100 (by kernel_rfl) (by kernel_rfl)) ?_
          refine (HOKC.out _ hS).mono ?_
          rintro e w1 ⟨rfl, hb1⟩
          have hS1 := below_trans hS hb1
          refine ⟨_, rfl, .inr hS1, ?_⟩
          simp only [Act.put, sA, sZ, sS]
          refine tk 2 15 (v := .bool false) rfl rfl (fun W hW => exec_unot (b := true) rfl rfl) ?_
          simp only [Act.put, sA, sZ, sS]
          refine tk 3 16 (v := .bool false) rfl rfl (fun W hW => exec_move rfl rfl) ?_
          simp only [Act.put, sA, sZ, sS]
          refine tk 4 17 (v := .pointer (some ⟨wr.heap.size, 0, none⟩)) rfl rfl (fun W hW => exec_fieldAddr rfl rfl (hf0 W)) ?_
          simp only [Act.put, sA, sZ, sS]
          refine tk 5 18 (v := .int .i64 nj.id) rfl rfl (fun W hW => exec_load rfl rfl (hidl W hW)) ?_
          simp only [Act.put, sA, sZ, sS]
          refine tk 6 19 (v := .pointer (some ⟨w.heap.size, 2, none⟩)) rfl rfl (fun W hW => exec_fieldAddr rfl rfl (hfn W)) ?_
          simp only [Act.put, sA, sZ, sS]
          refine tk 7 20 (v := .int .i64 g.nextNode) rfl rfl (fun W hW => exec_load rfl rfl (hnx W hW)) ?_
          simp only [Act.put, sA, sZ, sS]
          refine tk 8 21 (v := .bool true) rfl rfl (fun W hW => exec_bini rfl rfl rfl (HGE.out W)) ?_
          simp only [Act.put, sA, sZ, sS]
          refine tk 9 22 (v := .bool true) rfl rfl (fun W hW => rfl) ?_
          simp only [Act.put, sA, sZ, sS]
          refine tk 10 23 (v := .bool true) rfl rfl (fun W hW => exec_move rfl rfl) ?_
          simp only [Act.put, sA, sZ, sS]
          refine takeNot 11 24 rfl rfl (by kernel_rfl) (by kernel_rfl) (by kernel_rfl) rfl (by assumption) ?_
          simp only [Act.put, sA, sZ, sS]
          refine takeNot 12 25 rfl rfl (by kernel_rfl) (by kernel_rfl) (by kernel_rfl) rfl (by assumption) ?_
          simp only [Act.put, sA, sZ, sS]
          refine takeNot 13 26 rfl rfl (by kernel_rfl) (by kernel_rfl) (by kernel_rfl) rfl (by assumption) ?_
          simp only [Act.put, sA, sZ, sS]
          refine takeNot 14 27 rfl rfl (by kernel_rfl) (by kernel_rfl) (by kernel_rfl) rfl (by assumption) ?_
          simp only [Act.put, sA, sZ, sS]
          refine takeNot 15 28 rfl rfl (by kernel_rfl) (by kernel_rfl) (by kernel_rfl) rfl (by assumption) ?_
          simp only [Act.put, sA, sZ, sS]
          refine takeNot 16 29 rfl rfl (by kernel_rfl) (by kernel_rfl) (by kernel_rfl) rfl (by assumption) ?_
          simp only [Act.put, sA, sZ, sS]
          refine takeNot 17 30 rfl rfl (by kernel_rfl) (by kernel_rfl) (by kernel_rfl) rfl (by assumption) ?_
          simp only [Act.put, sA, sZ, sS]
          refine takeNot 18 31 rfl rfl (by kernel_rfl) (by kernel_rfl) (by kernel_rfl) rfl (by assumption) ?_
          simp only [Act.put, sA, sZ, sS]
          refine takeNot 19 32 rfl rfl (by kernel_rfl) (by kernel_rfl) (by kernel_rfl) rfl (by assumption) ?_
          simp only [Act.put, sA, sZ, sS]
          refine takeNot 20 33 rfl rfl (by kernel_rfl) (by kernel_rfl) (by kernel_rfl) rfl (by assumption) ?_
          simp only [Act.put, sA, sZ, sS]
          refine takeNot 21 34 rfl rfl (by kernel_rfl) (by kernel_rfl) (by kernel_rfl) rfl (by assumption) ?_
          simp only [Act.put, sA, sZ, sS]
          refine takeNot 22 35 rfl rfl (by kernel_rfl) (by kernel_rfl) (by kernel_rfl) rfl (by assumption) ?_
          simp only [Act.put, sA, sZ, sS]
          refine takeNot 23 36 rfl rfl (by kernel_rfl) (by kernel_rfl) (by kernel_rfl) rfl (by assumption) ?_
          simp only [Act.put, sA, sZ, sS]
          refine takeNot 24 37 rfl rfl (by kernel_rfl) (by kernel_rfl) (by kernel_rfl) rfl (by assumption) ?_
          simp only [Act.put, sA, sZ, sS]
          refine tk 25 38 (v := .bool true) rfl rfl (fun W hW => rfl) ?_
          simp only [Act.put, sA, sZ, sS]
          refine done (by kernel_rfl) ?_ _
          have HBF := Lib.hid (below_trans HBN.out hS1)
          clear hl4 hidl hnx hls hf0 hfn hfl hS0 hS hS1 hb1
          go_wp2
          go_ret
          exact ⟨by rw [HFIN.out]; rfl, HBF.out⟩
        | false =>
          cases hj0 : decide (0 < j) with
          | false =>
            obtain ⟨hnof, hfaf, honf, hsnf, hoaf⟩ := HLW.out
            have HFIN := Lib.hid (honf (by simp only [decide_eq_false_iff_not] at hj0; omega) (by rw [hoaf, hok, hnx]; rfl))
            have HOKC := Lib.hid (HOK0.out _ hok)
            have HGE := Lib.hid (HGE0.out _ hnx)
            have HGT := Lib.hid (HGT0.out _ hj0)
            clear hok hnof hfaf honf hsnf hoaf hnx hj0
            go_wp2_with (first
              | ((with_reducible apply op_load); exact HL1.out; exact rfl)
              | ((with_reducible apply op_store); exact HS.out _ rfl; exact rfl; exact rfl))
            obtain ⟨hl4, hidl, hnx, hls, hf0, hfn, hfl⟩ := HX.out
            have hS0 := HSB.out
            refine plain_region_draws (fun W => Below (wr.alloc (.cells cs 70)).heap.size (wr.alloc (.cells cs 70)) W) (by kernel_rfl) hS0 (fun hS => ?_)
            refine tk 0 13 (v := .agg cs) rfl rfl (fun W hW => exec_load rfl rfl (hl4 W hW)) ?_
            simp only [Act.put, sA, sZ, sS]
            refine onlyCall 1 14 rfl rfl (by kernel_rfl) rfl (exec_call [.agg cs] rfl rfl Tryz.func100 (by kernel_rfl) (by kernel_rfl)) ?_
            refine (HOKC.out _ hS).mono ?_
            rintro e w1 ⟨rfl, hb1⟩
            have hS1 := below_trans hS hb1
            refine ⟨_, rfl, .inr hS1, ?_⟩
            simp only [Act.put, sA, sZ, sS]
            refine tk 2 15 (v := .bool false) rfl rfl (fun W hW => exec_unot (b := true) rfl rfl) ?_
            simp only [Act.put, sA, sZ, sS]
            refine tk 3 16 (v := .bool false) rfl rfl (fun W hW => exec_move rfl rfl) ?_
            simp only [Act.put, sA, sZ, sS]
            refine tk 4 17 (v := .pointer (some ⟨wr.heap.size, 0, none⟩)) rfl rfl (fun W hW => exec_fieldAddr rfl rfl (hf0 W)) ?_
            simp only [Act.put, sA, sZ, sS]
            refine tk 5 18 (v := .int .i64 nj.id) rfl rfl (fun W hW => exec_load rfl rfl (hidl W hW)) ?_
            simp only [Act.put, sA, sZ, sS]
            refine tk 6 19 (v := .pointer (some ⟨w.heap.size, 2, none⟩)) rfl rfl (fun W hW => exec_fieldAddr rfl rfl (hfn W)) ?_
            simp only [Act.put, sA, sZ, sS]
            refine tk 7 20 (v := .int .i64 g.nextNode) rfl rfl (fun W hW => exec_load rfl rfl (hnx W hW)) ?_
            simp only [Act.put, sA, sZ, sS]
            refine tk 8 21 (v := .bool false) rfl rfl (fun W hW => exec_bini rfl rfl rfl (HGE.out W)) ?_
            simp only [Act.put, sA, sZ, sS]
            refine tk 9 22 (v := .bool false) rfl rfl (fun W hW => rfl) ?_
            simp only [Act.put, sA, sZ, sS]
            refine tk 10 23 (v := .bool false) rfl rfl (fun W hW => exec_move rfl rfl) ?_
            simp only [Act.put, sA, sZ, sS]
            refine tk 11 24 (v := .int .i64 (j : Int)) rfl rfl (fun W hW => exec_move rfl rfl) ?_
            simp only [Act.put, sA, sZ, sS]
            refine tk 12 25 (v := .bool false) rfl rfl (fun W hW => exec_bini rfl rfl rfl (HGT.out W)) ?_
            simp only [Act.put, sA, sZ, sS]
            refine tk 13 26 (v := .bool false) rfl rfl (fun W hW => exec_move rfl rfl) ?_
            simp only [Act.put, sA, sZ, sS]
            refine takeNot 14 27 rfl rfl (by kernel_rfl) (by kernel_rfl) (by kernel_rfl) rfl (by assumption) ?_
            simp only [Act.put, sA, sZ, sS]
            refine takeNot 15 28 rfl rfl (by kernel_rfl) (by kernel_rfl) (by kernel_rfl) rfl (by assumption) ?_
            simp only [Act.put, sA, sZ, sS]
            refine takeNot 16 29 rfl rfl (by kernel_rfl) (by kernel_rfl) (by kernel_rfl) rfl (by assumption) ?_
            simp only [Act.put, sA, sZ, sS]
            refine takeNot 17 30 rfl rfl (by kernel_rfl) (by kernel_rfl) (by kernel_rfl) rfl (by assumption) ?_
            simp only [Act.put, sA, sZ, sS]
            refine takeNot 18 31 rfl rfl (by kernel_rfl) (by kernel_rfl) (by kernel_rfl) rfl (by assumption) ?_
            simp only [Act.put, sA, sZ, sS]
            refine takeNot 19 32 rfl rfl (by kernel_rfl) (by kernel_rfl) (by kernel_rfl) rfl (by assumption) ?_
            simp only [Act.put, sA, sZ, sS]
            refine takeNot 20 33 rfl rfl (by kernel_rfl) (by kernel_rfl) (by kernel_rfl) rfl (by assumption) ?_
            simp only [Act.put, sA, sZ, sS]
            refine takeNot 21 34 rfl rfl (by kernel_rfl) (by kernel_rfl) (by kernel_rfl) rfl (by assumption) ?_
            simp only [Act.put, sA, sZ, sS]
            refine takeNot 22 35 rfl rfl (by kernel_rfl) (by kernel_rfl) (by kernel_rfl) rfl (by assumption) ?_
            simp only [Act.put, sA, sZ, sS]
            refine takeNot 23 36 rfl rfl (by kernel_rfl) (by kernel_rfl) (by kernel_rfl) rfl (by assumption) ?_
            simp only [Act.put, sA, sZ, sS]
            refine tk 24 37 (v := .bool false) rfl rfl (fun W hW => rfl) ?_
            simp only [Act.put, sA, sZ, sS]
            refine tk 25 38 (v := .bool false) rfl rfl (fun W hW => rfl) ?_
            simp only [Act.put, sA, sZ, sS]
            refine done (by kernel_rfl) ?_ _
            have HBX := Lib.hid (below_trans (below_trans HI.out.2 (below_new (w := wr) (.cells cs 70))) hS1)
            clear hl4 hidl hnx hls hf0 hfn hfl hS0 hS hS1 hb1
            go_wp2
            go_roundw
            case rel => exact ⟨j + 1, hlt1, by go_num, Lib.hid ⟨HFIN.out, HBX.out⟩⟩
            case measure => simp [intOf]; omega
          | true =>
            obtain ⟨k, hke⟩ : ∃ k, k + 1 = j := ⟨j - 1, by simp only [decide_eq_true_eq] at hj0; omega⟩
            have hkl : k < g.nodes.length := by omega
            have HK := Lib.hid (HKP.out k hke hkl)
            have hfk := HLW.out.2.1 k hke hkl
            have hsk := HLW.out.2.2.2.1 k hke hkl
            clear hke HKP
            generalize g.nodes[k] = nk at *
            cases hpv : decide (nj.id ≤ nk.id) with
            | true =>
              obtain ⟨hnof, hfaf, honf, hsnf, hoaf⟩ := HLW.out
              have HFIN := Lib.hid (hfk (by simpa using hpv))
              have HOKC := Lib.hid (HOK0.out _ hok)
              have HGE := Lib.hid (HGE0.out _ hnx)
              have HGT := Lib.hid (HGT0.out _ hj0)
              have HG2 := Lib.hid (HK.out.2.2.2.2 _ hpv)
              clear hok hnof hfaf honf hsnf hoaf hnx hj0 hpv hfk hsk
              go_wp2_with (first
                | ((with_reducible apply op_load); exact HL1.out; exact rfl)
                | ((with_reducible apply op_store); exact HS.out _ rfl; exact rfl; exact rfl))
              obtain ⟨hl4, hidl, hnx, hls, hf0, hfn, hfl⟩ := HX.out
              obtain ⟨hsb, hix, hfp, hpv, _⟩ := HK.out
              have hS0 := HSB.out
              refine plain_region_draws (fun W => Below (wr.alloc (.cells cs 70)).heap.size (wr.alloc (.cells cs 70)) W) (by kernel_rfl) hS0 (fun hS => ?_)
              refine tk 0 13 (v := .agg cs) rfl rfl (fun W hW => exec_load rfl rfl (hl4 W hW)) ?_
              simp only [Act.put, sA, sZ, sS]
              refine onlyCall 1 14 rfl rfl (by kernel_rfl) rfl (exec_call [.agg cs] rfl rfl Tryz.func100 (by kernel_rfl) (by kernel_rfl)) ?_
              refine (HOKC.out _ hS).mono ?_
              rintro e w1 ⟨rfl, hb1⟩
              have hS1 := below_trans hS hb1
              refine ⟨_, rfl, .inr hS1, ?_⟩
              simp only [Act.put, sA, sZ, sS]
              refine tk 2 15 (v := .bool false) rfl rfl (fun W hW => exec_unot (b := true) rfl rfl) ?_
              simp only [Act.put, sA, sZ, sS]
              refine tk 3 16 (v := .bool false) rfl rfl (fun W hW => exec_move rfl rfl) ?_
              simp only [Act.put, sA, sZ, sS]
              refine tk 4 17 (v := .pointer (some ⟨wr.heap.size, 0, none⟩)) rfl rfl (fun W hW => exec_fieldAddr rfl rfl (hf0 W)) ?_
              simp only [Act.put, sA, sZ, sS]
              refine tk 5 18 (v := .int .i64 nj.id) rfl rfl (fun W hW => exec_load rfl rfl (hidl W hW)) ?_
              simp only [Act.put, sA, sZ, sS]
              refine tk 6 19 (v := .pointer (some ⟨w.heap.size, 2, none⟩)) rfl rfl (fun W hW => exec_fieldAddr rfl rfl (hfn W)) ?_
              simp only [Act.put, sA, sZ, sS]
              refine tk 7 20 (v := .int .i64 g.nextNode) rfl rfl (fun W hW => exec_load rfl rfl (hnx W hW)) ?_
              simp only [Act.put, sA, sZ, sS]
              refine tk 8 21 (v := .bool false) rfl rfl (fun W hW => exec_bini rfl rfl rfl (HGE.out W)) ?_
              simp only [Act.put, sA, sZ, sS]
              refine tk 9 22 (v := .bool false) rfl rfl (fun W hW => rfl) ?_
              simp only [Act.put, sA, sZ, sS]
              refine tk 10 23 (v := .bool false) rfl rfl (fun W hW => exec_move rfl rfl) ?_
              simp only [Act.put, sA, sZ, sS]
              refine tk 11 24 (v := .int .i64 (j : Int)) rfl rfl (fun W hW => exec_move rfl rfl) ?_
              simp only [Act.put, sA, sZ, sS]
              refine tk 12 25 (v := .bool true) rfl rfl (fun W hW => exec_bini rfl rfl rfl (HGT.out W)) ?_
              simp only [Act.put, sA, sZ, sS]
              refine tk 13 26 (v := .bool true) rfl rfl (fun W hW => exec_move rfl rfl) ?_
              simp only [Act.put, sA, sZ, sS]
              refine tk 14 27 (v := .pointer (some ⟨w.heap.size, 0, none⟩)) rfl rfl (fun W hW => exec_fieldAddr rfl rfl (hfl W)) ?_
              simp only [Act.put, sA, sZ, sS]
              refine tk 15 28 (v := .slice (some ⟨b, of, none⟩) g.nodes.length cn) rfl rfl (fun W hW => exec_load rfl rfl (hls W hW)) ?_
              simp only [Act.put, sA, sZ, sS]
              refine tk 16 29 (v := .int .i64 (j : Int)) rfl rfl (fun W hW => exec_move rfl rfl) ?_
              simp only [Act.put, sA, sZ, sS]
              refine tk 17 30 (v := .int .i64 (k : Int)) rfl rfl (fun W hW => exec_bini rfl rfl rfl (hsb W)) ?_
              simp only [Act.put, sA, sZ, sS]
              refine tk 18 31 (v := .pointer (some ⟨b, of + k * 3, none⟩)) rfl rfl (fun W hW => exec_indexAddr rfl rfl rfl (hix W)) ?_
              simp only [Act.put, sA, sZ, sS]
              refine tk 19 32 (v := .pointer (some ⟨b, of + k * 3, none⟩)) rfl rfl (fun W hW => exec_fieldAddr rfl rfl (hfp W)) ?_
              simp only [Act.put, sA, sZ, sS]
              refine tk 20 33 (v := .int .i64 nk.id) rfl rfl (fun W hW => exec_load rfl rfl (hpv W hW)) ?_
              simp only [Act.put, sA, sZ, sS]
              refine tk 21 34 (v := .pointer (some ⟨wr.heap.size, 0, none⟩)) rfl rfl (fun W hW => exec_fieldAddr rfl rfl (hf0 W)) ?_
              simp only [Act.put, sA, sZ, sS]
              refine tk 22 35 (v := .int .i64 nj.id) rfl rfl (fun W hW => exec_load rfl rfl (hidl W hW)) ?_
              simp only [Act.put, sA, sZ, sS]
              refine tk 23 36 (v := .bool true) rfl rfl (fun W hW => exec_bini rfl rfl rfl (HG2.out W)) ?_
              simp only [Act.put, sA, sZ, sS]
              refine tk 24 37 (v := .bool true) rfl rfl (fun W hW => rfl) ?_
              simp only [Act.put, sA, sZ, sS]
              refine tk 25 38 (v := .bool true) rfl rfl (fun W hW => rfl) ?_
              simp only [Act.put, sA, sZ, sS]
              refine done (by kernel_rfl) ?_ _
              have HBF := Lib.hid (below_trans HBN.out hS1)
              clear hl4 hidl hnx hls hf0 hfn hfl hS0 hS hS1 hsb hix hfp hpv hb1
              go_wp2
              go_ret
              exact ⟨by rw [HFIN.out]; rfl, HBF.out⟩
            | false =>
              obtain ⟨hnof, hfaf, honf, hsnf, hoaf⟩ := HLW.out
              have HFIN := Lib.hid (hsk (by rw [hoaf, hok, hnx]; rfl) (by simpa using hpv))
              have HOKC := Lib.hid (HOK0.out _ hok)
              have HGE := Lib.hid (HGE0.out _ hnx)
              have HGT := Lib.hid (HGT0.out _ hj0)
              have HG2 := Lib.hid (HK.out.2.2.2.2 _ hpv)
              clear hok hnof hfaf honf hsnf hoaf hnx hj0 hpv hfk hsk
              go_wp2_with (first
                | ((with_reducible apply op_load); exact HL1.out; exact rfl)
                | ((with_reducible apply op_store); exact HS.out _ rfl; exact rfl; exact rfl))
              obtain ⟨hl4, hidl, hnx, hls, hf0, hfn, hfl⟩ := HX.out
              obtain ⟨hsb, hix, hfp, hpv, _⟩ := HK.out
              have hS0 := HSB.out
              refine plain_region_draws (fun W => Below (wr.alloc (.cells cs 70)).heap.size (wr.alloc (.cells cs 70)) W) (by kernel_rfl) hS0 (fun hS => ?_)
              refine tk 0 13 (v := .agg cs) rfl rfl (fun W hW => exec_load rfl rfl (hl4 W hW)) ?_
              simp only [Act.put, sA, sZ, sS]
              refine onlyCall 1 14 rfl rfl (by kernel_rfl) rfl (exec_call [.agg cs] rfl rfl Tryz.func100 (by kernel_rfl) (by kernel_rfl)) ?_
              refine (HOKC.out _ hS).mono ?_
              rintro e w1 ⟨rfl, hb1⟩
              have hS1 := below_trans hS hb1
              refine ⟨_, rfl, .inr hS1, ?_⟩
              simp only [Act.put, sA, sZ, sS]
              refine tk 2 15 (v := .bool false) rfl rfl (fun W hW => exec_unot (b := true) rfl rfl) ?_
              simp only [Act.put, sA, sZ, sS]
              refine tk 3 16 (v := .bool false) rfl rfl (fun W hW => exec_move rfl rfl) ?_
              simp only [Act.put, sA, sZ, sS]
              refine tk 4 17 (v := .pointer (some ⟨wr.heap.size, 0, none⟩)) rfl rfl (fun W hW => exec_fieldAddr rfl rfl (hf0 W)) ?_
              simp only [Act.put, sA, sZ, sS]
              refine tk 5 18 (v := .int .i64 nj.id) rfl rfl (fun W hW => exec_load rfl rfl (hidl W hW)) ?_
              simp only [Act.put, sA, sZ, sS]
              refine tk 6 19 (v := .pointer (some ⟨w.heap.size, 2, none⟩)) rfl rfl (fun W hW => exec_fieldAddr rfl rfl (hfn W)) ?_
              simp only [Act.put, sA, sZ, sS]
              refine tk 7 20 (v := .int .i64 g.nextNode) rfl rfl (fun W hW => exec_load rfl rfl (hnx W hW)) ?_
              simp only [Act.put, sA, sZ, sS]
              refine tk 8 21 (v := .bool false) rfl rfl (fun W hW => exec_bini rfl rfl rfl (HGE.out W)) ?_
              simp only [Act.put, sA, sZ, sS]
              refine tk 9 22 (v := .bool false) rfl rfl (fun W hW => rfl) ?_
              simp only [Act.put, sA, sZ, sS]
              refine tk 10 23 (v := .bool false) rfl rfl (fun W hW => exec_move rfl rfl) ?_
              simp only [Act.put, sA, sZ, sS]
              refine tk 11 24 (v := .int .i64 (j : Int)) rfl rfl (fun W hW => exec_move rfl rfl) ?_
              simp only [Act.put, sA, sZ, sS]
              refine tk 12 25 (v := .bool true) rfl rfl (fun W hW => exec_bini rfl rfl rfl (HGT.out W)) ?_
              simp only [Act.put, sA, sZ, sS]
              refine tk 13 26 (v := .bool true) rfl rfl (fun W hW => exec_move rfl rfl) ?_
              simp only [Act.put, sA, sZ, sS]
              refine tk 14 27 (v := .pointer (some ⟨w.heap.size, 0, none⟩)) rfl rfl (fun W hW => exec_fieldAddr rfl rfl (hfl W)) ?_
              simp only [Act.put, sA, sZ, sS]
              refine tk 15 28 (v := .slice (some ⟨b, of, none⟩) g.nodes.length cn) rfl rfl (fun W hW => exec_load rfl rfl (hls W hW)) ?_
              simp only [Act.put, sA, sZ, sS]
              refine tk 16 29 (v := .int .i64 (j : Int)) rfl rfl (fun W hW => exec_move rfl rfl) ?_
              simp only [Act.put, sA, sZ, sS]
              refine tk 17 30 (v := .int .i64 (k : Int)) rfl rfl (fun W hW => exec_bini rfl rfl rfl (hsb W)) ?_
              simp only [Act.put, sA, sZ, sS]
              refine tk 18 31 (v := .pointer (some ⟨b, of + k * 3, none⟩)) rfl rfl (fun W hW => exec_indexAddr rfl rfl rfl (hix W)) ?_
              simp only [Act.put, sA, sZ, sS]
              refine tk 19 32 (v := .pointer (some ⟨b, of + k * 3, none⟩)) rfl rfl (fun W hW => exec_fieldAddr rfl rfl (hfp W)) ?_
              simp only [Act.put, sA, sZ, sS]
              refine tk 20 33 (v := .int .i64 nk.id) rfl rfl (fun W hW => exec_load rfl rfl (hpv W hW)) ?_
              simp only [Act.put, sA, sZ, sS]
              refine tk 21 34 (v := .pointer (some ⟨wr.heap.size, 0, none⟩)) rfl rfl (fun W hW => exec_fieldAddr rfl rfl (hf0 W)) ?_
              simp only [Act.put, sA, sZ, sS]
              refine tk 22 35 (v := .int .i64 nj.id) rfl rfl (fun W hW => exec_load rfl rfl (hidl W hW)) ?_
              simp only [Act.put, sA, sZ, sS]
              refine tk 23 36 (v := .bool false) rfl rfl (fun W hW => exec_bini rfl rfl rfl (HG2.out W)) ?_
              simp only [Act.put, sA, sZ, sS]
              refine tk 24 37 (v := .bool false) rfl rfl (fun W hW => rfl) ?_
              simp only [Act.put, sA, sZ, sS]
              refine tk 25 38 (v := .bool false) rfl rfl (fun W hW => rfl) ?_
              simp only [Act.put, sA, sZ, sS]
              refine done (by kernel_rfl) ?_ _
              have HBX := Lib.hid (below_trans (below_trans HI.out.2 (below_new (w := wr) (.cells cs 70))) hS1)
              clear hl4 hidl hnx hls hf0 hfn hfl hS0 hS hS1 hsb hix hfp hpv hb1
              go_wp2
              go_roundw
              case rel => exact ⟨j + 1, hlt1, by go_num, Lib.hid ⟨HFIN.out, HBX.out⟩⟩
              case measure => simp [intOf]; omega
    · obtain rfl : j = g.nodes.length := by omega
      have HF := Lib.hid (And.intro HI.out.1.last (below_trans HB0.out HI.out.2))
      clear HI
      go_wp2
      go_ret
      exact ⟨by rw [HF.out.1]; rfl, HF.out.2⟩
end Go.Proofs.YthdfedfholmbmaaGreatDoor

namespace Go.Proofs.YthdfedfholmbmaaGreatDoor
open Go.RowKit
theorem rel_id {w : World} {n : RelD} {cs : Array Value} (h : RRd w n cs) : cs[0]? = some (.int .i64 n.id) ∧ cs[1]? = some (.int .i64 n.src) ∧ cs[2]? = some (.int .i64 n.dst) := by
  obtain ⟨pp, cp, rfl, _⟩ := h; exact ⟨rfl, rfl, rfl⟩
def okAtR (g : GraphD) (r : RelD) : Bool := okR r && decide (r.id < g.nextRel) && hasN g r.src && hasN g r.dst
theorem okRs_eq (g : GraphD) : okRs g = (g.rels.all (okAtR g) && risesI (g.rels.map RelD.id)) := rfl
theorem okRs_no {g : GraphD} {j : Nat} (hj : j < g.rels.length) (h : okAtR g g.rels[j] = false) : okRs g = false := by
  rw [okRs_eq]
  have : g.rels.all (okAtR g) = false := by
    rw [List.all_eq_false]
    exact ⟨g.rels[j], List.getElem_mem hj, by simp [h]⟩
  rw [this, Bool.false_and]
theorem okRs_fall {g : GraphD} {k j : Nat} (hk : k + 1 = j) (hj : j < g.rels.length) (h : g.rels[j].id ≤ g.rels[k].id) : okRs g = false := by
  rw [okRs_eq]
  cases hr : risesI (g.rels.map RelD.id) with
  | false => rw [Bool.and_false]
  | true =>
    have := risesI_lt hr (a := k) (b := j) (by simpa using hj) (by omega)
    rw [List.getElem_map, List.getElem_map] at this
    omega
def RsInv (g : GraphD) (j : Nat) : Prop := (g.rels.take j).all (okAtR g) = true ∧ risesI ((g.rels.map RelD.id).take j) = true
theorem RsInv.zero (g : GraphD) : RsInv g 0 := ⟨by simp, by simp [risesI]⟩
theorem RsInv.one {g : GraphD} {j : Nat} (h0 : j = 0) (hj : j < g.rels.length) (h : okAtR g g.rels[j] = true) : RsInv g (j + 1) := by
  subst h0
  exact ⟨all_snoc hj (by simp) h, risesI_one _⟩
theorem RsInv.snoc {g : GraphD} {k j : Nat} (hk : k + 1 = j) (hj : j < g.rels.length) (hi : RsInv g j) (h : okAtR g g.rels[j] = true) (hlt : ¬ g.rels[j].id ≤ g.rels[k].id) : RsInv g (j + 1) := by
  subst hk
  refine ⟨all_snoc hj hi.1 h, ?_⟩
  rw [risesI_step (by simpa using hj), hi.2, Bool.true_and]
  simp only [List.getElem_map, decide_eq_true_eq]; omega
theorem RsInv.last {g : GraphD} (h : RsInv g g.rels.length) : okRs g = true := by
  rw [okRs_eq]
  have h1 := h.1
  have h2 := h.2
  rw [List.take_length] at h1
  rw [List.take_of_length_le (by simp)] at h2
  rw [h1, h2]; rfl
theorem grels_any {w : World} (hE : Env w) {g : GraphD} {x : Array Value} (h : GrRd w g x) (hri : risesI (g.nodes.map NodeD.id) = true) (ht : totG g ≤ 1000000) : Calls Tryz.prog 45 #[.agg x] w fun e w' => e = .returned (.bool (okRs g)) ∧ Below w.heap.size w w' := by
  have hgr := h
  obtain ⟨pn, cn, pr, cr, rfl, hn, hrl⟩ := h
  have z1 : (g.rels.length : Int) ≤ 140737488355328 := by have := hrl.1.2.1; omega
  have htn : ∀ n ∈ g.rels, totR n ≤ 1000000 := fun n hm => by
    have h1 := mem_sum totR hm
    unfold totG at ht; omega
  have hb := below_new (w := w) (.cells #[.slice pn g.nodes.length cn, .slice pr g.rels.length cr, .int .i64 g.nextNode, .int .i64 g.nextRel] 25)
  have hg := heap_alloc_new w (.cells #[.slice pn g.nodes.length cn, .slice pr g.rels.length cr, .int .i64 g.nextNode, .int .i64 g.nextRel] 25)
  have hn1 := hrl.below (fun h => h.below hb) hb
  have hE1 := hE.b hb
  have hgr1 := hgr.below hb
  have hlt0 := Array.getElem?_eq_some_iff.1 hg |>.1
  have H := Lib.hid (And.intro hn1 (And.intro hE1 (And.intro hg (And.intro hgr1 hlt0))))
  have HB0 := Lib.hid hb
  have HRI := Lib.hid hri
  clear hri
  have HT := Lib.hid htn
  clear hn hrl hb hg hn1 hE1 hE ht htn hgr hgr1 hlt0
  go_enter Tryz.func45, Tryz.ntmps45
  go_wp2
  generalize w.alloc (.cells #[.slice pn g.nodes.length cn, .slice pr g.rels.length cr, .int .i64 g.nextNode, .int .i64 g.nextRel] 25) = w1 at *
  go_loopw [8] (fun i W => ∃ j : Nat, j ≤ g.rels.length ∧ i = .int .i64 (j : Int) ∧ Hid (RsInv g j ∧ Below w1.heap.size w1 W)) (fun i _ => g.rels.length - (intOf i).toNat)
  case atStart => exact ⟨0, Nat.zero_le _, rfl, Lib.hid ⟨RsInv.zero g, Below.refl _ _⟩⟩
  case round =>
    obtain ⟨j, hj, rfl, HI⟩ := hrel
    by_cases hlt : j < g.rels.length
    · have hlt1 : j + 1 ≤ g.rels.length := hlt
      obtain ⟨hn1, hE1, hg, hgr1, hlt0⟩ := H.out
      have hnr := hn1.below (fun h => h.below HI.out.2) HI.out.2
      obtain ⟨b, of, cs, rfl, hs, hc, hv⟩ := hnr.get hlt
      have hones := ef_rel.ones hv
      have hnof : okAtR g g.rels[j] = false → okRs g = false := okRs_no hlt
      have hfaf : ∀ k, k + 1 = j → ∀ hk : k < g.rels.length, g.rels[j].id ≤ g.rels[k].id → okRs g = false := fun k hk _ h => okRs_fall hk hlt h
      have honf : j = 0 → okAtR g g.rels[j] = true → RsInv g (j + 1) := fun h0 h => RsInv.one h0 hlt h
      have hsnf : ∀ k, k + 1 = j → ∀ hk : k < g.rels.length, okAtR g g.rels[j] = true → ¬ g.rels[j].id ≤ g.rels[k].id → RsInv g (j + 1) := fun k hk _ h h' => RsInv.snoc hk hlt HI.out.1 h h'
      have hoaf : okAtR g g.rels[j] = (okR g.rels[j] && !decide (g.nextRel ≤ g.rels[j].id) && hasN g g.rels[j].src && hasN g g.rels[j].dst) := by rw [← dec_lt]; rfl
      have htot : totR g.rels[j] ≤ 1000000 := HT.out _ (List.getElem_mem hlt)
      generalize g.rels[j] = nj at *
      have hbn := below_new (w := wr) (.cells cs 72)
      have hb2 := below_trans HI.out.2 hbn
      have hB := heap_alloc_new wr (.cells cs 72)
      have HL1 := Lib.hid (st_rel.load hs hc)
      have HS := Lib.hid (st_rel.fresh hs hones (W := wr))
      have hl4 : ∀ W, Below (wr.alloc (.cells cs 72)).heap.size (wr.alloc (.cells cs 72)) W → (loadVar 72 ⟨wr.heap.size, 0, none⟩).run Tryz.prog W = .ok (.agg cs) W := fun W q => st_rel.get hs (belowBlk q (Array.getElem?_eq_some_iff.1 hB).1 hB)
      have hidl : ∀ W, Below (wr.alloc (.cells cs 72)).heap.size (wr.alloc (.cells cs 72)) W → (loadVar 2 ⟨wr.heap.size, 0, none⟩).run Tryz.prog W = .ok (.int .i64 nj.id) W := fun W q => ld_cell Tryz.underlying2 rfl q hB (rel_id hv).1
      have hnx : ∀ W, Below (wr.alloc (.cells cs 72)).heap.size (wr.alloc (.cells cs 72)) W → (loadVar 2 ⟨w.heap.size, 3, none⟩).run Tryz.prog W = .ok (.int .i64 g.nextRel) W := fun W q => ld_cell Tryz.underlying2 rfl (below_trans hb2 q) hg rfl
      have hls : ∀ W, Below (wr.alloc (.cells cs 72)).heap.size (wr.alloc (.cells cs 72)) W → (loadVar 23 ⟨w.heap.size, 1, none⟩).run Tryz.prog W = .ok (.slice (some ⟨b, of, none⟩) g.rels.length cr) W := fun W q => ld_cell Tryz.underlying23 rfl (below_trans hb2 q) hg rfl
      have hia : ∀ W' : World, (Instr.indexAt 23 (.slice (some ⟨b, of, none⟩) g.rels.length cr) (.int .i64 (j : Int))).run Tryz.prog W' = .ok (.pointer (some ⟨b, of + j * 5, none⟩)) W' := by intro W'; simp [go_sem, hlt]
      have hf0 : ∀ W' : World, (Instr.fieldAt 72 (.pointer (some ⟨wr.heap.size, 0, none⟩)) 0).run Tryz.prog W' = .ok (.pointer (some ⟨wr.heap.size, 0, none⟩)) W' := by intro W'; simp [go_sem]
      have hfn : ∀ W' : World, (Instr.fieldAt 25 (.pointer (some ⟨w.heap.size, 0, none⟩)) 3).run Tryz.prog W' = .ok (.pointer (some ⟨w.heap.size, 3, none⟩)) W' := by intro W'; simp [go_sem]
      have hfl : ∀ W' : World, (Instr.fieldAt 25 (.pointer (some ⟨w.heap.size, 0, none⟩)) 1).run Tryz.prog W' = .ok (.pointer (some ⟨w.heap.size, 1, none⟩)) W' := by intro W'; simp [go_sem]
      have hge : ∀ bb, decide (g.nextRel ≤ nj.id) = bb → ∀ W' : World, (binOp .geq 2 (.int .i64 nj.id) (.int .i64 g.nextRel)).run Tryz.prog W' = .ok (.bool bb) W' := by intro bb hbb W'; subst hbb; simp [go_sem]
      have hgt : ∀ bb, decide (0 < j) = bb → ∀ W' : World, (binOp .gtr 3 (.int .i64 (j : Int)) (.int .i64 0)).run Tryz.prog W' = .ok (.bool bb) W' := by intro bb hbb W'; subst hbb; simp [go_sem]
      have hokc : ∀ bb, okR nj = bb → ∀ W', Below (wr.alloc (.cells cs 72)).heap.size (wr.alloc (.cells cs 72)) W' → Calls Tryz.prog 101 #[.agg cs] W' fun e w' => e = .returned (.bool bb) ∧ Below W'.heap.size W' w' := fun bb hbb W' q => hbb ▸ grel_any (hE1.b (below_trans hb2 q)) (hv.below (below_trans hbn q)) htot
      have hgl : ∀ W, Below (wr.alloc (.cells cs 72)).heap.size (wr.alloc (.cells cs 72)) W → (loadVar 25 ⟨w.heap.size, 0, none⟩).run Tryz.prog W = .ok (.agg #[.slice pn g.nodes.length cn, .slice (some ⟨b, of, none⟩) g.rels.length cr, .int .i64 g.nextNode, .int .i64 g.nextRel]) W := fun W q => st_graph.get rfl (belowBlk (below_trans hb2 q) hlt0 hg)
      have hf1 : ∀ W' : World, (Instr.fieldAt 72 (.pointer (some ⟨wr.heap.size, 0, none⟩)) 1).run Tryz.prog W' = .ok (.pointer (some ⟨wr.heap.size, 1, none⟩)) W' := by intro W'; simp [go_sem]
      have hf2 : ∀ W' : World, (Instr.fieldAt 72 (.pointer (some ⟨wr.heap.size, 0, none⟩)) 2).run Tryz.prog W' = .ok (.pointer (some ⟨wr.heap.size, 2, none⟩)) W' := by intro W'; simp [go_sem]
      have hsl : ∀ W, Below (wr.alloc (.cells cs 72)).heap.size (wr.alloc (.cells cs 72)) W → (loadVar 2 ⟨wr.heap.size, 1, none⟩).run Tryz.prog W = .ok (.int .i64 nj.src) W := fun W q => ld_cell Tryz.underlying2 rfl q hB (rel_id hv).2.1
      have hdl : ∀ W, Below (wr.alloc (.cells cs 72)).heap.size (wr.alloc (.cells cs 72)) W → (loadVar 2 ⟨wr.heap.size, 2, none⟩).run Tryz.prog W = .ok (.int .i64 nj.dst) W := fun W q => ld_cell Tryz.underlying2 rfl q hB (rel_id hv).2.2
      have hhs : ∀ bb, hasN g nj.src = bb → ∀ W', Below (wr.alloc (.cells cs 72)).heap.size (wr.alloc (.cells cs 72)) W' → Calls Tryz.prog 102 #[.agg #[.slice pn g.nodes.length cn, .slice (some ⟨b, of, none⟩) g.rels.length cr, .int .i64 g.nextNode, .int .i64 g.nextRel], .int .i64 nj.src] W' fun e w' => e = .returned (.bool bb) ∧ Below W'.heap.size W' w' := fun bb hbb W' q => hbb ▸ has_any (hgr1.below (below_trans hb2 q)) HRI.out _
      have hhd : ∀ bb, hasN g nj.dst = bb → ∀ W', Below (wr.alloc (.cells cs 72)).heap.size (wr.alloc (.cells cs 72)) W' → Calls Tryz.prog 102 #[.agg #[.slice pn g.nodes.length cn, .slice (some ⟨b, of, none⟩) g.rels.length cr, .int .i64 g.nextNode, .int .i64 g.nextRel], .int .i64 nj.dst] W' fun e w' => e = .returned (.bool bb) ∧ Below W'.heap.size W' w' := fun bb hbb W' q => hbb ▸ has_any (hgr1.below (below_trans hb2 q)) HRI.out _
      have HY := Lib.hid (And.intro hgl (And.intro hf1 (And.intro hf2 (And.intro hsl hdl))))
      have HHS0 := Lib.hid hhs
      have HHD0 := Lib.hid hhd
      clear hgl hf1 hf2 hsl hdl hhs hhd
      have hkp : ∀ k, k + 1 = j → ∀ hk : k < g.rels.length, (∀ W' : World, (binOp .sub 3 (.int .i64 (j : Int)) (.int .i64 1)).run Tryz.prog W' = .ok (.int .i64 (k : Int)) W') ∧ (∀ W' : World, (Instr.indexAt 23 (.slice (some ⟨b, of, none⟩) g.rels.length cr) (.int .i64 (k : Int))).run Tryz.prog W' = .ok (.pointer (some ⟨b, of + k * 5, none⟩)) W') ∧
          (∀ W' : World, (Instr.fieldAt 72 (.pointer (some ⟨b, of + k * 5, none⟩)) 0).run Tryz.prog W' = .ok (.pointer (some ⟨b, of + k * 5, none⟩)) W') ∧ (∀ W, Below (wr.alloc (.cells cs 72)).heap.size (wr.alloc (.cells cs 72)) W → (loadVar 2 ⟨b, of + k * 5, none⟩).run Tryz.prog W = .ok (.int .i64 g.rels[k].id) W) ∧
          (∀ bb, decide (nj.id ≤ g.rels[k].id) = bb → ∀ W' : World, (binOp .geq 2 (.int .i64 g.rels[k].id) (.int .i64 nj.id)).run Tryz.prog W' = .ok (.bool bb) W') := by
        intro k hk hkl
        obtain ⟨b', of', cs', e', hs', hc', hv'⟩ := hnr.get hkl
        cases e'
        refine ⟨fun W' => ?_, fun W' => by simp [go_sem, hkl], fun W' => by simp [go_sem], fun W q => ?_, fun bb hbb W' => by subst hbb; simp [go_sem]⟩
        · rw [← hk]
          exact_mod_cast sub_one (j := k) (by omega) W'
        · have hc0 := hc' 0 _ (rel_id hv').1
          exact run_load1 Tryz.underlying2 rfl (belowCell (below_trans hbn q) (ltOf hc0) hc0)
      have HX := Lib.hid (And.intro hl4 (And.intro hidl (And.intro hnx (And.intro hls (And.intro hf0 (And.intro hfn hfl))))))
      have HKP := Lib.hid hkp
      have HBN := Lib.hid (below_trans HB0.out hb2)
      have HSB := Lib.hid ((Below.refl (wr.alloc (.cells cs 72)).heap.size (wr.alloc (.cells cs 72))).drew)
      have HGE0 := Lib.hid hge
      have HGT0 := Lib.hid hgt
      have HOK0 := Lib.hid hokc
      have HLW := Lib.hid (And.intro hnof (And.intro hfaf (And.intro honf (And.intro hsnf hoaf))))
      clear hl4 hidl hnx hls hf0 hfn hfl hge hgt hokc hkp htot hnof hfaf honf hsnf hoaf hb2 hB hones hs hc hv hbn hnr hn1 hE1 hg hgr1 hlt0
      cases hok : okR nj with
      | false =>
        obtain ⟨hnof, hfaf, honf, hsnf, hoaf⟩ := HLW.out
        have HFIN := Lib.hid (hnof (by rw [hoaf, hok]; rfl))
        have HOKC := Lib.hid (HOK0.out _ hok)
        clear hok hnof hfaf honf hsnf hoaf
        go_wp2_with (first
          | ((with_reducible apply op_load); exact HL1.out; exact rfl)
          | ((with_reducible apply op_store); exact HS.out _ rfl; exact rfl; exact rfl))
        obtain ⟨hl4, hidl, hnx, hls, hf0, hfn, hfl⟩ := HX.out
        obtain ⟨hgl, hf1, hf2, hsl, hdl⟩ := HY.out
        have hS0 := HSB.out
        refine plain_region_draws (fun W => Below (wr.alloc (.cells cs 72)).heap.size (wr.alloc (.cells cs 72)) W) (by kernel_rfl) hS0 (fun hS => ?_)
        refine tk 0 13 (v := .agg cs) rfl rfl (fun W hW => exec_load rfl rfl (hl4 W hW)) ?_
        simp only [Act.put, sA, sZ, sS]
        refine onlyCall 1 14 rfl rfl (by kernel_rfl) rfl (exec_call [.agg cs] rfl rfl Tryz.func101 (by kernel_rfl) (by kernel_rfl)) ?_
        refine (HOKC.out _ hS).mono ?_
        rintro e w1 ⟨rfl, hb1⟩
        have hS1 := below_trans hS hb1
        refine ⟨_, rfl, .inr hS1, ?_⟩
        simp only [Act.put, sA, sZ, sS]
        refine tk 2 15 (v := .bool true) rfl rfl (fun W hW => exec_unot (b := false) rfl rfl) ?_
        simp only [Act.put, sA, sZ, sS]
        refine tk 3 16 (v := .bool true) rfl rfl (fun W hW => exec_move rfl rfl) ?_
        simp only [Act.put, sA, sZ, sS]
        refine takeNot 4 17 rfl rfl (by kernel_rfl) (by kernel_rfl) (by kernel_rfl) rfl (by assumption) ?_
        simp only [Act.put, sA, sZ, sS]
        refine takeNot 5 18 rfl rfl (by kernel_rfl) (by kernel_rfl) (by kernel_rfl) rfl (by assumption) ?_
        simp only [Act.put, sA, sZ, sS]
        refine takeNot 6 19 rfl rfl (by kernel_rfl) (by kernel_rfl) (by kernel_rfl) rfl (by assumption) ?_
        simp only [Act.put, sA, sZ, sS]
        refine takeNot 7 20 rfl rfl (by kernel_rfl) (by kernel_rfl) (by kernel_rfl) rfl (by assumption) ?_
        simp only [Act.put, sA, sZ, sS]
        refine takeNot 8 21 rfl rfl (by kernel_rfl) (by kernel_rfl) (by kernel_rfl) rfl (by assumption) ?_
        simp only [Act.put, sA, sZ, sS]
        refine tk 9 22 (v := .bool true) rfl rfl (fun W hW => rfl) ?_
        simp only [Act.put, sA, sZ, sS]
        refine tk 10 23 (v := .bool true) rfl rfl (fun W hW => exec_move rfl rfl) ?_
        simp only [Act.put, sA, sZ, sS]
        refine takeNot 11 24 rfl rfl (by kernel_rfl) (by kernel_rfl) (by kernel_rfl) rfl (by assumption) ?_
        simp only [Act.put, sA, sZ, sS]
        refine takeNot 12 25 rfl rfl (by kernel_rfl) (by kernel_rfl) (by kernel_rfl) rfl (by assumption) ?_
        simp only [Act.put, sA, sZ, sS]
        refine takeNot 13 26 rfl rfl (by kernel_rfl) (by kernel_rfl) (by kernel_rfl) rfl (by assumption) ?_
        simp only [Act.put, sA, sZ, sS]
        refine takeNot 14 27 rfl rfl (by kernel_rfl) (by kernel_rfl) (by kernel_rfl) rfl (by assumption) ?_
        simp only [Act.put, sA, sZ, sS]
        refine takeNot 15 28 rfl rfl (by kernel_rfl) (by kernel_rfl) (by kernel_rfl) rfl (by assumption) ?_
        simp only [Act.put, sA, sZ, sS]
        refine takeNot 16 29 rfl rfl (by kernel_rfl) (by kernel_rfl) (by kernel_rfl) rfl (by assumption) ?_
        simp only [Act.put, sA, sZ, sS]
        refine takeNot 17 30 rfl rfl (by kernel_rfl) (by kernel_rfl) (by kernel_rfl) rfl (by assumption) ?_
        simp only [Act.put, sA, sZ, sS]
        refine takeNot 18 31 rfl rfl (by kernel_rfl) (by kernel_rfl) (by kernel_rfl) rfl (by assumption) ?_
        simp only [Act.put, sA, sZ, sS]
        refine takeNot 19 32 rfl rfl (by kernel_rfl) (by kernel_rfl) (by kernel_rfl) rfl (by assumption) ?_
        simp only [Act.put, sA, sZ, sS]
        refine takeNot 20 33 rfl rfl (by kernel_rfl) (by kernel_rfl) (by kernel_rfl) rfl (by assumption) ?_
        simp only [Act.put, sA, sZ, sS]
        refine takeNot 21 34 rfl rfl (by kernel_rfl) (by kernel_rfl) (by kernel_rfl) rfl (by assumption) ?_
        simp only [Act.put, sA, sZ, sS]
        refine takeNot 22 35 rfl rfl (by kernel_rfl) (by kernel_rfl) (by kernel_rfl) rfl (by assumption) ?_
        simp only [Act.put, sA, sZ, sS]
        refine takeNot 23 36 rfl rfl (by kernel_rfl) (by kernel_rfl) (by kernel_rfl) rfl (by assumption) ?_
        simp only [Act.put, sA, sZ, sS]
        refine takeNot 24 37 rfl rfl (by kernel_rfl) (by kernel_rfl) (by kernel_rfl) rfl (by assumption) ?_
        simp only [Act.put, sA, sZ, sS]
        refine tk 25 38 (v := .bool true) rfl rfl (fun W hW => rfl) ?_
        simp only [Act.put, sA, sZ, sS]
        refine tk 26 39 (v := .bool true) rfl rfl (fun W hW => exec_move rfl rfl) ?_
        simp only [Act.put, sA, sZ, sS]
        refine takeNot 27 40 rfl rfl (by kernel_rfl) (by kernel_rfl) (by kernel_rfl) rfl (by assumption) ?_
        simp only [Act.put, sA, sZ, sS]
        refine takeNot 28 41 rfl rfl (by kernel_rfl) (by kernel_rfl) (by kernel_rfl) rfl (by assumption) ?_
        simp only [Act.put, sA, sZ, sS]
        refine takeNot 29 42 rfl rfl (by kernel_rfl) (by kernel_rfl) (by kernel_rfl) rfl (by assumption) ?_
        simp only [Act.put, sA, sZ, sS]
        refine onlyNot 30 43 rfl rfl (by kernel_rfl) rfl ?_ (.inr (by assumption))
        simp only [Act.put, sA, sZ, sS]
        refine takeNot 31 44 rfl rfl (by kernel_rfl) (by kernel_rfl) (by kernel_rfl) rfl (by assumption) ?_
        simp only [Act.put, sA, sZ, sS]
        refine tk 32 45 (v := .bool true) rfl rfl (fun W hW => rfl) ?_
        simp only [Act.put, sA, sZ, sS]
        refine tk 33 46 (v := .bool true) rfl rfl (fun W hW => exec_move rfl rfl) ?_
        simp only [Act.put, sA, sZ, sS]
        refine takeNot 34 47 rfl rfl (by kernel_rfl) (by kernel_rfl) (by kernel_rfl) rfl (by assumption) ?_
        simp only [Act.put, sA, sZ, sS]
        refine takeNot 35 48 rfl rfl (by kernel_rfl) (by kernel_rfl) (by kernel_rfl) rfl (by assumption) ?_
        simp only [Act.put, sA, sZ, sS]
        refine takeNot 36 49 rfl rfl (by kernel_rfl) (by kernel_rfl) (by kernel_rfl) rfl (by assumption) ?_
        simp only [Act.put, sA, sZ, sS]
        refine onlyNot 37 50 rfl rfl (by kernel_rfl) rfl ?_ (.inr (by assumption))
        simp only [Act.put, sA, sZ, sS]
        refine takeNot 38 51 rfl rfl (by kernel_rfl) (by kernel_rfl) (by kernel_rfl) rfl (by assumption) ?_
        simp only [Act.put, sA, sZ, sS]
        refine tk 39 52 (v := .bool true) rfl rfl (fun W hW => rfl) ?_
        simp only [Act.put, sA, sZ, sS]
        refine done (by kernel_rfl) ?_ _
        have HBF := Lib.hid (below_trans HBN.out hS1)
        clear hl4 hidl hnx hls hf0 hfn hfl hS0 hS hS1 hgl hf1 hf2 hsl hdl hb1
        go_wp2
        go_ret
        exact ⟨by rw [HFIN.out]; rfl, HBF.out⟩
      | true =>
        cases hnx : decide (g.nextRel ≤ nj.id) with
        | true =>
          obtain ⟨hnof, hfaf, honf, hsnf, hoaf⟩ := HLW.out
          have HFIN := Lib.hid (hnof (by rw [hoaf, hok, hnx]; rfl))
          have HOKC := Lib.hid (HOK0.out _ hok)
          have HGE := Lib.hid (HGE0.out _ hnx)
          clear hok hnof hfaf honf hsnf hoaf hnx
          go_wp2_with (first
            | ((with_reducible apply op_load); exact HL1.out; exact rfl)
            | ((with_reducible apply op_store); exact HS.out _ rfl; exact rfl; exact rfl))
          obtain ⟨hl4, hidl, hnx, hls, hf0, hfn, hfl⟩ := HX.out
          obtain ⟨hgl, hf1, hf2, hsl, hdl⟩ := HY.out
          have hS0 := HSB.out
          refine plain_region_draws (fun W => Below (wr.alloc (.cells cs 72)).heap.size (wr.alloc (.cells cs 72)) W) (by kernel_rfl) hS0 (fun hS => ?_)
          refine tk 0 13 (v := .agg cs) rfl rfl (fun W hW => exec_load rfl rfl (hl4 W hW)) ?_
          simp only [Act.put, sA, sZ, sS]
          refine onlyCall 1 14 rfl rfl (by kernel_rfl) rfl (exec_call [.agg cs] rfl rfl Tryz.func101 (by kernel_rfl) (by kernel_rfl)) ?_
          refine (HOKC.out _ hS).mono ?_
          rintro e w1 ⟨rfl, hb1⟩
          have hS1 := below_trans hS hb1
          refine ⟨_, rfl, .inr hS1, ?_⟩
          simp only [Act.put, sA, sZ, sS]
          refine tk 2 15 (v := .bool false) rfl rfl (fun W hW => exec_unot (b := true) rfl rfl) ?_
          simp only [Act.put, sA, sZ, sS]
          refine tk 3 16 (v := .bool false) rfl rfl (fun W hW => exec_move rfl rfl) ?_
          simp only [Act.put, sA, sZ, sS]
          refine tk 4 17 (v := .pointer (some ⟨wr.heap.size, 0, none⟩)) rfl rfl (fun W hW => exec_fieldAddr rfl rfl (hf0 W)) ?_
          simp only [Act.put, sA, sZ, sS]
          refine tk 5 18 (v := .int .i64 nj.id) rfl rfl (fun W hW => exec_load rfl rfl (hidl W hW)) ?_
          simp only [Act.put, sA, sZ, sS]
          refine tk 6 19 (v := .pointer (some ⟨w.heap.size, 3, none⟩)) rfl rfl (fun W hW => exec_fieldAddr rfl rfl (hfn W)) ?_
          simp only [Act.put, sA, sZ, sS]
          refine tk 7 20 (v := .int .i64 g.nextRel) rfl rfl (fun W hW => exec_load rfl rfl (hnx W hW)) ?_
          simp only [Act.put, sA, sZ, sS]
          refine tk 8 21 (v := .bool true) rfl rfl (fun W hW => exec_bini rfl rfl rfl (HGE.out W)) ?_
          simp only [Act.put, sA, sZ, sS]
          refine tk 9 22 (v := .bool true) rfl rfl (fun W hW => rfl) ?_
          simp only [Act.put, sA, sZ, sS]
          refine tk 10 23 (v := .bool true) rfl rfl (fun W hW => exec_move rfl rfl) ?_
          simp only [Act.put, sA, sZ, sS]
          refine takeNot 11 24 rfl rfl (by kernel_rfl) (by kernel_rfl) (by kernel_rfl) rfl (by assumption) ?_
          simp only [Act.put, sA, sZ, sS]
          refine takeNot 12 25 rfl rfl (by kernel_rfl) (by kernel_rfl) (by kernel_rfl) rfl (by assumption) ?_
          simp only [Act.put, sA, sZ, sS]
          refine takeNot 13 26 rfl rfl (by kernel_rfl) (by kernel_rfl) (by kernel_rfl) rfl (by assumption) ?_
          simp only [Act.put, sA, sZ, sS]
          refine takeNot 14 27 rfl rfl (by kernel_rfl) (by kernel_rfl) (by kernel_rfl) rfl (by assumption) ?_
          simp only [Act.put, sA, sZ, sS]
          refine takeNot 15 28 rfl rfl (by kernel_rfl) (by kernel_rfl) (by kernel_rfl) rfl (by assumption) ?_
          simp only [Act.put, sA, sZ, sS]
          refine takeNot 16 29 rfl rfl (by kernel_rfl) (by kernel_rfl) (by kernel_rfl) rfl (by assumption) ?_
          simp only [Act.put, sA, sZ, sS]
          refine takeNot 17 30 rfl rfl (by kernel_rfl) (by kernel_rfl) (by kernel_rfl) rfl (by assumption) ?_
          simp only [Act.put, sA, sZ, sS]
          refine takeNot 18 31 rfl rfl (by kernel_rfl) (by kernel_rfl) (by kernel_rfl) rfl (by assumption) ?_
          simp only [Act.put, sA, sZ, sS]
          refine takeNot 19 32 rfl rfl (by kernel_rfl) (by kernel_rfl) (by kernel_rfl) rfl (by assumption) ?_
          simp only [Act.put, sA, sZ, sS]
          refine takeNot 20 33 rfl rfl (by kernel_rfl) (by kernel_rfl) (by kernel_rfl) rfl (by assumption) ?_
          simp only [Act.put, sA, sZ, sS]
          refine takeNot 21 34 rfl rfl (by kernel_rfl) (by kernel_rfl) (by kernel_rfl) rfl (by assumption) ?_
          simp only [Act.put, sA, sZ, sS]
          refine takeNot 22 35 rfl rfl (by kernel_rfl) (by kernel_rfl) (by kernel_rfl) rfl (by assumption) ?_
          simp only [Act.put, sA, sZ, sS]
          refine takeNot 23 36 rfl rfl (by kernel_rfl) (by kernel_rfl) (by kernel_rfl) rfl (by assumption) ?_
          simp only [Act.put, sA, sZ, sS]
          refine takeNot 24 37 rfl rfl (by kernel_rfl) (by kernel_rfl) (by kernel_rfl) rfl (by assumption) ?_
          simp only [Act.put, sA, sZ, sS]
          refine tk 25 38 (v := .bool true) rfl rfl (fun W hW => rfl) ?_
          simp only [Act.put, sA, sZ, sS]
          refine tk 26 39 (v := .bool true) rfl rfl (fun W hW => exec_move rfl rfl) ?_
          simp only [Act.put, sA, sZ, sS]
          refine takeNot 27 40 rfl rfl (by kernel_rfl) (by kernel_rfl) (by kernel_rfl) rfl (by assumption) ?_
          simp only [Act.put, sA, sZ, sS]
          refine takeNot 28 41 rfl rfl (by kernel_rfl) (by kernel_rfl) (by kernel_rfl) rfl (by assumption) ?_
          simp only [Act.put, sA, sZ, sS]
          refine takeNot 29 42 rfl rfl (by kernel_rfl) (by kernel_rfl) (by kernel_rfl) rfl (by assumption) ?_
          simp only [Act.put, sA, sZ, sS]
          refine onlyNot 30 43 rfl rfl (by kernel_rfl) rfl ?_ (.inr (by assumption))
          simp only [Act.put, sA, sZ, sS]
          refine takeNot 31 44 rfl rfl (by kernel_rfl) (by kernel_rfl) (by kernel_rfl) rfl (by assumption) ?_
          simp only [Act.put, sA, sZ, sS]
          refine tk 32 45 (v := .bool true) rfl rfl (fun W hW => rfl) ?_
          simp only [Act.put, sA, sZ, sS]
          refine tk 33 46 (v := .bool true) rfl rfl (fun W hW => exec_move rfl rfl) ?_
          simp only [Act.put, sA, sZ, sS]
          refine takeNot 34 47 rfl rfl (by kernel_rfl) (by kernel_rfl) (by kernel_rfl) rfl (by assumption) ?_
          simp only [Act.put, sA, sZ, sS]
          refine takeNot 35 48 rfl rfl (by kernel_rfl) (by kernel_rfl) (by kernel_rfl) rfl (by assumption) ?_
          simp only [Act.put, sA, sZ, sS]
          refine takeNot 36 49 rfl rfl (by kernel_rfl) (by kernel_rfl) (by kernel_rfl) rfl (by assumption) ?_
          simp only [Act.put, sA, sZ, sS]
          refine onlyNot 37 50 rfl rfl (by kernel_rfl) rfl ?_ (.inr (by assumption))
          simp only [Act.put, sA, sZ, sS]
          refine takeNot 38 51 rfl rfl (by kernel_rfl) (by kernel_rfl) (by kernel_rfl) rfl (by assumption) ?_
          simp only [Act.put, sA, sZ, sS]
          refine tk 39 52 (v := .bool true) rfl rfl (fun W hW => rfl) ?_
          simp only [Act.put, sA, sZ, sS]
          refine done (by kernel_rfl) ?_ _
          have HBF := Lib.hid (below_trans HBN.out hS1)
          clear hl4 hidl hnx hls hf0 hfn hfl hS0 hS hS1 hgl hf1 hf2 hsl hdl hb1
          go_wp2
          go_ret
          exact ⟨by rw [HFIN.out]; rfl, HBF.out⟩
        | false =>
          cases hj0 : decide (0 < j) with
          | false =>
            cases hsr : hasN g nj.src with
            | false =>
              obtain ⟨hnof, hfaf, honf, hsnf, hoaf⟩ := HLW.out
              have HFIN := Lib.hid (hnof (by rw [hoaf, hok, hnx, hsr]; rfl))
              have HOKC := Lib.hid (HOK0.out _ hok)
              have HGE := Lib.hid (HGE0.out _ hnx)
              have HGT := Lib.hid (HGT0.out _ hj0)
              have HHS := Lib.hid (HHS0.out _ hsr)
              clear hok hnof hfaf honf hsnf hoaf hnx hj0 hsr
              go_wp2_with (first
                | ((with_reducible apply op_load); exact HL1.out; exact rfl)
                | ((with_reducible apply op_store); exact HS.out _ rfl; exact rfl; exact rfl))
              obtain ⟨hl4, hidl, hnx, hls, hf0, hfn, hfl⟩ := HX.out
              obtain ⟨hgl, hf1, hf2, hsl, hdl⟩ := HY.out
              have hS0 := HSB.out
              refine plain_region_draws (fun W => Below (wr.alloc (.cells cs 72)).heap.size (wr.alloc (.cells cs 72)) W) (by kernel_rfl) hS0 (fun hS => ?_)
              refine tk 0 13 (v := .agg cs) rfl rfl (fun W hW => exec_load rfl rfl (hl4 W hW)) ?_
              simp only [Act.put, sA, sZ, sS]
              refine onlyCall 1 14 rfl rfl (by kernel_rfl) rfl (exec_call [.agg cs] rfl rfl Tryz.func101 (by kernel_rfl) (by kernel_rfl)) ?_
              refine (HOKC.out _ hS).mono ?_
              rintro e w1 ⟨rfl, hb1⟩
              have hS1 := below_trans hS hb1
              refine ⟨_, rfl, .inr hS1, ?_⟩
              simp only [Act.put, sA, sZ, sS]
              refine tk 2 15 (v := .bool false) rfl rfl (fun W hW => exec_unot (b := true) rfl rfl) ?_
              simp only [Act.put, sA, sZ, sS]
              refine tk 3 16 (v := .bool false) rfl rfl (fun W hW => exec_move rfl rfl) ?_
              simp only [Act.put, sA, sZ, sS]
              refine tk 4 17 (v := .pointer (some ⟨wr.heap.size, 0, none⟩)) rfl rfl (fun W hW => exec_fieldAddr rfl rfl (hf0 W)) ?_
              simp only [Act.put, sA, sZ, sS]
              refine tk 5 18 (v := .int .i64 nj.id) rfl rfl (fun W hW => exec_load rfl rfl (hidl W hW)) ?_
              simp only [Act.put, sA, sZ, sS]
              refine tk 6 19 (v := .pointer (some ⟨w.heap.size, 3, none⟩)) rfl rfl (fun W hW => exec_fieldAddr rfl rfl (hfn W)) ?_
              simp only [Act.put, sA, sZ, sS]
              refine tk 7 20 (v := .int .i64 g.nextRel) rfl rfl (fun W hW => exec_load rfl rfl (hnx W hW)) ?_
              simp only [Act.put, sA, sZ, sS]
              refine tk 8 21 (v := .bool false) rfl rfl (fun W hW => exec_bini rfl rfl rfl (HGE.out W)) ?_
              simp only [Act.put, sA, sZ, sS]
              refine tk 9 22 (v := .bool false) rfl rfl (fun W hW => rfl) ?_
              simp only [Act.put, sA, sZ, sS]
              refine tk 10 23 (v := .bool false) rfl rfl (fun W hW => exec_move rfl rfl) ?_
              simp only [Act.put, sA, sZ, sS]
              refine tk 11 24 (v := .int .i64 (j : Int)) rfl rfl (fun W hW => exec_move rfl rfl) ?_
              simp only [Act.put, sA, sZ, sS]
              refine tk 12 25 (v := .bool false) rfl rfl (fun W hW => exec_bini rfl rfl rfl (HGT.out W)) ?_
              simp only [Act.put, sA, sZ, sS]
              refine tk 13 26 (v := .bool false) rfl rfl (fun W hW => exec_move rfl rfl) ?_
              simp only [Act.put, sA, sZ, sS]
              refine takeNot 14 27 rfl rfl (by kernel_rfl) (by kernel_rfl) (by kernel_rfl) rfl (by assumption) ?_
              simp only [Act.put, sA, sZ, sS]
              refine takeNot 15 28 rfl rfl (by kernel_rfl) (by kernel_rfl) (by kernel_rfl) rfl (by assumption) ?_
              simp only [Act.put, sA, sZ, sS]
              refine takeNot 16 29 rfl rfl (by kernel_rfl) (by kernel_rfl) (by kernel_rfl) rfl (by assumption) ?_
              simp only [Act.put, sA, sZ, sS]
              refine takeNot 17 30 rfl rfl (by kernel_rfl) (by kernel_rfl) (by kernel_rfl) rfl (by assumption) ?_
              simp only [Act.put, sA, sZ, sS]
              refine takeNot 18 31 rfl rfl (by kernel_rfl) (by kernel_rfl) (by kernel_rfl) rfl (by assumption) ?_
              simp only [Act.put, sA, sZ, sS]
              refine takeNot 19 32 rfl rfl (by kernel_rfl) (by kernel_rfl) (by kernel_rfl) rfl (by assumption) ?_
              simp only [Act.put, sA, sZ, sS]
              refine takeNot 20 33 rfl rfl (by kernel_rfl) (by kernel_rfl) (by kernel_rfl) rfl (by assumption) ?_
              simp only [Act.put, sA, sZ, sS]
              refine takeNot 21 34 rfl rfl (by kernel_rfl) (by kernel_rfl) (by kernel_rfl) rfl (by assumption) ?_
              simp only [Act.put, sA, sZ, sS]
              refine takeNot 22 35 rfl rfl (by kernel_rfl) (by kernel_rfl) (by kernel_rfl) rfl (by assumption) ?_
              simp only [Act.put, sA, sZ, sS]
              refine takeNot 23 36 rfl rfl (by kernel_rfl) (by kernel_rfl) (by kernel_rfl) rfl (by assumption) ?_
              simp only [Act.put, sA, sZ, sS]
              refine tk 24 37 (v := .bool false) rfl rfl (fun W hW => rfl) ?_
              simp only [Act.put, sA, sZ, sS]
              refine tk 25 38 (v := .bool false) rfl rfl (fun W hW => rfl) ?_
              simp only [Act.put, sA, sZ, sS]
              refine tk 26 39 (v := .bool false) rfl rfl (fun W hW => exec_move rfl rfl) ?_
              simp only [Act.put, sA, sZ, sS]
              refine tk 27 40 (v := .agg #[.slice pn g.nodes.length cn, .slice (some ⟨b, of, none⟩) g.rels.length cr, .int .i64 g.nextNode, .int .i64 g.nextRel]) rfl rfl (fun W hW => exec_load rfl rfl (hgl W hW)) ?_
              simp only [Act.put, sA, sZ, sS]
              refine tk 28 41 (v := .pointer (some ⟨wr.heap.size, 1, none⟩)) rfl rfl (fun W hW => exec_fieldAddr rfl rfl (hf1 W)) ?_
              simp only [Act.put, sA, sZ, sS]
              refine tk 29 42 (v := .int .i64 nj.src) rfl rfl (fun W hW => exec_load rfl rfl (hsl W hW)) ?_
              simp only [Act.put, sA, sZ, sS]
              refine onlyCall 30 43 rfl rfl (by kernel_rfl) rfl (exec_call [.agg #[.slice pn g.nodes.length cn, .slice (some ⟨b, of, none⟩) g.rels.length cr, .int .i64 g.nextNode, .int .i64 g.nextRel], .int .i64 nj.src] rfl rfl Tryz.func102 (by kernel_rfl) (by kernel_rfl)) ?_
              refine (HHS.out _ hS1).mono ?_
              rintro e w30 ⟨rfl, hb30⟩
              have hS30 := below_trans hS1 hb30
              refine ⟨_, rfl, .inr hS30, ?_⟩
              simp only [Act.put, sA, sZ, sS]
              refine tk 31 44 (v := .bool true) rfl rfl (fun W hW => exec_unot (b := false) rfl rfl) ?_
              simp only [Act.put, sA, sZ, sS]
              refine tk 32 45 (v := .bool true) rfl rfl (fun W hW => rfl) ?_
              simp only [Act.put, sA, sZ, sS]
              refine tk 33 46 (v := .bool true) rfl rfl (fun W hW => exec_move rfl rfl) ?_
              simp only [Act.put, sA, sZ, sS]
              refine takeNot 34 47 rfl rfl (by kernel_rfl) (by kernel_rfl) (by kernel_rfl) rfl (by assumption) ?_
              simp only [Act.put, sA, sZ, sS]
              refine takeNot 35 48 rfl rfl (by kernel_rfl) (by kernel_rfl) (by kernel_rfl) rfl (by assumption) ?_
              simp only [Act.put, sA, sZ, sS]
              refine takeNot 36 49 rfl rfl (by kernel_rfl) (by kernel_rfl) (by kernel_rfl) rfl (by assumption) ?_
              simp only [Act.put, sA, sZ, sS]
              refine onlyNot 37 50 rfl rfl (by kernel_rfl) rfl ?_ (.inr (by assumption))
              simp only [Act.put, sA, sZ, sS]
              refine takeNot 38 51 rfl rfl (by kernel_rfl) (by kernel_rfl) (by kernel_rfl) rfl (by assumption) ?_
              simp only [Act.put, sA, sZ, sS]
              refine tk 39 52 (v := .bool true) rfl rfl (fun W hW => rfl) ?_
              simp only [Act.put, sA, sZ, sS]
              refine done (by kernel_rfl) ?_ _
              have HBF := Lib.hid (below_trans HBN.out hS30)
              clear hl4 hidl hnx hls hf0 hfn hfl hS0 hS hS1 hS30 hgl hf1 hf2 hsl hdl hb1 hb30
              go_wp2
              go_ret
              exact ⟨by rw [HFIN.out]; rfl, HBF.out⟩
            | true =>
              cases hds : hasN g nj.dst with
              | false =>
                obtain ⟨hnof, hfaf, honf, hsnf, hoaf⟩ := HLW.out
                have HFIN := Lib.hid (hnof (by rw [hoaf, hok, hnx, hsr, hds]; rfl))
                have HOKC := Lib.hid (HOK0.out _ hok)
                have HGE := Lib.hid (HGE0.out _ hnx)
                have HGT := Lib.hid (HGT0.out _ hj0)
                have HHS := Lib.hid (HHS0.out _ hsr)
                have HHD := Lib.hid (HHD0.out _ hds)
                clear hok hnof hfaf honf hsnf hoaf hnx hj0 hsr hds
                go_wp2_with (first
                  | ((with_reducible apply op_load); exact HL1.out; exact rfl)
                  | ((with_reducible apply op_store); exact HS.out _ rfl; exact rfl; exact rfl))
                obtain ⟨hl4, hidl, hnx, hls, hf0, hfn, hfl⟩ := HX.out
                obtain ⟨hgl, hf1, hf2, hsl, hdl⟩ := HY.out
                have hS0 := HSB.out
                refine plain_region_draws (fun W => Below (wr.alloc (.cells cs 72)).heap.size (wr.alloc (.cells cs 72)) W) (by kernel_rfl) hS0 (fun hS => ?_)
                refine tk 0 13 (v := .agg cs) rfl rfl (fun W hW => exec_load rfl rfl (hl4 W hW)) ?_
                simp only [Act.put, sA, sZ, sS]
                refine onlyCall 1 14 rfl rfl (by kernel_rfl) rfl (exec_call [.agg cs] rfl rfl Tryz.func101 (by kernel_rfl) (by kernel_rfl)) ?_
                refine (HOKC.out _ hS).mono ?_
                rintro e w1 ⟨rfl, hb1⟩
                have hS1 := below_trans hS hb1
                refine ⟨_, rfl, .inr hS1, ?_⟩
                simp only [Act.put, sA, sZ, sS]
                refine tk 2 15 (v := .bool false) rfl rfl (fun W hW => exec_unot (b := true) rfl rfl) ?_
                simp only [Act.put, sA, sZ, sS]
                refine tk 3 16 (v := .bool false) rfl rfl (fun W hW => exec_move rfl rfl) ?_
                simp only [Act.put, sA, sZ, sS]
                refine tk 4 17 (v := .pointer (some ⟨wr.heap.size, 0, none⟩)) rfl rfl (fun W hW => exec_fieldAddr rfl rfl (hf0 W)) ?_
                simp only [Act.put, sA, sZ, sS]
                refine tk 5 18 (v := .int .i64 nj.id) rfl rfl (fun W hW => exec_load rfl rfl (hidl W hW)) ?_
                simp only [Act.put, sA, sZ, sS]
                refine tk 6 19 (v := .pointer (some ⟨w.heap.size, 3, none⟩)) rfl rfl (fun W hW => exec_fieldAddr rfl rfl (hfn W)) ?_
                simp only [Act.put, sA, sZ, sS]
                refine tk 7 20 (v := .int .i64 g.nextRel) rfl rfl (fun W hW => exec_load rfl rfl (hnx W hW)) ?_
                simp only [Act.put, sA, sZ, sS]
                refine tk 8 21 (v := .bool false) rfl rfl (fun W hW => exec_bini rfl rfl rfl (HGE.out W)) ?_
                simp only [Act.put, sA, sZ, sS]
                refine tk 9 22 (v := .bool false) rfl rfl (fun W hW => rfl) ?_
                simp only [Act.put, sA, sZ, sS]
                refine tk 10 23 (v := .bool false) rfl rfl (fun W hW => exec_move rfl rfl) ?_
                simp only [Act.put, sA, sZ, sS]
                refine tk 11 24 (v := .int .i64 (j : Int)) rfl rfl (fun W hW => exec_move rfl rfl) ?_
                simp only [Act.put, sA, sZ, sS]
                refine tk 12 25 (v := .bool false) rfl rfl (fun W hW => exec_bini rfl rfl rfl (HGT.out W)) ?_
                simp only [Act.put, sA, sZ, sS]
                refine tk 13 26 (v := .bool false) rfl rfl (fun W hW => exec_move rfl rfl) ?_
                simp only [Act.put, sA, sZ, sS]
                refine takeNot 14 27 rfl rfl (by kernel_rfl) (by kernel_rfl) (by kernel_rfl) rfl (by assumption) ?_
                simp only [Act.put, sA, sZ, sS]
                refine takeNot 15 28 rfl rfl (by kernel_rfl) (by kernel_rfl) (by kernel_rfl) rfl (by assumption) ?_
                simp only [Act.put, sA, sZ, sS]
                refine takeNot 16 29 rfl rfl (by kernel_rfl) (by kernel_rfl) (by kernel_rfl) rfl (by assumption) ?_
                simp only [Act.put, sA, sZ, sS]
                refine takeNot 17 30 rfl rfl (by kernel_rfl) (by kernel_rfl) (by kernel_rfl) rfl (by assumption) ?_
                simp only [Act.put, sA, sZ, sS]
                refine takeNot 18 31 rfl rfl (by kernel_rfl) (by kernel_rfl) (by kernel_rfl) rfl (by assumption) ?_
                simp only [Act.put, sA, sZ, sS]
                refine takeNot 19 32 rfl rfl (by kernel_rfl) (by kernel_rfl) (by kernel_rfl) rfl (by assumption) ?_
                simp only [Act.put, sA, sZ, sS]
                refine takeNot 20 33 rfl rfl (by kernel_rfl) (by kernel_rfl) (by kernel_rfl) rfl (by assumption) ?_
                simp only [Act.put, sA, sZ, sS]
                refine takeNot 21 34 rfl rfl (by kernel_rfl) (by kernel_rfl) (by kernel_rfl) rfl (by assumption) ?_
                simp only [Act.put, sA, sZ, sS]
                refine takeNot 22 35 rfl rfl (by kernel_rfl) (by kernel_rfl) (by kernel_rfl) rfl (by assumption) ?_
                simp only [Act.put, sA, sZ, sS]
                refine takeNot 23 36 rfl rfl (by kernel_rfl) (by kernel_rfl) (by kernel_rfl) rfl (by assumption) ?_
                simp only [Act.put, sA, sZ, sS]
                refine tk 24 37 (v := .bool false) rfl rfl (fun W hW => rfl) ?_
                simp only [Act.put, sA, sZ, sS]
                refine tk 25 38 (v := .bool false) rfl rfl (fun W hW => rfl) ?_
                simp only [Act.put, sA, sZ, sS]
                refine tk 26 39 (v := .bool false) rfl rfl (fun W hW => exec_move rfl rfl) ?_
                simp only [Act.put, sA, sZ, sS]
                refine tk 27 40 (v := .agg #[.slice pn g.nodes.length cn, .slice (some ⟨b, of, none⟩) g.rels.length cr, .int .i64 g.nextNode, .int .i64 g.nextRel]) rfl rfl (fun W hW => exec_load rfl rfl (hgl W hW)) ?_
                simp only [Act.put, sA, sZ, sS]
                refine tk 28 41 (v := .pointer (some ⟨wr.heap.size, 1, none⟩)) rfl rfl (fun W hW => exec_fieldAddr rfl rfl (hf1 W)) ?_
                simp only [Act.put, sA, sZ, sS]
                refine tk 29 42 (v := .int .i64 nj.src) rfl rfl (fun W hW => exec_load rfl rfl (hsl W hW)) ?_
                simp only [Act.put, sA, sZ, sS]
                refine onlyCall 30 43 rfl rfl (by kernel_rfl) rfl (exec_call [.agg #[.slice pn g.nodes.length cn, .slice (some ⟨b, of, none⟩) g.rels.length cr, .int .i64 g.nextNode, .int .i64 g.nextRel], .int .i64 nj.src] rfl rfl Tryz.func102 (by kernel_rfl) (by kernel_rfl)) ?_
                refine (HHS.out _ hS1).mono ?_
                rintro e w30 ⟨rfl, hb30⟩
                have hS30 := below_trans hS1 hb30
                refine ⟨_, rfl, .inr hS30, ?_⟩
                simp only [Act.put, sA, sZ, sS]
                refine tk 31 44 (v := .bool false) rfl rfl (fun W hW => exec_unot (b := true) rfl rfl) ?_
                simp only [Act.put, sA, sZ, sS]
                refine tk 32 45 (v := .bool false) rfl rfl (fun W hW => rfl) ?_
                simp only [Act.put, sA, sZ, sS]
                refine tk 33 46 (v := .bool false) rfl rfl (fun W hW => exec_move rfl rfl) ?_
                simp only [Act.put, sA, sZ, sS]
                refine tk 34 47 (v := .agg #[.slice pn g.nodes.length cn, .slice (some ⟨b, of, none⟩) g.rels.length cr, .int .i64 g.nextNode, .int .i64 g.nextRel]) rfl rfl (fun W hW => exec_load rfl rfl (hgl W hW)) ?_
                simp only [Act.put, sA, sZ, sS]
                refine tk 35 48 (v := .pointer (some ⟨wr.heap.size, 2, none⟩)) rfl rfl (fun W hW => exec_fieldAddr rfl rfl (hf2 W)) ?_
                simp only [Act.put, sA, sZ, sS]
                refine tk 36 49 (v := .int .i64 nj.dst) rfl rfl (fun W hW => exec_load rfl rfl (hdl W hW)) ?_
                simp only [Act.put, sA, sZ, sS]
                refine onlyCall 37 50 rfl rfl (by kernel_rfl) rfl (exec_call [.agg #[.slice pn g.nodes.length cn, .slice (some ⟨b, of, none⟩) g.rels.length cr, .int .i64 g.nextNode, .int .i64 g.nextRel], .int .i64 nj.dst] rfl rfl Tryz.func102 (by kernel_rfl) (by kernel_rfl)) ?_
                refine (HHD.out _ hS30).mono ?_
                rintro e w37 ⟨rfl, hb37⟩
                have hS37 := below_trans hS30 hb37
                refine ⟨_, rfl, .inr hS37, ?_⟩
                simp only [Act.put, sA, sZ, sS]
                refine tk 38 51 (v := .bool true) rfl rfl (fun W hW => exec_unot (b := false) rfl rfl) ?_
                simp only [Act.put, sA, sZ, sS]
                refine tk 39 52 (v := .bool true) rfl rfl (fun W hW => rfl) ?_
                simp only [Act.put, sA, sZ, sS]
                refine done (by kernel_rfl) ?_ _
                have HBF := Lib.hid (below_trans HBN.out hS37)
                clear hl4 hidl hnx hls hf0 hfn hfl hS0 hS hS1 hS30 hS37 hgl hf1 hf2 hsl hdl hb1 hb30 hb37
                go_wp2
                go_ret
                exact ⟨by rw [HFIN.out]; rfl, HBF.out⟩
              | true =>
                obtain ⟨hnof, hfaf, honf, hsnf, hoaf⟩ := HLW.out
                have HFIN := Lib.hid (honf (by simp only [decide_eq_false_iff_not] at hj0; omega) (by rw [hoaf, hok, hnx, hsr, hds]; rfl))
                have HOKC := Lib.hid (HOK0.out _ hok)
                have HGE := Lib.hid (HGE0.out _ hnx)
                have HGT := Lib.hid (HGT0.out _ hj0)
                have HHS := Lib.hid (HHS0.out _ hsr)
                have HHD := Lib.hid (HHD0.out _ hds)
                clear hok hnof hfaf honf hsnf hoaf hnx hj0 hsr hds
                go_wp2_with (first
                  | ((with_reducible apply op_load); exact HL1.out; exact rfl)
                  | ((with_reducible apply op_store); exact HS.out _ rfl; exact rfl; exact rfl))
                obtain ⟨hl4, hidl, hnx, hls, hf0, hfn, hfl⟩ := HX.out
                obtain ⟨hgl, hf1, hf2, hsl, hdl⟩ := HY.out
                have hS0 := HSB.out
                refine plain_region_draws (fun W => Below (wr.alloc (.cells cs 72)).heap.size (wr.alloc (.cells cs 72)) W) (by kernel_rfl) hS0 (fun hS => ?_)
                refine tk 0 13 (v := .agg cs) rfl rfl (fun W hW => exec_load rfl rfl (hl4 W hW)) ?_
                simp only [Act.put, sA, sZ, sS]
                refine onlyCall 1 14 rfl rfl (by kernel_rfl) rfl (exec_call [.agg cs] rfl rfl Tryz.func101 (by kernel_rfl) (by kernel_rfl)) ?_
                refine (HOKC.out _ hS).mono ?_
                rintro e w1 ⟨rfl, hb1⟩
                have hS1 := below_trans hS hb1
                refine ⟨_, rfl, .inr hS1, ?_⟩
                simp only [Act.put, sA, sZ, sS]
                refine tk 2 15 (v := .bool false) rfl rfl (fun W hW => exec_unot (b := true) rfl rfl) ?_
                simp only [Act.put, sA, sZ, sS]
                refine tk 3 16 (v := .bool false) rfl rfl (fun W hW => exec_move rfl rfl) ?_
                simp only [Act.put, sA, sZ, sS]
                refine tk 4 17 (v := .pointer (some ⟨wr.heap.size, 0, none⟩)) rfl rfl (fun W hW => exec_fieldAddr rfl rfl (hf0 W)) ?_
                simp only [Act.put, sA, sZ, sS]
                refine tk 5 18 (v := .int .i64 nj.id) rfl rfl (fun W hW => exec_load rfl rfl (hidl W hW)) ?_
                simp only [Act.put, sA, sZ, sS]
                refine tk 6 19 (v := .pointer (some ⟨w.heap.size, 3, none⟩)) rfl rfl (fun W hW => exec_fieldAddr rfl rfl (hfn W)) ?_
                simp only [Act.put, sA, sZ, sS]
                refine tk 7 20 (v := .int .i64 g.nextRel) rfl rfl (fun W hW => exec_load rfl rfl (hnx W hW)) ?_
                simp only [Act.put, sA, sZ, sS]
                refine tk 8 21 (v := .bool false) rfl rfl (fun W hW => exec_bini rfl rfl rfl (HGE.out W)) ?_
                simp only [Act.put, sA, sZ, sS]
                refine tk 9 22 (v := .bool false) rfl rfl (fun W hW => rfl) ?_
                simp only [Act.put, sA, sZ, sS]
                refine tk 10 23 (v := .bool false) rfl rfl (fun W hW => exec_move rfl rfl) ?_
                simp only [Act.put, sA, sZ, sS]
                refine tk 11 24 (v := .int .i64 (j : Int)) rfl rfl (fun W hW => exec_move rfl rfl) ?_
                simp only [Act.put, sA, sZ, sS]
                refine tk 12 25 (v := .bool false) rfl rfl (fun W hW => exec_bini rfl rfl rfl (HGT.out W)) ?_
                simp only [Act.put, sA, sZ, sS]
                refine tk 13 26 (v := .bool false) rfl rfl (fun W hW => exec_move rfl rfl) ?_
                simp only [Act.put, sA, sZ, sS]
                refine takeNot 14 27 rfl rfl (by kernel_rfl) (by kernel_rfl) (by kernel_rfl) rfl (by assumption) ?_
                simp only [Act.put, sA, sZ, sS]
                refine takeNot 15 28 rfl rfl (by kernel_rfl) (by kernel_rfl) (by kernel_rfl) rfl (by assumption) ?_
                simp only [Act.put, sA, sZ, sS]
                refine takeNot 16 29 rfl rfl (by kernel_rfl) (by kernel_rfl) (by kernel_rfl) rfl (by assumption) ?_
                simp only [Act.put, sA, sZ, sS]
                refine takeNot 17 30 rfl rfl (by kernel_rfl) (by kernel_rfl) (by kernel_rfl) rfl (by assumption) ?_
                simp only [Act.put, sA, sZ, sS]
                refine takeNot 18 31 rfl rfl (by kernel_rfl) (by kernel_rfl) (by kernel_rfl) rfl (by assumption) ?_
                simp only [Act.put, sA, sZ, sS]
                refine takeNot 19 32 rfl rfl (by kernel_rfl) (by kernel_rfl) (by kernel_rfl) rfl (by assumption) ?_
                simp only [Act.put, sA, sZ, sS]
                refine takeNot 20 33 rfl rfl (by kernel_rfl) (by kernel_rfl) (by kernel_rfl) rfl (by assumption) ?_
                simp only [Act.put, sA, sZ, sS]
                refine takeNot 21 34 rfl rfl (by kernel_rfl) (by kernel_rfl) (by kernel_rfl) rfl (by assumption) ?_
                simp only [Act.put, sA, sZ, sS]
                refine takeNot 22 35 rfl rfl (by kernel_rfl) (by kernel_rfl) (by kernel_rfl) rfl (by assumption) ?_
                simp only [Act.put, sA, sZ, sS]
                refine takeNot 23 36 rfl rfl (by kernel_rfl) (by kernel_rfl) (by kernel_rfl) rfl (by assumption) ?_
                simp only [Act.put, sA, sZ, sS]
                refine tk 24 37 (v := .bool false) rfl rfl (fun W hW => rfl) ?_
                simp only [Act.put, sA, sZ, sS]
                refine tk 25 38 (v := .bool false) rfl rfl (fun W hW => rfl) ?_
                simp only [Act.put, sA, sZ, sS]
                refine tk 26 39 (v := .bool false) rfl rfl (fun W hW => exec_move rfl rfl) ?_
                simp only [Act.put, sA, sZ, sS]
                refine tk 27 40 (v := .agg #[.slice pn g.nodes.length cn, .slice (some ⟨b, of, none⟩) g.rels.length cr, .int .i64 g.nextNode, .int .i64 g.nextRel]) rfl rfl (fun W hW => exec_load rfl rfl (hgl W hW)) ?_
                simp only [Act.put, sA, sZ, sS]
                refine tk 28 41 (v := .pointer (some ⟨wr.heap.size, 1, none⟩)) rfl rfl (fun W hW => exec_fieldAddr rfl rfl (hf1 W)) ?_
                simp only [Act.put, sA, sZ, sS]
                refine tk 29 42 (v := .int .i64 nj.src) rfl rfl (fun W hW => exec_load rfl rfl (hsl W hW)) ?_
                simp only [Act.put, sA, sZ, sS]
                refine onlyCall 30 43 rfl rfl (by kernel_rfl) rfl (exec_call [.agg #[.slice pn g.nodes.length cn, .slice (some ⟨b, of, none⟩) g.rels.length cr, .int .i64 g.nextNode, .int .i64 g.nextRel], .int .i64 nj.src] rfl rfl Tryz.func102 (by kernel_rfl) (by kernel_rfl)) ?_
                refine (HHS.out _ hS1).mono ?_
                rintro e w30 ⟨rfl, hb30⟩
                have hS30 := below_trans hS1 hb30
                refine ⟨_, rfl, .inr hS30, ?_⟩
                simp only [Act.put, sA, sZ, sS]
                refine tk 31 44 (v := .bool false) rfl rfl (fun W hW => exec_unot (b := true) rfl rfl) ?_
                simp only [Act.put, sA, sZ, sS]
                refine tk 32 45 (v := .bool false) rfl rfl (fun W hW => rfl) ?_
                simp only [Act.put, sA, sZ, sS]
                refine tk 33 46 (v := .bool false) rfl rfl (fun W hW => exec_move rfl rfl) ?_
                simp only [Act.put, sA, sZ, sS]
                refine tk 34 47 (v := .agg #[.slice pn g.nodes.length cn, .slice (some ⟨b, of, none⟩) g.rels.length cr, .int .i64 g.nextNode, .int .i64 g.nextRel]) rfl rfl (fun W hW => exec_load rfl rfl (hgl W hW)) ?_
                simp only [Act.put, sA, sZ, sS]
                refine tk 35 48 (v := .pointer (some ⟨wr.heap.size, 2, none⟩)) rfl rfl (fun W hW => exec_fieldAddr rfl rfl (hf2 W)) ?_
                simp only [Act.put, sA, sZ, sS]
                refine tk 36 49 (v := .int .i64 nj.dst) rfl rfl (fun W hW => exec_load rfl rfl (hdl W hW)) ?_
                simp only [Act.put, sA, sZ, sS]
                refine onlyCall 37 50 rfl rfl (by kernel_rfl) rfl (exec_call [.agg #[.slice pn g.nodes.length cn, .slice (some ⟨b, of, none⟩) g.rels.length cr, .int .i64 g.nextNode, .int .i64 g.nextRel], .int .i64 nj.dst] rfl rfl Tryz.func102 (by kernel_rfl) (by kernel_rfl)) ?_
                refine (HHD.out _ hS30).mono ?_
                rintro e w37 ⟨rfl, hb37⟩
                have hS37 := below_trans hS30 hb37
                refine ⟨_, rfl, .inr hS37, ?_⟩
                simp only [Act.put, sA, sZ, sS]
                refine tk 38 51 (v := .bool false) rfl rfl (fun W hW => exec_unot (b := true) rfl rfl) ?_
                simp only [Act.put, sA, sZ, sS]
                refine tk 39 52 (v := .bool false) rfl rfl (fun W hW => rfl) ?_
                simp only [Act.put, sA, sZ, sS]
                refine done (by kernel_rfl) ?_ _
                have HBX := Lib.hid (below_trans (below_trans HI.out.2 (below_new (w := wr) (.cells cs 72))) hS37)
                clear hl4 hidl hnx hls hf0 hfn hfl hS0 hS hS1 hS30 hS37 hgl hf1 hf2 hsl hdl hb1 hb30 hb37
                go_wp2
                go_roundw
                case rel => exact ⟨j + 1, hlt1, by go_num, Lib.hid ⟨HFIN.out, HBX.out⟩⟩
                case measure => simp [intOf]; omega
          | true =>
            obtain ⟨k, hke⟩ : ∃ k, k + 1 = j := ⟨j - 1, by simp only [decide_eq_true_eq] at hj0; omega⟩
            have hkl : k < g.rels.length := by omega
            have HK := Lib.hid (HKP.out k hke hkl)
            have hfk := HLW.out.2.1 k hke hkl
            have hsk := HLW.out.2.2.2.1 k hke hkl
            clear hke HKP
            generalize g.rels[k] = nk at *
            cases hpv : decide (nj.id ≤ nk.id) with
            | true =>
              obtain ⟨hnof, hfaf, honf, hsnf, hoaf⟩ := HLW.out
              have HFIN := Lib.hid (hfk (by simpa using hpv))
              have HOKC := Lib.hid (HOK0.out _ hok)
              have HGE := Lib.hid (HGE0.out _ hnx)
              have HGT := Lib.hid (HGT0.out _ hj0)
              have HG2 := Lib.hid (HK.out.2.2.2.2 _ hpv)
              clear hok hnof hfaf honf hsnf hoaf hnx hj0 hpv hfk hsk
              go_wp2_with (first
                | ((with_reducible apply op_load); exact HL1.out; exact rfl)
                | ((with_reducible apply op_store); exact HS.out _ rfl; exact rfl; exact rfl))
              obtain ⟨hl4, hidl, hnx, hls, hf0, hfn, hfl⟩ := HX.out
              obtain ⟨hgl, hf1, hf2, hsl, hdl⟩ := HY.out
              obtain ⟨hsb, hix, hfp, hpv, _⟩ := HK.out
              have hS0 := HSB.out
              refine plain_region_draws (fun W => Below (wr.alloc (.cells cs 72)).heap.size (wr.alloc (.cells cs 72)) W) (by kernel_rfl) hS0 (fun hS => ?_)
              refine tk 0 13 (v := .agg cs) rfl rfl (fun W hW => exec_load rfl rfl (hl4 W hW)) ?_
              simp only [Act.put, sA, sZ, sS]
              refine onlyCall 1 14 rfl rfl (by kernel_rfl) rfl (exec_call [.agg cs] rfl rfl Tryz.func101 (by kernel_rfl) (by kernel_rfl)) ?_
              refine (HOKC.out _ hS).mono ?_
              rintro e w1 ⟨rfl, hb1⟩
              have hS1 := below_trans hS hb1
              refine ⟨_, rfl, .inr hS1, ?_⟩
              simp only [Act.put, sA, sZ, sS]
              refine tk 2 15 (v := .bool false) rfl rfl (fun W hW => exec_unot (b := true) rfl rfl) ?_
              simp only [Act.put, sA, sZ, sS]
              refine tk 3 16 (v := .bool false) rfl rfl (fun W hW => exec_move rfl rfl) ?_
              simp only [Act.put, sA, sZ, sS]
              refine tk 4 17 (v := .pointer (some ⟨wr.heap.size, 0, none⟩)) rfl rfl (fun W hW => exec_fieldAddr rfl rfl (hf0 W)) ?_
              simp only [Act.put, sA, sZ, sS]
              refine tk 5 18 (v := .int .i64 nj.id) rfl rfl (fun W hW => exec_load rfl rfl (hidl W hW)) ?_
              simp only [Act.put, sA, sZ, sS]
              refine tk 6 19 (v := .pointer (some ⟨w.heap.size, 3, none⟩)) rfl rfl (fun W hW => exec_fieldAddr rfl rfl (hfn W)) ?_
              simp only [Act.put, sA, sZ, sS]
              refine tk 7 20 (v := .int .i64 g.nextRel) rfl rfl (fun W hW => exec_load rfl rfl (hnx W hW)) ?_
              simp only [Act.put, sA, sZ, sS]
              refine tk 8 21 (v := .bool false) rfl rfl (fun W hW => exec_bini rfl rfl rfl (HGE.out W)) ?_
              simp only [Act.put, sA, sZ, sS]
              refine tk 9 22 (v := .bool false) rfl rfl (fun W hW => rfl) ?_
              simp only [Act.put, sA, sZ, sS]
              refine tk 10 23 (v := .bool false) rfl rfl (fun W hW => exec_move rfl rfl) ?_
              simp only [Act.put, sA, sZ, sS]
              refine tk 11 24 (v := .int .i64 (j : Int)) rfl rfl (fun W hW => exec_move rfl rfl) ?_
              simp only [Act.put, sA, sZ, sS]
              refine tk 12 25 (v := .bool true) rfl rfl (fun W hW => exec_bini rfl rfl rfl (HGT.out W)) ?_
              simp only [Act.put, sA, sZ, sS]
              refine tk 13 26 (v := .bool true) rfl rfl (fun W hW => exec_move rfl rfl) ?_
              simp only [Act.put, sA, sZ, sS]
              refine tk 14 27 (v := .pointer (some ⟨w.heap.size, 1, none⟩)) rfl rfl (fun W hW => exec_fieldAddr rfl rfl (hfl W)) ?_
              simp only [Act.put, sA, sZ, sS]
              refine tk 15 28 (v := .slice (some ⟨b, of, none⟩) g.rels.length cr) rfl rfl (fun W hW => exec_load rfl rfl (hls W hW)) ?_
              simp only [Act.put, sA, sZ, sS]
              refine tk 16 29 (v := .int .i64 (j : Int)) rfl rfl (fun W hW => exec_move rfl rfl) ?_
              simp only [Act.put, sA, sZ, sS]
              refine tk 17 30 (v := .int .i64 (k : Int)) rfl rfl (fun W hW => exec_bini rfl rfl rfl (hsb W)) ?_
              simp only [Act.put, sA, sZ, sS]
              refine tk 18 31 (v := .pointer (some ⟨b, of + k * 5, none⟩)) rfl rfl (fun W hW => exec_indexAddr rfl rfl rfl (hix W)) ?_
              simp only [Act.put, sA, sZ, sS]
              refine tk 19 32 (v := .pointer (some ⟨b, of + k * 5, none⟩)) rfl rfl (fun W hW => exec_fieldAddr rfl rfl (hfp W)) ?_
              simp only [Act.put, sA, sZ, sS]
              refine tk 20 33 (v := .int .i64 nk.id) rfl rfl (fun W hW => exec_load rfl rfl (hpv W hW)) ?_
              simp only [Act.put, sA, sZ, sS]
              refine tk 21 34 (v := .pointer (some ⟨wr.heap.size, 0, none⟩)) rfl rfl (fun W hW => exec_fieldAddr rfl rfl (hf0 W)) ?_
              simp only [Act.put, sA, sZ, sS]
              refine tk 22 35 (v := .int .i64 nj.id) rfl rfl (fun W hW => exec_load rfl rfl (hidl W hW)) ?_
              simp only [Act.put, sA, sZ, sS]
              refine tk 23 36 (v := .bool true) rfl rfl (fun W hW => exec_bini rfl rfl rfl (HG2.out W)) ?_
              simp only [Act.put, sA, sZ, sS]
              refine tk 24 37 (v := .bool true) rfl rfl (fun W hW => rfl) ?_
              simp only [Act.put, sA, sZ, sS]
              refine tk 25 38 (v := .bool true) rfl rfl (fun W hW => rfl) ?_
              simp only [Act.put, sA, sZ, sS]
              refine tk 26 39 (v := .bool true) rfl rfl (fun W hW => exec_move rfl rfl) ?_
              simp only [Act.put, sA, sZ, sS]
              refine takeNot 27 40 rfl rfl (by kernel_rfl) (by kernel_rfl) (by kernel_rfl) rfl (by assumption) ?_
              simp only [Act.put, sA, sZ, sS]
              refine takeNot 28 41 rfl rfl (by kernel_rfl) (by kernel_rfl) (by kernel_rfl) rfl (by assumption) ?_
              simp only [Act.put, sA, sZ, sS]
              refine takeNot 29 42 rfl rfl (by kernel_rfl) (by kernel_rfl) (by kernel_rfl) rfl (by assumption) ?_
              simp only [Act.put, sA, sZ, sS]
              refine onlyNot 30 43 rfl rfl (by kernel_rfl) rfl ?_ (.inr (by assumption))
              simp only [Act.put, sA, sZ, sS]
              refine takeNot 31 44 rfl rfl (by kernel_rfl) (by kernel_rfl) (by kernel_rfl) rfl (by assumption) ?_
              simp only [Act.put, sA, sZ, sS]
              refine tk 32 45 (v := .bool true) rfl rfl (fun W hW => rfl) ?_
              simp only [Act.put, sA, sZ, sS]
              refine tk 33 46 (v := .bool true) rfl rfl (fun W hW => exec_move rfl rfl) ?_
              simp only [Act.put, sA, sZ, sS]
              refine takeNot 34 47 rfl rfl (by kernel_rfl) (by kernel_rfl) (by kernel_rfl) rfl (by assumption) ?_
              simp only [Act.put, sA, sZ, sS]
              refine takeNot 35 48 rfl rfl (by kernel_rfl) (by kernel_rfl) (by kernel_rfl) rfl (by assumption) ?_
              simp only [Act.put, sA, sZ, sS]
              refine takeNot 36 49 rfl rfl (by kernel_rfl) (by kernel_rfl) (by kernel_rfl) rfl (by assumption) ?_
              simp only [Act.put, sA, sZ, sS]
              refine onlyNot 37 50 rfl rfl (by kernel_rfl) rfl ?_ (.inr (by assumption))
              simp only [Act.put, sA, sZ, sS]
              refine takeNot 38 51 rfl rfl (by kernel_rfl) (by kernel_rfl) (by kernel_rfl) rfl (by assumption) ?_
              simp only [Act.put, sA, sZ, sS]
              refine tk 39 52 (v := .bool true) rfl rfl (fun W hW => rfl) ?_
              simp only [Act.put, sA, sZ, sS]
              refine done (by kernel_rfl) ?_ _
              have HBF := Lib.hid (below_trans HBN.out hS1)
              clear hl4 hidl hnx hls hf0 hfn hfl hS0 hS hS1 hgl hf1 hf2 hsl hdl hsb hix hfp hpv hb1
              go_wp2
              go_ret
              exact ⟨by rw [HFIN.out]; rfl, HBF.out⟩
            | false =>
              cases hsr : hasN g nj.src with
              | false =>
                obtain ⟨hnof, hfaf, honf, hsnf, hoaf⟩ := HLW.out
                have HFIN := Lib.hid (hnof (by rw [hoaf, hok, hnx, hsr]; rfl))
                have HOKC := Lib.hid (HOK0.out _ hok)
                have HGE := Lib.hid (HGE0.out _ hnx)
                have HGT := Lib.hid (HGT0.out _ hj0)
                have HG2 := Lib.hid (HK.out.2.2.2.2 _ hpv)
                have HHS := Lib.hid (HHS0.out _ hsr)
                clear hok hnof hfaf honf hsnf hoaf hnx hj0 hpv hfk hsk hsr
                go_wp2_with (first
                  | ((with_reducible apply op_load); exact HL1.out; exact rfl)
                  | ((with_reducible apply op_store); exact HS.out _ rfl; exact rfl; exact rfl))
                obtain ⟨hl4, hidl, hnx, hls, hf0, hfn, hfl⟩ := HX.out
                obtain ⟨hgl, hf1, hf2, hsl, hdl⟩ := HY.out
                obtain ⟨hsb, hix, hfp, hpv, _⟩ := HK.out
                have hS0 := HSB.out
                refine plain_region_draws (fun W => Below (wr.alloc (.cells cs 72)).heap.size (wr.alloc (.cells cs 72)) W) (by kernel_rfl) hS0 (fun hS => ?_)
                refine tk 0 13 (v := .agg cs) rfl rfl (fun W hW => exec_load rfl rfl (hl4 W hW)) ?_
                simp only [Act.put, sA, sZ, sS]
                refine onlyCall 1 14 rfl rfl (by kernel_rfl) rfl (exec_call [.agg cs] rfl rfl Tryz.func101 (by kernel_rfl) (by kernel_rfl)) ?_
                refine (HOKC.out _ hS).mono ?_
                rintro e w1 ⟨rfl, hb1⟩
                have hS1 := below_trans hS hb1
                refine ⟨_, rfl, .inr hS1, ?_⟩
                simp only [Act.put, sA, sZ, sS]
                refine tk 2 15 (v := .bool false) rfl rfl (fun W hW => exec_unot (b := true) rfl rfl) ?_
                simp only [Act.put, sA, sZ, sS]
                refine tk 3 16 (v := .bool false) rfl rfl (fun W hW => exec_move rfl rfl) ?_
                simp only [Act.put, sA, sZ, sS]
                refine tk 4 17 (v := .pointer (some ⟨wr.heap.size, 0, none⟩)) rfl rfl (fun W hW => exec_fieldAddr rfl rfl (hf0 W)) ?_
                simp only [Act.put, sA, sZ, sS]
                refine tk 5 18 (v := .int .i64 nj.id) rfl rfl (fun W hW => exec_load rfl rfl (hidl W hW)) ?_
                simp only [Act.put, sA, sZ, sS]
                refine tk 6 19 (v := .pointer (some ⟨w.heap.size, 3, none⟩)) rfl rfl (fun W hW => exec_fieldAddr rfl rfl (hfn W)) ?_
                simp only [Act.put, sA, sZ, sS]
                refine tk 7 20 (v := .int .i64 g.nextRel) rfl rfl (fun W hW => exec_load rfl rfl (hnx W hW)) ?_
                simp only [Act.put, sA, sZ, sS]
                refine tk 8 21 (v := .bool false) rfl rfl (fun W hW => exec_bini rfl rfl rfl (HGE.out W)) ?_
                simp only [Act.put, sA, sZ, sS]
                refine tk 9 22 (v := .bool false) rfl rfl (fun W hW => rfl) ?_
                simp only [Act.put, sA, sZ, sS]
                refine tk 10 23 (v := .bool false) rfl rfl (fun W hW => exec_move rfl rfl) ?_
                simp only [Act.put, sA, sZ, sS]
                refine tk 11 24 (v := .int .i64 (j : Int)) rfl rfl (fun W hW => exec_move rfl rfl) ?_
                simp only [Act.put, sA, sZ, sS]
                refine tk 12 25 (v := .bool true) rfl rfl (fun W hW => exec_bini rfl rfl rfl (HGT.out W)) ?_
                simp only [Act.put, sA, sZ, sS]
                refine tk 13 26 (v := .bool true) rfl rfl (fun W hW => exec_move rfl rfl) ?_
                simp only [Act.put, sA, sZ, sS]
                refine tk 14 27 (v := .pointer (some ⟨w.heap.size, 1, none⟩)) rfl rfl (fun W hW => exec_fieldAddr rfl rfl (hfl W)) ?_
                simp only [Act.put, sA, sZ, sS]
                refine tk 15 28 (v := .slice (some ⟨b, of, none⟩) g.rels.length cr) rfl rfl (fun W hW => exec_load rfl rfl (hls W hW)) ?_
                simp only [Act.put, sA, sZ, sS]
                refine tk 16 29 (v := .int .i64 (j : Int)) rfl rfl (fun W hW => exec_move rfl rfl) ?_
                simp only [Act.put, sA, sZ, sS]
                refine tk 17 30 (v := .int .i64 (k : Int)) rfl rfl (fun W hW => exec_bini rfl rfl rfl (hsb W)) ?_
                simp only [Act.put, sA, sZ, sS]
                refine tk 18 31 (v := .pointer (some ⟨b, of + k * 5, none⟩)) rfl rfl (fun W hW => exec_indexAddr rfl rfl rfl (hix W)) ?_
                simp only [Act.put, sA, sZ, sS]
                refine tk 19 32 (v := .pointer (some ⟨b, of + k * 5, none⟩)) rfl rfl (fun W hW => exec_fieldAddr rfl rfl (hfp W)) ?_
                simp only [Act.put, sA, sZ, sS]
                refine tk 20 33 (v := .int .i64 nk.id) rfl rfl (fun W hW => exec_load rfl rfl (hpv W hW)) ?_
                simp only [Act.put, sA, sZ, sS]
                refine tk 21 34 (v := .pointer (some ⟨wr.heap.size, 0, none⟩)) rfl rfl (fun W hW => exec_fieldAddr rfl rfl (hf0 W)) ?_
                simp only [Act.put, sA, sZ, sS]
                refine tk 22 35 (v := .int .i64 nj.id) rfl rfl (fun W hW => exec_load rfl rfl (hidl W hW)) ?_
                simp only [Act.put, sA, sZ, sS]
                refine tk 23 36 (v := .bool false) rfl rfl (fun W hW => exec_bini rfl rfl rfl (HG2.out W)) ?_
                simp only [Act.put, sA, sZ, sS]
                refine tk 24 37 (v := .bool false) rfl rfl (fun W hW => rfl) ?_
                simp only [Act.put, sA, sZ, sS]
                refine tk 25 38 (v := .bool false) rfl rfl (fun W hW => rfl) ?_
                simp only [Act.put, sA, sZ, sS]
                refine tk 26 39 (v := .bool false) rfl rfl (fun W hW => exec_move rfl rfl) ?_
                simp only [Act.put, sA, sZ, sS]
                refine tk 27 40 (v := .agg #[.slice pn g.nodes.length cn, .slice (some ⟨b, of, none⟩) g.rels.length cr, .int .i64 g.nextNode, .int .i64 g.nextRel]) rfl rfl (fun W hW => exec_load rfl rfl (hgl W hW)) ?_
                simp only [Act.put, sA, sZ, sS]
                refine tk 28 41 (v := .pointer (some ⟨wr.heap.size, 1, none⟩)) rfl rfl (fun W hW => exec_fieldAddr rfl rfl (hf1 W)) ?_
                simp only [Act.put, sA, sZ, sS]
                refine tk 29 42 (v := .int .i64 nj.src) rfl rfl (fun W hW => exec_load rfl rfl (hsl W hW)) ?_
                simp only [Act.put, sA, sZ, sS]
                refine onlyCall 30 43 rfl rfl (by kernel_rfl) rfl (exec_call [.agg #[.slice pn g.nodes.length cn, .slice (some ⟨b, of, none⟩) g.rels.length cr, .int .i64 g.nextNode, .int .i64 g.nextRel], .int .i64 nj.src] rfl rfl Tryz.func102 (by kernel_rfl) (by kernel_rfl)) ?_
                refine (HHS.out _ hS1).mono ?_
                rintro e w30 ⟨rfl, hb30⟩
                have hS30 := below_trans hS1 hb30
                refine ⟨_, rfl, .inr hS30, ?_⟩
                simp only [Act.put, sA, sZ, sS]
                refine tk 31 44 (v := .bool true) rfl rfl (fun W hW => exec_unot (b := false) rfl rfl) ?_
                simp only [Act.put, sA, sZ, sS]
                refine tk 32 45 (v := .bool true) rfl rfl (fun W hW => rfl) ?_
                simp only [Act.put, sA, sZ, sS]
                refine tk 33 46 (v := .bool true) rfl rfl (fun W hW => exec_move rfl rfl) ?_
                simp only [Act.put, sA, sZ, sS]
                refine takeNot 34 47 rfl rfl (by kernel_rfl) (by kernel_rfl) (by kernel_rfl) rfl (by assumption) ?_
                simp only [Act.put, sA, sZ, sS]
                refine takeNot 35 48 rfl rfl (by kernel_rfl) (by kernel_rfl) (by kernel_rfl) rfl (by assumption) ?_
                simp only [Act.put, sA, sZ, sS]
                refine takeNot 36 49 rfl rfl (by kernel_rfl) (by kernel_rfl) (by kernel_rfl) rfl (by assumption) ?_
                simp only [Act.put, sA, sZ, sS]
                refine onlyNot 37 50 rfl rfl (by kernel_rfl) rfl ?_ (.inr (by assumption))
                simp only [Act.put, sA, sZ, sS]
                refine takeNot 38 51 rfl rfl (by kernel_rfl) (by kernel_rfl) (by kernel_rfl) rfl (by assumption) ?_
                simp only [Act.put, sA, sZ, sS]
                refine tk 39 52 (v := .bool true) rfl rfl (fun W hW => rfl) ?_
                simp only [Act.put, sA, sZ, sS]
                refine done (by kernel_rfl) ?_ _
                have HBF := Lib.hid (below_trans HBN.out hS30)
                clear hl4 hidl hnx hls hf0 hfn hfl hS0 hS hS1 hS30 hgl hf1 hf2 hsl hdl hsb hix hfp hpv hb1 hb30
                go_wp2
                go_ret
                exact ⟨by rw [HFIN.out]; rfl, HBF.out⟩
              | true =>
                cases hds : hasN g nj.dst with
                | false =>
                  obtain ⟨hnof, hfaf, honf, hsnf, hoaf⟩ := HLW.out
                  have HFIN := Lib.hid (hnof (by rw [hoaf, hok, hnx, hsr, hds]; rfl))
                  have HOKC := Lib.hid (HOK0.out _ hok)
                  have HGE := Lib.hid (HGE0.out _ hnx)
                  have HGT := Lib.hid (HGT0.out _ hj0)
                  have HG2 := Lib.hid (HK.out.2.2.2.2 _ hpv)
                  have HHS := Lib.hid (HHS0.out _ hsr)
                  have HHD := Lib.hid (HHD0.out _ hds)
                  clear hok hnof hfaf honf hsnf hoaf hnx hj0 hpv hfk hsk hsr hds
                  go_wp2_with (first
                    | ((with_reducible apply op_load); exact HL1.out; exact rfl)
                    | ((with_reducible apply op_store); exact HS.out _ rfl; exact rfl; exact rfl))
                  obtain ⟨hl4, hidl, hnx, hls, hf0, hfn, hfl⟩ := HX.out
                  obtain ⟨hgl, hf1, hf2, hsl, hdl⟩ := HY.out
                  obtain ⟨hsb, hix, hfp, hpv, _⟩ := HK.out
                  have hS0 := HSB.out
                  refine plain_region_draws (fun W => Below (wr.alloc (.cells cs 72)).heap.size (wr.alloc (.cells cs 72)) W) (by kernel_rfl) hS0 (fun hS => ?_)
                  refine tk 0 13 (v := .agg cs) rfl rfl (fun W hW => exec_load rfl rfl (hl4 W hW)) ?_
                  simp only [Act.put, sA, sZ, sS]
                  refine onlyCall 1 14 rfl rfl (by kernel_rfl) rfl (exec_call [.agg cs] rfl rfl Tryz.func101 (by kernel_rfl) (by kernel_rfl)) ?_
                  refine (HOKC.out _ hS).mono ?_
                  rintro e w1 ⟨rfl, hb1⟩
                  have hS1 := below_trans hS hb1
                  refine ⟨_, rfl, .inr hS1, ?_⟩
                  simp only [Act.put, sA, sZ, sS]
                  refine tk 2 15 (v := .bool false) rfl rfl (fun W hW => exec_unot (b := true) rfl rfl) ?_
                  simp only [Act.put, sA, sZ, sS]
                  refine tk 3 16 (v := .bool false) rfl rfl (fun W hW => exec_move rfl rfl) ?_
                  simp only [Act.put, sA, sZ, sS]
                  refine tk 4 17 (v := .pointer (some ⟨wr.heap.size, 0, none⟩)) rfl rfl (fun W hW => exec_fieldAddr rfl rfl (hf0 W)) ?_
                  simp only [Act.put, sA, sZ, sS]
                  refine tk 5 18 (v := .int .i64 nj.id) rfl rfl (fun W hW => exec_load rfl rfl (hidl W hW)) ?_
                  simp only [Act.put, sA, sZ, sS]
                  refine tk 6 19 (v := .pointer (some ⟨w.heap.size, 3, none⟩)) rfl rfl (fun W hW => exec_fieldAddr rfl rfl (hfn W)) ?_
                  simp only [Act.put, sA, sZ, sS]
                  refine tk 7 20 (v := .int .i64 g.nextRel) rfl rfl (fun W hW => exec_load rfl rfl (hnx W hW)) ?_
                  simp only [Act.put, sA, sZ, sS]
                  refine tk 8 21 (v := .bool false) rfl rfl (fun W hW => exec_bini rfl rfl rfl (HGE.out W)) ?_
                  simp only [Act.put, sA, sZ, sS]
                  refine tk 9 22 (v := .bool false) rfl rfl (fun W hW => rfl) ?_
                  simp only [Act.put, sA, sZ, sS]
                  refine tk 10 23 (v := .bool false) rfl rfl (fun W hW => exec_move rfl rfl) ?_
                  simp only [Act.put, sA, sZ, sS]
                  refine tk 11 24 (v := .int .i64 (j : Int)) rfl rfl (fun W hW => exec_move rfl rfl) ?_
                  simp only [Act.put, sA, sZ, sS]
                  refine tk 12 25 (v := .bool true) rfl rfl (fun W hW => exec_bini rfl rfl rfl (HGT.out W)) ?_
                  simp only [Act.put, sA, sZ, sS]
                  refine tk 13 26 (v := .bool true) rfl rfl (fun W hW => exec_move rfl rfl) ?_
                  simp only [Act.put, sA, sZ, sS]
                  refine tk 14 27 (v := .pointer (some ⟨w.heap.size, 1, none⟩)) rfl rfl (fun W hW => exec_fieldAddr rfl rfl (hfl W)) ?_
                  simp only [Act.put, sA, sZ, sS]
                  refine tk 15 28 (v := .slice (some ⟨b, of, none⟩) g.rels.length cr) rfl rfl (fun W hW => exec_load rfl rfl (hls W hW)) ?_
                  simp only [Act.put, sA, sZ, sS]
                  refine tk 16 29 (v := .int .i64 (j : Int)) rfl rfl (fun W hW => exec_move rfl rfl) ?_
                  simp only [Act.put, sA, sZ, sS]
                  refine tk 17 30 (v := .int .i64 (k : Int)) rfl rfl (fun W hW => exec_bini rfl rfl rfl (hsb W)) ?_
                  simp only [Act.put, sA, sZ, sS]
                  refine tk 18 31 (v := .pointer (some ⟨b, of + k * 5, none⟩)) rfl rfl (fun W hW => exec_indexAddr rfl rfl rfl (hix W)) ?_
                  simp only [Act.put, sA, sZ, sS]
                  refine tk 19 32 (v := .pointer (some ⟨b, of + k * 5, none⟩)) rfl rfl (fun W hW => exec_fieldAddr rfl rfl (hfp W)) ?_
                  simp only [Act.put, sA, sZ, sS]
                  refine tk 20 33 (v := .int .i64 nk.id) rfl rfl (fun W hW => exec_load rfl rfl (hpv W hW)) ?_
                  simp only [Act.put, sA, sZ, sS]
                  refine tk 21 34 (v := .pointer (some ⟨wr.heap.size, 0, none⟩)) rfl rfl (fun W hW => exec_fieldAddr rfl rfl (hf0 W)) ?_
                  simp only [Act.put, sA, sZ, sS]
                  refine tk 22 35 (v := .int .i64 nj.id) rfl rfl (fun W hW => exec_load rfl rfl (hidl W hW)) ?_
                  simp only [Act.put, sA, sZ, sS]
                  refine tk 23 36 (v := .bool false) rfl rfl (fun W hW => exec_bini rfl rfl rfl (HG2.out W)) ?_
                  simp only [Act.put, sA, sZ, sS]
                  refine tk 24 37 (v := .bool false) rfl rfl (fun W hW => rfl) ?_
                  simp only [Act.put, sA, sZ, sS]
                  refine tk 25 38 (v := .bool false) rfl rfl (fun W hW => rfl) ?_
                  simp only [Act.put, sA, sZ, sS]
                  refine tk 26 39 (v := .bool false) rfl rfl (fun W hW => exec_move rfl rfl) ?_
                  simp only [Act.put, sA, sZ, sS]
                  refine tk 27 40 (v := .agg #[.slice pn g.nodes.length cn, .slice (some ⟨b, of, none⟩) g.rels.length cr, .int .i64 g.nextNode, .int .i64 g.nextRel]) rfl rfl (fun W hW => exec_load rfl rfl (hgl W hW)) ?_
                  simp only [Act.put, sA, sZ, sS]
                  refine tk 28 41 (v := .pointer (some ⟨wr.heap.size, 1, none⟩)) rfl rfl (fun W hW => exec_fieldAddr rfl rfl (hf1 W)) ?_
                  simp only [Act.put, sA, sZ, sS]
                  refine tk 29 42 (v := .int .i64 nj.src) rfl rfl (fun W hW => exec_load rfl rfl (hsl W hW)) ?_
                  simp only [Act.put, sA, sZ, sS]
                  refine onlyCall 30 43 rfl rfl (by kernel_rfl) rfl (exec_call [.agg #[.slice pn g.nodes.length cn, .slice (some ⟨b, of, none⟩) g.rels.length cr, .int .i64 g.nextNode, .int .i64 g.nextRel], .int .i64 nj.src] rfl rfl Tryz.func102 (by kernel_rfl) (by kernel_rfl)) ?_
                  refine (HHS.out _ hS1).mono ?_
                  rintro e w30 ⟨rfl, hb30⟩
                  have hS30 := below_trans hS1 hb30
                  refine ⟨_, rfl, .inr hS30, ?_⟩
                  simp only [Act.put, sA, sZ, sS]
                  refine tk 31 44 (v := .bool false) rfl rfl (fun W hW => exec_unot (b := true) rfl rfl) ?_
                  simp only [Act.put, sA, sZ, sS]
                  refine tk 32 45 (v := .bool false) rfl rfl (fun W hW => rfl) ?_
                  simp only [Act.put, sA, sZ, sS]
                  refine tk 33 46 (v := .bool false) rfl rfl (fun W hW => exec_move rfl rfl) ?_
                  simp only [Act.put, sA, sZ, sS]
                  refine tk 34 47 (v := .agg #[.slice pn g.nodes.length cn, .slice (some ⟨b, of, none⟩) g.rels.length cr, .int .i64 g.nextNode, .int .i64 g.nextRel]) rfl rfl (fun W hW => exec_load rfl rfl (hgl W hW)) ?_
                  simp only [Act.put, sA, sZ, sS]
                  refine tk 35 48 (v := .pointer (some ⟨wr.heap.size, 2, none⟩)) rfl rfl (fun W hW => exec_fieldAddr rfl rfl (hf2 W)) ?_
                  simp only [Act.put, sA, sZ, sS]
                  refine tk 36 49 (v := .int .i64 nj.dst) rfl rfl (fun W hW => exec_load rfl rfl (hdl W hW)) ?_
                  simp only [Act.put, sA, sZ, sS]
                  refine onlyCall 37 50 rfl rfl (by kernel_rfl) rfl (exec_call [.agg #[.slice pn g.nodes.length cn, .slice (some ⟨b, of, none⟩) g.rels.length cr, .int .i64 g.nextNode, .int .i64 g.nextRel], .int .i64 nj.dst] rfl rfl Tryz.func102 (by kernel_rfl) (by kernel_rfl)) ?_
                  refine (HHD.out _ hS30).mono ?_
                  rintro e w37 ⟨rfl, hb37⟩
                  have hS37 := below_trans hS30 hb37
                  refine ⟨_, rfl, .inr hS37, ?_⟩
                  simp only [Act.put, sA, sZ, sS]
                  refine tk 38 51 (v := .bool true) rfl rfl (fun W hW => exec_unot (b := false) rfl rfl) ?_
                  simp only [Act.put, sA, sZ, sS]
                  refine tk 39 52 (v := .bool true) rfl rfl (fun W hW => rfl) ?_
                  simp only [Act.put, sA, sZ, sS]
                  refine done (by kernel_rfl) ?_ _
                  have HBF := Lib.hid (below_trans HBN.out hS37)
                  clear hl4 hidl hnx hls hf0 hfn hfl hS0 hS hS1 hS30 hS37 hgl hf1 hf2 hsl hdl hsb hix hfp hpv hb1 hb30 hb37
                  go_wp2
                  go_ret
                  exact ⟨by rw [HFIN.out]; rfl, HBF.out⟩
                | true =>
                  obtain ⟨hnof, hfaf, honf, hsnf, hoaf⟩ := HLW.out
                  have HFIN := Lib.hid (hsk (by rw [hoaf, hok, hnx, hsr, hds]; rfl) (by simpa using hpv))
                  have HOKC := Lib.hid (HOK0.out _ hok)
                  have HGE := Lib.hid (HGE0.out _ hnx)
                  have HGT := Lib.hid (HGT0.out _ hj0)
                  have HG2 := Lib.hid (HK.out.2.2.2.2 _ hpv)
                  have HHS := Lib.hid (HHS0.out _ hsr)
                  have HHD := Lib.hid (HHD0.out _ hds)
                  clear hok hnof hfaf honf hsnf hoaf hnx hj0 hpv hfk hsk hsr hds
                  go_wp2_with (first
                    | ((with_reducible apply op_load); exact HL1.out; exact rfl)
                    | ((with_reducible apply op_store); exact HS.out _ rfl; exact rfl; exact rfl))
                  obtain ⟨hl4, hidl, hnx, hls, hf0, hfn, hfl⟩ := HX.out
                  obtain ⟨hgl, hf1, hf2, hsl, hdl⟩ := HY.out
                  obtain ⟨hsb, hix, hfp, hpv, _⟩ := HK.out
                  have hS0 := HSB.out
                  refine plain_region_draws (fun W => Below (wr.alloc (.cells cs 72)).heap.size (wr.alloc (.cells cs 72)) W) (by kernel_rfl) hS0 (fun hS => ?_)
                  refine tk 0 13 (v := .agg cs) rfl rfl (fun W hW => exec_load rfl rfl (hl4 W hW)) ?_
                  simp only [Act.put, sA, sZ, sS]
                  refine onlyCall 1 14 rfl rfl (by kernel_rfl) rfl (exec_call [.agg cs] rfl rfl Tryz.func101 (by kernel_rfl) (by kernel_rfl)) ?_
                  refine (HOKC.out _ hS).mono ?_
                  rintro e w1 ⟨rfl, hb1⟩
                  have hS1 := below_trans hS hb1
                  refine ⟨_, rfl, .inr hS1, ?_⟩
                  simp only [Act.put, sA, sZ, sS]
                  refine tk 2 15 (v := .bool false) rfl rfl (fun W hW => exec_unot (b := true) rfl rfl) ?_
                  simp only [Act.put, sA, sZ, sS]
                  refine tk 3 16 (v := .bool false) rfl rfl (fun W hW => exec_move rfl rfl) ?_
                  simp only [Act.put, sA, sZ, sS]
                  refine tk 4 17 (v := .pointer (some ⟨wr.heap.size, 0, none⟩)) rfl rfl (fun W hW => exec_fieldAddr rfl rfl (hf0 W)) ?_
                  simp only [Act.put, sA, sZ, sS]
                  refine tk 5 18 (v := .int .i64 nj.id) rfl rfl (fun W hW => exec_load rfl rfl (hidl W hW)) ?_
                  simp only [Act.put, sA, sZ, sS]
                  refine tk 6 19 (v := .pointer (some ⟨w.heap.size, 3, none⟩)) rfl rfl (fun W hW => exec_fieldAddr rfl rfl (hfn W)) ?_
                  simp only [Act.put, sA, sZ, sS]
                  refine tk 7 20 (v := .int .i64 g.nextRel) rfl rfl (fun W hW => exec_load rfl rfl (hnx W hW)) ?_
                  simp only [Act.put, sA, sZ, sS]
                  refine tk 8 21 (v := .bool false) rfl rfl (fun W hW => exec_bini rfl rfl rfl (HGE.out W)) ?_
                  simp only [Act.put, sA, sZ, sS]
                  refine tk 9 22 (v := .bool false) rfl rfl (fun W hW => rfl) ?_
                  simp only [Act.put, sA, sZ, sS]
                  refine tk 10 23 (v := .bool false) rfl rfl (fun W hW => exec_move rfl rfl) ?_
                  simp only [Act.put, sA, sZ, sS]
                  refine tk 11 24 (v := .int .i64 (j : Int)) rfl rfl (fun W hW => exec_move rfl rfl) ?_
                  simp only [Act.put, sA, sZ, sS]
                  refine tk 12 25 (v := .bool true) rfl rfl (fun W hW => exec_bini rfl rfl rfl (HGT.out W)) ?_
                  simp only [Act.put, sA, sZ, sS]
                  refine tk 13 26 (v := .bool true) rfl rfl (fun W hW => exec_move rfl rfl) ?_
                  simp only [Act.put, sA, sZ, sS]
                  refine tk 14 27 (v := .pointer (some ⟨w.heap.size, 1, none⟩)) rfl rfl (fun W hW => exec_fieldAddr rfl rfl (hfl W)) ?_
                  simp only [Act.put, sA, sZ, sS]
                  refine tk 15 28 (v := .slice (some ⟨b, of, none⟩) g.rels.length cr) rfl rfl (fun W hW => exec_load rfl rfl (hls W hW)) ?_
                  simp only [Act.put, sA, sZ, sS]
                  refine tk 16 29 (v := .int .i64 (j : Int)) rfl rfl (fun W hW => exec_move rfl rfl) ?_
                  simp only [Act.put, sA, sZ, sS]
                  refine tk 17 30 (v := .int .i64 (k : Int)) rfl rfl (fun W hW => exec_bini rfl rfl rfl (hsb W)) ?_
                  simp only [Act.put, sA, sZ, sS]
                  refine tk 18 31 (v := .pointer (some ⟨b, of + k * 5, none⟩)) rfl rfl (fun W hW => exec_indexAddr rfl rfl rfl (hix W)) ?_
                  simp only [Act.put, sA, sZ, sS]
                  refine tk 19 32 (v := .pointer (some ⟨b, of + k * 5, none⟩)) rfl rfl (fun W hW => exec_fieldAddr rfl rfl (hfp W)) ?_
                  simp only [Act.put, sA, sZ, sS]
                  refine tk 20 33 (v := .int .i64 nk.id) rfl rfl (fun W hW => exec_load rfl rfl (hpv W hW)) ?_
                  simp only [Act.put, sA, sZ, sS]
                  refine tk 21 34 (v := .pointer (some ⟨wr.heap.size, 0, none⟩)) rfl rfl (fun W hW => exec_fieldAddr rfl rfl (hf0 W)) ?_
                  simp only [Act.put, sA, sZ, sS]
                  refine tk 22 35 (v := .int .i64 nj.id) rfl rfl (fun W hW => exec_load rfl rfl (hidl W hW)) ?_
                  simp only [Act.put, sA, sZ, sS]
                  refine tk 23 36 (v := .bool false) rfl rfl (fun W hW => exec_bini rfl rfl rfl (HG2.out W)) ?_
                  simp only [Act.put, sA, sZ, sS]
                  refine tk 24 37 (v := .bool false) rfl rfl (fun W hW => rfl) ?_
                  simp only [Act.put, sA, sZ, sS]
                  refine tk 25 38 (v := .bool false) rfl rfl (fun W hW => rfl) ?_
                  simp only [Act.put, sA, sZ, sS]
                  refine tk 26 39 (v := .bool false) rfl rfl (fun W hW => exec_move rfl rfl) ?_
                  simp only [Act.put, sA, sZ, sS]
                  refine tk 27 40 (v := .agg #[.slice pn g.nodes.length cn, .slice (some ⟨b, of, none⟩) g.rels.length cr, .int .i64 g.nextNode, .int .i64 g.nextRel]) rfl rfl (fun W hW => exec_load rfl rfl (hgl W hW)) ?_
                  simp only [Act.put, sA, sZ, sS]
                  refine tk 28 41 (v := .pointer (some ⟨wr.heap.size, 1, none⟩)) rfl rfl (fun W hW => exec_fieldAddr rfl rfl (hf1 W)) ?_
                  simp only [Act.put, sA, sZ, sS]
                  refine tk 29 42 (v := .int .i64 nj.src) rfl rfl (fun W hW => exec_load rfl rfl (hsl W hW)) ?_
                  simp only [Act.put, sA, sZ, sS]
                  refine onlyCall 30 43 rfl rfl (by kernel_rfl) rfl (exec_call [.agg #[.slice pn g.nodes.length cn, .slice (some ⟨b, of, none⟩) g.rels.length cr, .int .i64 g.nextNode, .int .i64 g.nextRel], .int .i64 nj.src] rfl rfl Tryz.func102 (by kernel_rfl) (by kernel_rfl)) ?_
                  refine (HHS.out _ hS1).mono ?_
                  rintro e w30 ⟨rfl, hb30⟩
                  have hS30 := below_trans hS1 hb30
                  refine ⟨_, rfl, .inr hS30, ?_⟩
                  simp only [Act.put, sA, sZ, sS]
                  refine tk 31 44 (v := .bool false) rfl rfl (fun W hW => exec_unot (b := true) rfl rfl) ?_
                  simp only [Act.put, sA, sZ, sS]
                  refine tk 32 45 (v := .bool false) rfl rfl (fun W hW => rfl) ?_
                  simp only [Act.put, sA, sZ, sS]
                  refine tk 33 46 (v := .bool false) rfl rfl (fun W hW => exec_move rfl rfl) ?_
                  simp only [Act.put, sA, sZ, sS]
                  refine tk 34 47 (v := .agg #[.slice pn g.nodes.length cn, .slice (some ⟨b, of, none⟩) g.rels.length cr, .int .i64 g.nextNode, .int .i64 g.nextRel]) rfl rfl (fun W hW => exec_load rfl rfl (hgl W hW)) ?_
                  simp only [Act.put, sA, sZ, sS]
                  refine tk 35 48 (v := .pointer (some ⟨wr.heap.size, 2, none⟩)) rfl rfl (fun W hW => exec_fieldAddr rfl rfl (hf2 W)) ?_
                  simp only [Act.put, sA, sZ, sS]
                  refine tk 36 49 (v := .int .i64 nj.dst) rfl rfl (fun W hW => exec_load rfl rfl (hdl W hW)) ?_
                  simp only [Act.put, sA, sZ, sS]
                  refine onlyCall 37 50 rfl rfl (by kernel_rfl) rfl (exec_call [.agg #[.slice pn g.nodes.length cn, .slice (some ⟨b, of, none⟩) g.rels.length cr, .int .i64 g.nextNode, .int .i64 g.nextRel], .int .i64 nj.dst] rfl rfl Tryz.func102 (by kernel_rfl) (by kernel_rfl)) ?_
                  refine (HHD.out _ hS30).mono ?_
                  rintro e w37 ⟨rfl, hb37⟩
                  have hS37 := below_trans hS30 hb37
                  refine ⟨_, rfl, .inr hS37, ?_⟩
                  simp only [Act.put, sA, sZ, sS]
                  refine tk 38 51 (v := .bool false) rfl rfl (fun W hW => exec_unot (b := true) rfl rfl) ?_
                  simp only [Act.put, sA, sZ, sS]
                  refine tk 39 52 (v := .bool false) rfl rfl (fun W hW => rfl) ?_
                  simp only [Act.put, sA, sZ, sS]
                  refine done (by kernel_rfl) ?_ _
                  have HBX := Lib.hid (below_trans (below_trans HI.out.2 (below_new (w := wr) (.cells cs 72))) hS37)
                  clear hl4 hidl hnx hls hf0 hfn hfl hS0 hS hS1 hS30 hS37 hgl hf1 hf2 hsl hdl hsb hix hfp hpv hb1 hb30 hb37
                  go_wp2
                  go_roundw
                  case rel => exact ⟨j + 1, hlt1, by go_num, Lib.hid ⟨HFIN.out, HBX.out⟩⟩
                  case measure => simp [intOf]; omega
    · obtain rfl : j = g.rels.length := by omega
      have HF := Lib.hid (And.intro HI.out.1.last (below_trans HB0.out HI.out.2))
      clear HI
      go_wp2
      go_ret
      exact ⟨by rw [HF.out.1]; rfl, HF.out.2⟩
end Go.Proofs.YthdfedfholmbmaaGreatDoor

namespace Go.Proofs.YthdfedfholmbmaaGreatDoor
open Go.RowKit
theorem gsizes_any {w : World} {g : GraphD} {x : Array Value} (h : GrRd w g x) : Calls Tryz.prog 43 #[.agg x] w fun e w' => e = .returned (.bool (okSz g)) ∧ Below w.heap.size w w' := by
  obtain ⟨pn, cn, pr, cr, rfl, hn, hrl⟩ := h
  have z1 : (g.nodes.length : Int) ≤ 140737488355328 := by have := hn.1.2.1; omega
  have z2 : (g.rels.length : Int) ≤ 140737488355328 := by have := hrl.1.2.1; omega
  have hadd := fun W => add_int (i := g.nodes.length) (j := g.rels.length) (by omega) W
  have hle : ∀ W' : World, (binOp .leq 3 (.int .i64 ((g.nodes.length + g.rels.length : Nat) : Int)) (.int .i64 65536)).run Tryz.prog W' = .ok (.bool (decide (g.nodes.length + g.rels.length ≤ 65536))) W' := by
    intro W'
    have e : decide (g.nodes.length + g.rels.length ≤ 65536) = decide (((g.nodes.length + g.rels.length : Nat) : Int) ≤ 65536) := by
      rw [Bool.eq_iff_iff]; simp only [decide_eq_true_eq]; omega
    rw [e]; simp [go_sem]
  have hok : okSz g = (decide (g.nodes.length + g.rels.length ≤ 65536) && decide (0 ≤ g.nextNode) && decide (g.nextNode ≤ 4611686018427387904) && decide (0 ≤ g.nextRel) && decide (g.nextRel ≤ 4611686018427387904)) := rfl
  have HB := Lib.hid (below_new (w := w) (.cells #[.slice pn g.nodes.length cn, .slice pr g.rels.length cr, .int .i64 g.nextNode, .int .i64 g.nextRel] 25))
  have HA := Lib.hid hadd
  rw [hok]
  clear hn hrl hadd hok z1 z2
  cases h1 : decide (g.nodes.length + g.rels.length ≤ 65536) <;> cases h2 : decide (0 ≤ g.nextNode) <;> cases h3 : decide (g.nextNode ≤ 4611686018427387904) <;> cases h4 : decide (0 ≤ g.nextRel) <;> cases h5 : decide (g.nextRel ≤ 4611686018427387904)
  all_goals
    rw [h1] at hle
    have HL := Lib.hid hle
    clear hle h1
    go_enter Tryz.func43, Tryz.ntmps43
    go_wp2_with (first
      | ((with_reducible apply op_binu); exact HA.out _; exact rfl; exact rfl)
      | ((with_reducible apply op_binu); exact HL.out _; exact rfl; exact rfl))
    go_ret
    exact ⟨by simp, HB.out⟩
end Go.Proofs.YthdfedfholmbmaaGreatDoor

namespace Go.Proofs.YthdfedfholmbmaaGreatDoor
open Go.RowKit
def errG (b : Bool) : Int := if b then 0 else 2
theorem check_graph {w : World} (hE : Env w) {g : GraphD} {x : Array Value} (h : GrRd w g x) (ht : totG g ≤ 1000000) : Calls Tryz.prog 13 #[.agg x] w fun e w' => e = .returned (.int .i64 (errG (okG g))) ∧ Below w.heap.size w w' := by
  have hx := h
  obtain ⟨pn, cn, pr, cr, rfl, hn, hrl⟩ := h
  have hb := below_new (w := w) (.cells #[.slice pn g.nodes.length cn, .slice pr g.rels.length cr, .int .i64 g.nextNode, .int .i64 g.nextRel] 25)
  have hb2 : Below w.heap.size w ((w.alloc (.cells #[.slice pn g.nodes.length cn, .slice pr g.rels.length cr, .int .i64 g.nextNode, .int .i64 g.nextRel] 25)).alloc (.cells #[.func (.func 43) #[] #[], .func (.func 44) #[] #[], .func (.func 45) #[] #[]] 27)) := hb.alloc (by simp) _
  have hg : ((w.alloc (.cells #[.slice pn g.nodes.length cn, .slice pr g.rels.length cr, .int .i64 g.nextNode, .int .i64 g.nextRel] 25)).alloc (.cells #[.func (.func 43) #[] #[], .func (.func 44) #[] #[], .func (.func 45) #[] #[]] 27)).heap[w.heap.size]? = some (.cells #[.slice pn g.nodes.length cn, .slice pr g.rels.length cr, .int .i64 g.nextNode, .int .i64 g.nextRel] 25 (0, 0)) := by
    simp only [heap_get_alloc, World.size_alloc]; rw [if_neg (by omega), if_pos trivial]
  have hf : ((w.alloc (.cells #[.slice pn g.nodes.length cn, .slice pr g.rels.length cr, .int .i64 g.nextNode, .int .i64 g.nextRel] 25)).alloc (.cells #[.func (.func 43) #[] #[], .func (.func 44) #[] #[], .func (.func 45) #[] #[]] 27)).heap[w.heap.size + 1]? = some (.cells #[.func (.func 43) #[] #[], .func (.func 44) #[] #[], .func (.func 45) #[] #[]] 27 (0, 0)) := by
    simp only [heap_get_alloc, World.size_alloc]; rw [if_pos trivial]
  have hsz : ((w.alloc (.cells #[.slice pn g.nodes.length cn, .slice pr g.rels.length cr, .int .i64 g.nextNode, .int .i64 g.nextRel] 25)).alloc (.cells #[.func (.func 43) #[] #[], .func (.func 44) #[] #[], .func (.func 45) #[] #[]] 27)).heap.size = w.heap.size + 2 := by simp
  have HH := Lib.hid (And.intro hE (And.intro hx (And.intro hb2 (And.intro hg (And.intro hf hsz)))))
  have HT := Lib.hid ht
  have HOK := Lib.hid (show okG g = (okSz g && okNs g && okRs g) from rfl)
  clear hE hx hn hrl hb hb2 hg hf hsz ht
  go_enter Tryz.func13, Tryz.ntmps13
  go_wp2
  generalize ((w.alloc (.cells #[.slice pn g.nodes.length cn, .slice pr g.rels.length cr, .int .i64 g.nextNode, .int .i64 g.nextRel] 25)).alloc (.cells #[.func (.func 43) #[] #[], .func (.func 44) #[] #[], .func (.func 45) #[] #[]] 27)) = w1 at *
  go_loopw [7] (fun i W => ∃ j : Nat, j ≤ 3 ∧ i = .int .i64 (j : Int) ∧ Hid ((1 ≤ j → okSz g = true) ∧ (2 ≤ j → okNs g = true) ∧ (3 ≤ j → okRs g = true) ∧ Below w1.heap.size w1 W)) (fun i _ => 3 - (intOf i).toNat)
  case atStart => exact ⟨0, by omega, rfl, Lib.hid ⟨by omega, by omega, by omega, Below.refl _ _⟩⟩
  case round =>
    obtain ⟨j, hj, rfl, HI⟩ := hrel
    obtain ⟨hE, hx, hb2, hg, hf, hsz⟩ := HH.out
    obtain ⟨k1, k2, k3, hB⟩ := HI.out
    have hE3 := (hE.b hb2).b hB
    have hx3 := (hx.below hb2).below hB
    have hgl := st_graph.get (P := Tryz.prog) (W := wr) rfl (belowBlk hB (by omega) hg)
    have hfc := belowBlk hB (by omega) hf
    have HG := Lib.hid hgl
    have HBX := Lib.hid hB
    have HBW := Lib.hid (below_trans hb2 hB)
    obtain h0 | h1 | h2 | h3 : j = 0 ∨ j = 1 ∨ j = 2 ∨ j = 3 := by omega
    · subst h0
      have hfn := cellOf (o := 0) hfc rfl
      have HC := Lib.hid (gsizes_any hx3)
      have HK := Lib.hid (And.intro k1 (And.intro k2 k3))
      cases hok : okSz g with
      | false =>
        rw [hok] at HC
        have HFIN := Lib.hid (show okG g = false by rw [HOK.out, hok]; simp)
        clear hok hE hx hb2 hg hf hsz k1 k2 k3 hB hE3 hx3 hgl hfc HH HI HT HOK
        go_wp2_with (first
          | ((with_reducible apply op_load); exact HG.out; exact rfl)
          | (go_at_call 43; refine HC.out.mono ?_; rintro e W2 ⟨rfl, hb⟩; have HB2 := Lib.hid (below_trans HBW.out hb); clear hb))
        go_ret
        exact ⟨by rw [HFIN.out]; rfl, HB2.out⟩
      | true =>
        rw [hok] at HC
        have HOKT := Lib.hid hok
        clear hok hE hx hb2 hg hf hsz k1 k2 k3 hB hE3 hx3 hgl hfc HH HI HT HOK
        go_wp2_with (first
          | ((with_reducible apply op_load); exact HG.out; exact rfl)
          | (go_at_call 43; refine HC.out.mono ?_; rintro e W2 ⟨rfl, hb⟩; have HB2 := Lib.hid (below_trans HBX.out hb); clear hb))
        go_roundw
        case rel => exact ⟨1, by omega, by go_num, Lib.hid ⟨fun _ => (by first | exact HOKT.out | trivial), by omega, by omega, HB2.out⟩⟩
        case measure => simp [intOf]
    · subst h1
      have hfn := cellOf (o := 1) hfc rfl
      have HC := Lib.hid (gnodes_any hE3 hx3 HT.out)
      have HK := Lib.hid (And.intro k1 (And.intro k2 k3))
      cases hok : okNs g with
      | false =>
        rw [hok] at HC
        have HFIN := Lib.hid (show okG g = false by rw [HOK.out, hok]; simp)
        clear hok hE hx hb2 hg hf hsz k1 k2 k3 hB hE3 hx3 hgl hfc HH HI HT HOK
        go_wp2_with (first
          | ((with_reducible apply op_load); exact HG.out; exact rfl)
          | (go_at_call 44; refine HC.out.mono ?_; rintro e W2 ⟨rfl, hb⟩; have HB2 := Lib.hid (below_trans HBW.out hb); clear hb))
        go_ret
        exact ⟨by rw [HFIN.out]; rfl, HB2.out⟩
      | true =>
        rw [hok] at HC
        have HOKT := Lib.hid hok
        clear hok hE hx hb2 hg hf hsz k1 k2 k3 hB hE3 hx3 hgl hfc HH HI HT HOK
        go_wp2_with (first
          | ((with_reducible apply op_load); exact HG.out; exact rfl)
          | (go_at_call 44; refine HC.out.mono ?_; rintro e W2 ⟨rfl, hb⟩; have HB2 := Lib.hid (below_trans HBX.out hb); clear hb))
        go_roundw
        case rel => exact ⟨2, by omega, by go_num, Lib.hid ⟨fun _ => HK.out.1 (by omega), fun _ => (by first | exact HOKT.out | trivial), by omega, HB2.out⟩⟩
        case measure => simp [intOf]
    · subst h2
      have hfn := cellOf (o := 2) hfc rfl
      have HC := Lib.hid (grels_any hE3 hx3 (by have h := k2 (by omega); rw [okNs_eq, Bool.and_eq_true] at h; exact h.2) HT.out)
      have HK := Lib.hid (And.intro k1 (And.intro k2 k3))
      cases hok : okRs g with
      | false =>
        rw [hok] at HC
        have HFIN := Lib.hid (show okG g = false by rw [HOK.out, hok]; simp)
        clear hok hE hx hb2 hg hf hsz k1 k2 k3 hB hE3 hx3 hgl hfc HH HI HT HOK
        go_wp2_with (first
          | ((with_reducible apply op_load); exact HG.out; exact rfl)
          | (go_at_call 45; refine HC.out.mono ?_; rintro e W2 ⟨rfl, hb⟩; have HB2 := Lib.hid (below_trans HBW.out hb); clear hb))
        go_ret
        exact ⟨by rw [HFIN.out]; rfl, HB2.out⟩
      | true =>
        rw [hok] at HC
        have HOKT := Lib.hid hok
        clear hok hE hx hb2 hg hf hsz k1 k2 k3 hB hE3 hx3 hgl hfc HH HI HT HOK
        go_wp2_with (first
          | ((with_reducible apply op_load); exact HG.out; exact rfl)
          | (go_at_call 45; refine HC.out.mono ?_; rintro e W2 ⟨rfl, hb⟩; have HB2 := Lib.hid (below_trans HBX.out hb); clear hb))
        go_roundw
        case rel => exact ⟨3, by omega, by go_num, Lib.hid ⟨fun _ => HK.out.1 (by omega), fun _ => HK.out.2.1 (by omega), fun _ => (by first | exact HOKT.out | trivial), HB2.out⟩⟩
        case measure => simp [intOf]
    · subst h3
      have HFIN := Lib.hid (And.intro (show okG g = true by rw [HOK.out, k1 (by omega), k2 (by omega), k3 (by omega)]; rfl) (below_trans hb2 hB))
      clear hE hx hb2 hg hf hsz k1 k2 k3 hB hE3 hx3 hgl hfc HH HI HT HOK
      go_wp2
      go_ret
      exact ⟨by rw [HFIN.out.1]; rfl, HFIN.out.2⟩
end Go.Proofs.YthdfedfholmbmaaGreatDoor

namespace Go.Proofs.YthdfedfholmbmaaGreatDoor
open Go.RowKit
def Out (w : World) (b : List UInt8) (err : Int) (e : Ending) (W' : World) : Prop :=
  ∃ o, e = .returned (.tuple #[o, .int .i64 err]) ∧ OwnsP W' (fun x => w.heap.size ≤ x) 5 1 o b.length (b.map byteV) ∧ Below w.heap.size w W'
theorem own_none (W : World) (P : Nat → Prop) : OwnsP W P 5 1 (.slice none 0 0) ([] : List UInt8).length (([] : List UInt8).map byteV) :=
  ⟨⟨by simp, .inl ⟨rfl, rfl⟩⟩, fun g hg => by simp [Value.ownBlock] at hg⟩
theorem writer_new (W : World) : WS 83 W (W.alloc (.cells #[.slice none 0 0] 83)) W.heap.size [] (.slice none 0 0) :=
  WS.start (below_new _) (heap_alloc_new W _) (Nat.le_refl _)
def outG (g : GraphD) : List UInt8 := if okG g then graphC g else []
theorem codecGraph_any {w : World} (hE : Env w) {g : GraphD} {x : Array Value} (hx : GrRd w g x) (hr : rngG g) (ht : totG g ≤ 1000000) : Calls Tryz.prog 11 #[.agg x] w (Out w (outG g) (errG (okG g))) := by
  have hwf : okG g = true → wfG g := fun h => wf_of_okG h hr (by omega)
  have hlen : (graphC g).length ≤ 64000040 := by have := graphC_len hr (by omega); omega
  have hx0 := hx
  obtain ⟨pn, cn, pr, cr, rfl, hn, hrl⟩ := hx
  have hb := below_new (w := w) (.cells #[.slice pn g.nodes.length cn, .slice pr g.rels.length cr, .int .i64 g.nextNode, .int .i64 g.nextRel] 25)
  have hg := heap_alloc_new w (.cells #[.slice pn g.nodes.length cn, .slice pr g.rels.length cr, .int .i64 g.nextNode, .int .i64 g.nextRel] 25)
  have hl1 := st_graph.get (P := Tryz.prog) (W := w.alloc (.cells #[.slice pn g.nodes.length cn, .slice pr g.rels.length cr, .int .i64 g.nextNode, .int .i64 g.nextRel] 25)) rfl hg
  have hc := check_graph (hE.b hb) (hx0.below hb) ht
  have hu1 : IntKind.u64.wrap g.nextNode = (toU g.nextNode : Int) := wrap_toU hr.2.2.1
  have hu2 : IntKind.u64.wrap g.nextRel = (toU g.nextRel : Int) := wrap_toU hr.2.2.2
  have HU := Lib.hid (And.intro (conv_u64 hr.2.2.1) (conv_u64 hr.2.2.2))
  have HUT := Lib.hid (And.intro (toI_toU hr.2.2.1).1 (toI_toU hr.2.2.2).1)
  have HL1 := Lib.hid hl1
  have HC := Lib.hid hc
  have HX := Lib.hid (And.intro hn (And.intro hrl (And.intro hb hg)))
  have HW := Lib.hid (And.intro hwf hlen)
  clear hE hx0 hb hg hl1 hc hwf hlen hr ht hn hrl hu1 hu2
  have HO := Lib.hid (show outG g = if okG g then graphC g else [] from rfl)
  generalize outG g = out at *
  by_cases hok : okG g = true
  · rw [hok] at HC
    have HOK := Lib.hid hok
    clear hok
    go_enter Tryz.func11, Tryz.ntmps11
    go_wp2_with (first
      | ((with_reducible apply op_load); exact HL1.out; exact rfl)
      | ((with_reducible apply op_conv); exact HU.out.1 _; exact rfl)
      | ((with_reducible apply op_conv); exact HU.out.2 _; exact rfl)
      | (go_at_call 13; refine HC.out.mono ?_; rintro e w2 ⟨rfl, hb2⟩;
         (
          obtain ⟨hn, hrl, hb, hg⟩ := HX.out
          have hwf := HW.out.1 HOK.out
          have hlen := HW.out.2
          have hbw := below_trans hb hb2
          have hn2 := hn.below (fun h => h.below hbw) hbw
          have hrl2 := hrl.below (fun h => h.below hbw) hbw
          have hnw := writer_new w2
          have hb3 := below_new (w := w2) (.cells #[.slice none 0 0] 83)
          have hg1 := belowBlk hb2 (by simp) hg
          have hg2 := belowBlk hb3 (by have := hb2.size; simp at this; omega) hg1
          have hlt2 : w.heap.size < w2.heap.size := by have := hb2.size; simp at this; omega
          have hN := wvalue_any w2
          have hcl : (graphC g).length = (rowsC nodeC g.nodes).length + (rowsC relC g.rels).length + (numB (toU g.nextNode)).length + (numB (toU g.nextRel)).length := by unfold graphC; simp only [List.length_append]; try omega
          have HK := Lib.hid (And.intro hg1 (And.intro hlt2 (And.intro hrl2 (And.intro hwf (And.intro hcl hlen)))))
          have HV := Lib.hid (rowN_tells ef_node nodeC hn2 hnw (by simp only [List.length_nil]; omega) (fun y hy m o W cs h1 h2 h3 => wnode_any hN (hwf.1.2 y hy) h2 h1 h3))
          have hcn := cellOf (o := 0) hg2 rfl
          have HB2 := Lib.hid hbw
          clear hn hrl hb hg hn2 hrl2 hnw hb3 hg1 hg2 hbw hb2 HL1 HC hlt2 hwf hlen hcl hN))
      | (go_at_call 38; refine HV.out.mono ?_; rintro e w4 ⟨rfl, o, h4, t4⟩;
         (
          obtain ⟨hg1, hlt2, hrl2, hwf, hcl, hlen⟩ := HK.out
          have hcr := cellOf (o := 1) (belowBlk h4.b hlt2 hg1) rfl
          have hN := wvalue_any w2
          have HV2 := Lib.hid (rowR_tells ef_rel relC hrl2 h4 (by simp only [List.nil_append]; omega) (fun y hy m o W cs h1 h2 h3 => wrel_any hN (hwf.2.1.2 y hy) h2 h1 h3))
          clear h4 t4 HV hg1 hlt2 hrl2 hwf hcl hlen hN hcn))
      | (go_at_call 40; refine HV2.out.mono ?_; rintro e w5 ⟨rfl, o5, h5, t5⟩;
         (
          obtain ⟨hg1, hlt2, hrl2, hwf, hcl, hlen⟩ := HK.out
          have hc2 := cellOf (o := 2) (belowBlk h5.b hlt2 hg1) rfl
          have HV3 := Lib.hid (wnumber_any (n := toU g.nextNode) HUT.out.1 h5 (by simp only [List.length_append, List.length_nil]; omega))
          clear h5 t5 HV2 hg1 hlt2 hrl2 hwf hcl hlen hcr))
      | (go_at_call 42; refine HV3.out.mono ?_; rintro e w6 ⟨rfl, o6, h6, t6⟩;
         (
          obtain ⟨hg1, hlt2, hrl2, hwf, hcl, hlen⟩ := HK.out
          have hc3 := cellOf (o := 3) (belowBlk h6.b hlt2 hg1) rfl
          have HV4 := Lib.hid (wnumber_any (n := toU g.nextRel) HUT.out.2 h6 (by simp only [List.length_append, List.length_nil]; omega))
          clear h6 t6 HV3 hg1 hlt2 hrl2 hwf hcl hlen hc2))
      | (go_at_call 42; refine HV4.out.mono ?_; rintro e w7 ⟨rfl, o7, h7, t7⟩;
         (
          have hcell := cellOf (o := 0) h7.box rfl
          have HF := Lib.hid h7
          clear h7 t7 HV4 hc3)))
    go_ret2
    have h4 := HF.out
    have hout : out = graphC g := by rw [HO.out, HOK.out]; rfl
    rw [hout, HOK.out]
    have := HB2.out.size
    refine ⟨o7, rfl, ?_, below_trans HB2.out h4.b⟩
    have hown := h4.own
    have e1 : ([] : List UInt8) ++ rowsC nodeC g.nodes ++ rowsC relC g.rels ++ numB (toU g.nextNode) ++ numB (toU g.nextRel) = graphC g := by unfold graphC; simp [List.append_assoc]
    rw [e1] at hown
    exact hown.imp fun b _ hb => by have := hb.1; omega
  · have hok : okG g = false := by simpa using hok
    rw [hok] at HC
    have HOK := Lib.hid hok
    have HFB := Lib.hid HX.out.2.2.1
    clear hok HX HW
    go_enter Tryz.func11, Tryz.ntmps11
    go_wp2_with (first
      | ((with_reducible apply op_load); exact HL1.out; exact rfl)
      | (go_at_call 13; refine HC.out.mono ?_; rintro e w2 ⟨rfl, hb2⟩; have HB2 := Lib.hid (below_trans HFB.out hb2); clear hb2))
    go_ret2
    have hout : out = [] := by rw [HO.out, HOK.out]; rfl
    rw [hout, HOK.out]
    exact ⟨_, rfl, own_none _ _, HB2.out⟩
end Go.Proofs.YthdfedfholmbmaaGreatDoor

namespace Go.Proofs
open Go.Shelf
def Tryz.compactI_ren : Go.Shelf.Ren := ⟨fun | 43 => 154 | n => n, fun | 22 => 176 | 23 => 2 | 3 => 3 | 4 => 4 | 0 => 0 | n => n, fun | n => n⟩
theorem Tryz.compactI : Go.Proofs.SlLaysE.n43 Tryz.prog Tryz.compactI_ren := {
  mixed := by kernel_rfl
  f43 := ⟨Tryz.f154.name, by decide, Tryz.func154.trans (congrArg some (by kernel_rfl))⟩
  t0 := Tryz.underlying0
  a0 := Tryz.isAgg0
  z0 := Tryz.sizeOf0
  v0 := Tryz.zeroValue0
  t3 := Tryz.underlying3
  a3 := Tryz.isAgg3
  z3 := Tryz.sizeOf3
  v3 := Tryz.zeroValue3
  t4 := Tryz.underlying4
  a4 := Tryz.isAgg4
  z4 := Tryz.sizeOf4
  v4 := Tryz.zeroValue4
  t22 := Tryz.underlying176
  a22 := Tryz.isAgg176
  z22 := Tryz.sizeOf176
  v22 := Tryz.zeroValue176
  a23 := Tryz.isAgg2
  z23 := Tryz.sizeOf2 }
end Go.Proofs

namespace Go.Proofs.YthdfedfholmbmaaGreatDoor
open Go.RowKit
theorem compact_two (a b : Int) : Lib.compactUpTo #[a, b] 2 = if a = b then [a] else [a, b] := by
  rw [Lib.compactUpTo_succ, Lib.compactUpTo_succ]
  have e0 : Lib.compactUpTo #[a, b] 0 = [] := rfl
  rw [e0]
  by_cases h : a = b
  · subst h
    simp [Lib.keeps]
  · have h' : b ≠ a := fun e => h e.symm
    simp [Lib.keeps, h, h']
theorem compact2_any {w : World} {g : Nat} {T : TypeId} {a b : Int} (h : w.heap[g]? = some (.cells #[.int .i64 a, .int .i64 b] T (0, 0))) :
    Calls Tryz.prog 154 #[.slice (some ⟨g, 0, none⟩) 2 2] w fun e w' => e = .returned (.slice (some ⟨g, 0, none⟩) (if a = b then 1 else 2) 2) ∧ Touch (fun x => x = g) w w' ∧ ∃ c, w'.heap[g]? = some (.cells #[.int .i64 a, c] T (0, 0)) ∧ (a ≠ b → c = .int .i64 b) := by
  have hH : Sort.Holds (Value.int .i64) w g 0 #[a, b] := fun j hj => by
    have hj : j < 2 := hj
    have : j = 0 ∨ j = 1 := by omega
    rcases this with rfl | rfl
    · exact ⟨cellOf (o := 0) h rfl, freeOf (o := 0) h⟩
    · exact ⟨cellOf (o := 1) h rfl, freeOf (o := 1) h⟩
  have hS := AnyE.slices_Compact Tryz.compactI (Value.int .i64) (by intro _; rfl) (EqlAt.intD _ _ _) (NeqAt.intD _ _ _) 0 (fun w => Tryz.zeroValue2 w) g 0 2 #[a, b] w hH (by simp) (by simp)
  refine hS.mono ?_
  rintro e w' ⟨rfl, q, rfl⟩
  have e2 : (#[a, b] : Array Int).size = 2 := rfl
  rw [e2, compact_two]
  have hrow : ∀ d : Array Int, (Sort.putRow (Value.int .i64) (Sort.ahead w q) g 0 d).heap[g]? = some (.cells (Sort.putCells (Value.int .i64) 0 d #[.int .i64 a, .int .i64 b]) T (0, 0)) := fun d => by
    unfold Sort.putRow Sort.mapBlock
    show (w.heap.modify g _)[g]? = _
    rw [Array.getElem?_modify, if_pos rfl, h]
    rfl
  have hoth : ∀ (d : Array Int) (x : Nat), x ≠ g → (Sort.putRow (Value.int .i64) (Sort.ahead w q) g 0 d).heap[x]? = w.heap[x]? := fun d x hx => by
    unfold Sort.putRow Sort.mapBlock
    show (w.heap.modify g _)[x]? = _
    rw [Array.getElem?_modify, if_neg (fun e => hx e.symm)]
  have ht : ∀ d : Array Int, Touch (fun x => x = g) w (Sort.putRow (Value.int .i64) (Sort.ahead w q) g 0 d) := fun d => ⟨rfl, rfl, rfl, by simp [Sort.putRow, Sort.mapBlock, Sort.ahead], fun x _ hx => hoth d x hx⟩
  by_cases hab : a = b
  · subst hab
    rw [if_pos rfl, if_pos rfl]
    refine ⟨by simp, ht _, .int .i64 0, ?_, fun h => absurd rfl h⟩
    rw [hrow]
    rfl
  · rw [if_neg hab, if_neg hab]
    refine ⟨by simp, ht _, .int .i64 b, ?_, fun _ => rfl⟩
    rw [hrow]
    rfl
end Go.Proofs.YthdfedfholmbmaaGreatDoor

namespace Go.Proofs.YthdfedfholmbmaaGreatDoor
open Go.RowKit
section
variable {α : Type} {F : World → α → Array Value → Prop} {K : Nat} {W : World}
theorem grd_none : GRd F K W none 0 ([] : List α) := ⟨⟨Nat.le_refl _, by simp, fun _ => rfl⟩, fun ad h => by cases h⟩
theorem grd_one {g : Nat} {cs : Array Value} {T : TypeId} {v : α} (h : W.heap[g]? = some (.cells cs T (0, 0))) (hs : cs.size = K) (hv : F W v cs) : GRd F K W (some ⟨g, 0, none⟩) 1 [v] := by
  refine ⟨⟨Nat.le_refl _, ⟨by simp, by omega⟩, fun h => by cases h⟩, fun ad had => ⟨fun _ => by cases had; rfl, fun j u hu => ?_⟩⟩
  cases had
  match j, hu with
  | 0, hu =>
    cases hu
    exact ⟨cs, hs, fun i u hu => cellOf (o := 0 + 0 * K + i) h (by simpa using hu), hv⟩
  | n + 1, hu => simp at hu
end
theorem put_nodes {w : World} {ad : Addr} {p : Option Addr} {n c : Nat} {u : Value} (hc : w.cell? ad = some u) (hf : w.frozen? ad = false) : (storeVar 22 ad (.slice p n c)).run Tryz.prog w = .ok () (w.setCell ad (.slice p n c)) := by
  simp [storeVar, go_sem, hc, hf]
theorem put_rels {w : World} {ad : Addr} {p : Option Addr} {n c : Nat} {u : Value} (hc : w.cell? ad = some u) (hf : w.frozen? ad = false) : (storeVar 23 ad (.slice p n c)).run Tryz.prog w = .ok () (w.setCell ad (.slice p n c)) := by
  simp [storeVar, go_sem, hc, hf]
abbrev topN : Int := 4611686018427387904
theorem errG_zero (b : Bool) : decide (errG b = 0) = b := by cases b <;> rfl
theorem change_parts {w : World} {cd : ChangeD} {x : Array Value} (hx : CRd w cd x) : ∃ xa xb, NRd w cd.node xa ∧ RRd w cd.rel xb ∧ x[0]? = some (.int .i64 cd.kind) ∧ x[1]? = some (.int .i64 cd.id) ∧ x[2]? = some (.int .i64 cd.other) ∧ (∀ (i : Nat) (u : Value), xa[i]? = some u → x[3 + i]? = some u) ∧ (∀ (i : Nat) (u : Value), xb[i]? = some u → x[6 + i]? = some u) := by
  obtain ⟨xa, xb, hxe, hna, hrb⟩ := hx
  have sa := ef_node.size hna
  refine ⟨xa, xb, hna, hrb, ?_, ?_, ?_, fun i u hu => ?_, fun i u hu => ?_⟩
  · rw [hxe, Array.append_assoc, Array.getElem?_append_left (by simp)]; rfl
  · rw [hxe, Array.append_assoc, Array.getElem?_append_left (by simp)]; rfl
  · rw [hxe, Array.append_assoc, Array.getElem?_append_left (by simp)]; rfl
  · have hi := (Array.getElem?_eq_some_iff.1 hu).1
    rw [hxe, Array.getElem?_append_left (by simp; omega), Array.getElem?_append_right (by simp)]; simpa using hu
  · rw [hxe, Array.getElem?_append_right (by simp [sa])]; simp only [Array.size_append, sa]; simpa using hu
abbrev gBox : Array Value := #[.slice none 0 0, .slice none 0 0, .int .i64 topN, .int .i64 topN]
theorem may_other {w : World} {cd : ChangeD} {x : Array Value} (hx : CRd w cd x) (h0 : cd.kind ≠ 0) (h1 : cd.kind ≠ 1) : Calls Tryz.prog 128 #[.agg x] w fun e w' => e = .returned (.bool (okC cd)) ∧ Below w.heap.size w w' := by
  have hxs := ef_change.size hx
  obtain ⟨xa, xb, hna, hrb, x0, _⟩ := change_parts hx
  have hok : okC cd = (decide (2 ≤ cd.kind) && decide (cd.kind ≤ 4)) := by unfold okC; rw [if_neg h0, if_neg h1]
  have hb : Below w.heap.size w ((w.alloc (.cells x 74)).alloc (.cells gBox 25)) := (below_new _).alloc (by simp) _
  have hs := st_graph.fresh (P := Tryz.prog) (W := w.alloc (.cells x 74)) (cs := gBox) rfl (by simp [Value.oneCell'])
  have hc0 : ((w.alloc (.cells x 74)).alloc (.cells gBox 25)).cell? ⟨w.heap.size, 0, none⟩ = some (.int .i64 cd.kind) := cellOf (o := 0) (belowBlk (below_new (w := w.alloc (.cells x 74)) (.cells gBox 25)) (by simp) (heap_alloc_new w _)) x0
  have HS := Lib.hid hs
  have HB := Lib.hid hb
  have HC := Lib.hid hc0
  rw [hok]
  clear hok hx hna hrb x0 hb hs hc0
  generalize cd.kind = k at *
  have HK := Lib.hid (And.intro h0 h1)
  by_cases h2 : k = 2
  · subst h2
    have hcc := HC.out
    clear h0 h1
    go_enter Tryz.func128, Tryz.ntmps128
    go_wp2_with ((with_reducible apply op_store); exact HS.out _ rfl; exact rfl; exact rfl)
    go_ret
    exact ⟨rfl, HB.out⟩
  · by_cases h3 : k = 3
    · subst h3
      have hcc := HC.out
      clear h0 h1 h2
      go_enter Tryz.func128, Tryz.ntmps128
      go_wp2_with ((with_reducible apply op_store); exact HS.out _ rfl; exact rfl; exact rfl)
      go_ret
      exact ⟨rfl, HB.out⟩
    · by_cases h4 : k = 4
      · subst h4
        have hcc := HC.out
        clear h0 h1 h2 h3
        go_enter Tryz.func128, Tryz.ntmps128
        go_wp2_with ((with_reducible apply op_store); exact HS.out _ rfl; exact rfl; exact rfl)
        go_ret
        exact ⟨rfl, HB.out⟩
      · have hcc := HC.out
        have hf : (decide (2 ≤ k) && decide (k ≤ 4)) = false := by
          rw [Bool.and_eq_false_iff, decide_eq_false_iff_not, decide_eq_false_iff_not]; omega
        have HF := Lib.hid hf
        clear hf
        go_enter Tryz.func128, Tryz.ntmps128
        go_wp2_with ((with_reducible apply op_store); exact HS.out _ rfl; exact rfl; exact rfl)
        go_ret
        exact ⟨by rw [HF.out]; rfl, HB.out⟩
end Go.Proofs.YthdfedfholmbmaaGreatDoor

namespace Go.Proofs.YthdfedfholmbmaaGreatDoor
open Go.RowKit
theorem may_node {w : World} (hE : Env w) {cd : ChangeD} {x : Array Value} (hx : CRd w cd x) (h0 : cd.kind = 0) (ht : totC cd ≤ 900000) : Calls Tryz.prog 128 #[.agg x] w fun e w' => e = .returned (.bool (okC cd)) ∧ Below w.heap.size w w' := by
  have hxs := ef_change.size hx
  obtain ⟨xa, xb, hna, hrb, x0, _, _, xna, _⟩ := change_parts hx
  have sa := ef_node.size hna
  have hok : okC cd = okG ⟨[cd.node], [], topN, topN⟩ := by unfold okC; rw [if_pos h0]
  have hb : Below w.heap.size w ((w.alloc (.cells x 74)).alloc (.cells gBox 25)) := (below_new _).alloc (by simp) _
  have hs := st_graph.fresh (P := Tryz.prog) (W := w.alloc (.cells x 74)) (cs := gBox) rfl (by simp [Value.oneCell'])
  have hch : ((w.alloc (.cells x 74)).alloc (.cells gBox 25)).heap[w.heap.size]? = some (.cells x 74 (0, 0)) := belowBlk (below_new (w := w.alloc (.cells x 74)) (.cells gBox 25)) (by simp) (heap_alloc_new w _)
  have hgb : ((w.alloc (.cells x 74)).alloc (.cells gBox 25)).heap[w.heap.size + 1]? = some (.cells gBox 25 (0, 0)) := by
    simp only [heap_get_alloc, World.size_alloc]; rw [if_pos trivial]
  have hsz : ((w.alloc (.cells x 74)).alloc (.cells gBox 25)).heap.size = w.heap.size + 2 := by simp
  simp only [World.size_alloc] at hs
  have HS := Lib.hid hs
  generalize hW2 : (w.alloc (.cells x 74)).alloc (.cells gBox 25) = W2 at *
  rw [h0] at x0
  have hcc := cellOf (o := 0) hch x0
  have hln := st_node.load (P := Tryz.prog) (W := W2) (g := w.heap.size) (o := 3) sa (fun i u hu => cellOf (o := 3 + i) hch (xna i u hu))
  have hbs := run_buildSlice_one (P := Tryz.prog) (w := W2) (v := .agg xa) Tryz.underlying22 Tryz.sizeOf70 Tryz.zeroValue70 sa (by omega) (by omega)
  have hb3 : Below W2.heap.size W2 (W2.alloc (.cells xa 70)) := below_new _
  have hg3 := belowBlk hb3 (by omega) hgb
  have hput := put_nodes (p := some ⟨W2.heap.size, 0, none⟩) (n := 1) (c := 1) (cellOf (o := 0) hg3 rfl) (freeOf (o := 0) hg3)
  have hbw : Below w.heap.size w ((W2.alloc (.cells xa 70)).setCell ⟨w.heap.size + 1, 0, none⟩ (.slice (some ⟨W2.heap.size, 0, none⟩) 1 1)) := belowSet (below_trans hb hb3) (by omega) _
  have hg4 := box_set (k := 0) (.slice (some ⟨W2.heap.size, 0, none⟩) 1 1) hg3
  have hnb : ((W2.alloc (.cells xa 70)).setCell ⟨w.heap.size + 1, 0, none⟩ (.slice (some ⟨W2.heap.size, 0, none⟩) 1 1)).heap[W2.heap.size]? = some (.cells xa 70 (0, 0)) := (Below.heap_setCell _ ⟨w.heap.size + 1, 0, none⟩ _ _ (show W2.heap.size ≠ w.heap.size + 1 by omega)).trans (heap_alloc_new W2 _)
  have hE4 := hE.b hbw
  have hgr : GrRd ((W2.alloc (.cells xa 70)).setCell ⟨w.heap.size + 1, 0, none⟩ (.slice (some ⟨W2.heap.size, 0, none⟩) 1 1)) ⟨[cd.node], [], topN, topN⟩ #[.slice (some ⟨W2.heap.size, 0, none⟩) 1 1, .slice none 0 0, .int .i64 topN, .int .i64 topN] :=
    ⟨some ⟨W2.heap.size, 0, none⟩, 1, none, 0, rfl, grd_one hnb sa (hna.below hbw), grd_none⟩
  have hck := check_graph hE4 hgr (by unfold totG; unfold totC at ht; simp; omega)
  have hgl := st_graph.get (P := Tryz.prog) (cs := #[.slice (some ⟨W2.heap.size, 0, none⟩) 1 1, .slice none 0 0, .int .i64 topN, .int .i64 topN]) rfl hg4
  have HLN := Lib.hid hln
  have HBS := Lib.hid hbs
  have HP := Lib.hid hput
  have HCK := Lib.hid hck
  have HGL := Lib.hid hgl
  have HB := Lib.hid hbw
  have HZ := Lib.hid (errG_zero (okG ⟨[cd.node], [], topN, topN⟩))
  have HCC := Lib.hid hcc
  rw [hok]
  clear hok hx hna hrb x0 xna hb hs hch hgb hln hbs hb3 hg3 hput hbw hg4 hnb hE4 hgr hck hgl hE hW2 hsz hcc h0
  generalize okG ⟨[cd.node], [], topN, topN⟩ = r at *
  go_enter Tryz.func128, Tryz.ntmps128
  have hcc := HCC.out
  go_wp2_with (first
    | ((with_reducible apply op_store); (exact HS.out _ rfl; exact rfl; exact rfl; clear HS))
    | ((with_reducible apply op_store); exact HP.out; exact rfl; exact rfl)
    | ((with_reducible apply op_load); exact HLN.out; exact rfl)
    | ((with_reducible apply op_load); exact HGL.out; exact rfl)
    | ((with_reducible apply op_bs1); exact HBS.out; exact rfl)
    | (go_at_call 13; refine HCK.out.mono ?_; rintro e W5 ⟨rfl, hb⟩; have HB5 := Lib.hid (below_trans HB.out hb); clear hb))
  go_ret
  have e : (errG r == 0) = r := by cases r <;> rfl
  exact ⟨by show Ending.returned (.bool (errG r == 0)) = _; rw [e], HB5.out⟩
end Go.Proofs.YthdfedfholmbmaaGreatDoor

namespace Go.Proofs.YthdfedfholmbmaaGreatDoor
open Go.RowKit
def nodeOf (i : Int) : NodeD := ⟨i, [], []⟩
def endsOf (s d : Int) : List Int := if s = d then [s] else [min s d, max s d]
theorem ends_len (s d : Int) : (endsOf s d).length = if min s d = max s d then 1 else 2 := by
  unfold endsOf
  by_cases h : s = d
  · rw [if_pos h, if_pos (by omega)]; rfl
  · rw [if_neg h, if_neg (by omega)]; rfl
theorem ends_ok (cd : ChangeD) (h1 : cd.kind = 1) : okC cd = okG ⟨(endsOf cd.rel.src cd.rel.dst).map nodeOf, [cd.rel], topN, topN⟩ := by
  unfold okC endsOf
  rw [if_neg (by omega), if_pos h1]
  by_cases h : cd.rel.src = cd.rel.dst
  · rw [if_pos h, if_pos h]; rfl
  · rw [if_neg h, if_neg h]; rfl
theorem ends_at {s d : Int} {W : World} {g : Nat} {T : TypeId} {c : Value} (h : W.heap[g]? = some (.cells #[.int .i64 (min s d), c] T (0, 0))) (hc : min s d ≠ max s d → c = .int .i64 (max s d)) (j : Nat) (hj : j < (endsOf s d).length) : W.cell? ⟨g, j, none⟩ = some (.int .i64 (endsOf s d)[j]) := by
  by_cases hd : s = d
  · have e : endsOf s d = [s] := by unfold endsOf; rw [if_pos hd]
    have hm : min s d = s := by omega
    rw [e] at hj
    have hj0 : j = 0 := by simp at hj; omega
    subst hj0
    rw [hm] at h
    have : (endsOf s d)[0] = s := by simp [e]
    rw [this]
    exact cellOf (o := 0) h rfl
  · have e : endsOf s d = [min s d, max s d] := by unfold endsOf; rw [if_neg hd]
    rw [e] at hj
    have hj0 : j = 0 ∨ j = 1 := by simp at hj; omega
    rw [hc (by omega)] at h
    rcases hj0 with rfl | rfl
    · have : (endsOf s d)[0] = min s d := by simp [e]
      rw [this]
      exact cellOf (o := 0) h rfl
    · have : (endsOf s d)[1] = max s d := by simp [e]
      rw [this]
      exact cellOf (o := 1) h rfl
theorem nodeOf_own {W : World} {P : Nat → Prop} (i : Int) : NOwn W P (nodeOf i) #[.int .i64 i, .slice none 0 0, .slice none 0 0] :=
  ⟨.slice none 0 0, .slice none 0 0, rfl, ⟨⟨by simp, .inl ⟨rfl, rfl⟩⟩, fun g hg => by simp [Value.ownBlock] at hg⟩, GOwn.nil⟩
theorem totN_of (i : Int) : totN (nodeOf i) = 1 := rfl
structure MyInv (w W6 W : World) (B : Nat) (rs : Value) (ids : List Int) (j : Nat) (ov : Value) : Prop where
  row : GIn NOwn 70 3 (fun b => W6.heap.size ≤ b) W ov ((ids.take j).map nodeOf)
  box : W.heap[B]? = some (.cells #[ov, rs, .int .i64 topN, .int .i64 topN] 25 (0, 0))
  keep : ∀ b, b < W6.heap.size → b ≠ B → W.heap[b]? = W6.heap[b]?
  b : Below w.heap.size w W
  size : W6.heap.size ≤ W.heap.size
theorem MyInv.step {w W6 W : World} {B : Nat} {rs : Value} {ids : List Int} {j : Nat} {ov : Value} (h : MyInv w W6 W B rs ids j ov) (hw : w.heap.size ≤ B) (hB : B < W6.heap.size) (hj : j < ids.length) (hl : ids.length ≤ 2) :
    ∃ p n c W2, (Builtin.append_ #[22, 22] 22 #[ov, .slice (some ⟨W.heap.size, 0, none⟩) 1 1]).run Tryz.prog (W.alloc (.cells #[.int .i64 ids[j], .slice none 0 0, .slice none 0 0] 70)) = .ok (.slice p n c) W2 ∧
      (storeVar 22 ⟨B, 0, none⟩ (.slice p n c)).run Tryz.prog W2 = .ok () (W2.setCell ⟨B, 0, none⟩ (.slice p n c)) ∧ MyInv w W6 (W2.setCell ⟨B, 0, none⟩ (.slice p n c)) B rs ids (j + 1) (.slice p n c) := by
  obtain ⟨v', W2, a1, a2, a3⟩ := h.row.step (W1 := W) (P' := fun b => W6.heap.size ≤ b) el_node gt_node (fun b _ _ => rfl) (Nat.le_refl _) (fun b _ hp => hp) (fun b hb => Nat.le_trans h.size hb) (nodeOf_own ids[j]) (by simp; omega) 22
  obtain ⟨p, c, rfl⟩ := a2.slice
  have hrl := h.row.lt
  have hbn := below_new (w := W) (.cells #[.int .i64 ids[j], .slice none 0 0, .slice none 0 0] 70)
  have hs := h.size
  have hsz := hbn.size
  have hk : ∀ b, b < W6.heap.size → W2.heap[b]? = W.heap[b]? := fun b hb => (a3.block b (by omega) (fun e => by have := (hrl b e).2; omega)).trans (hbn.block b (by omega))
  have hbox := (hk B hB).trans h.box
  have hset : ∀ b, b ≠ B → (W2.setCell ⟨B, 0, none⟩ (.slice p ((ids.take j).map nodeOf ++ [nodeOf ids[j]]).length c)).heap[b]? = W2.heap[b]? := fun b hb => Below.heap_setCell W2 ⟨B, 0, none⟩ _ b hb
  have hsz2 : (W2.setCell ⟨B, 0, none⟩ (.slice p ((ids.take j).map nodeOf ++ [nodeOf ids[j]]).length c)).heap.size = W2.heap.size := by simp [World.setCell]
  have hB2 : Below w.heap.size w W2 := a3.below (below_trans h.b hbn) (fun b hb e => by have := (hrl b e).2; omega) (by have := h.b.size; omega)
  have hm : (ids.take (j + 1)).map nodeOf = (ids.take j).map nodeOf ++ [nodeOf ids[j]] := by rw [List.take_succ_eq_append_getElem hj, List.map_append]; rfl
  refine ⟨p, _, c, W2, a1, put_nodes (cellOf (o := 0) hbox rfl) (freeOf (o := 0) hbox), ⟨?_, ?_, fun b hb hne => (hset b hne).trans ((hk b hb).trans (h.keep b hb hne)), belowSet hB2 hw _, ?_⟩⟩
  · rw [hm]
    exact a2.kept el_node (fun b hp _ => hset b (by omega)) (fun b _ hp => hp)
  · exact box_set (k := 0) _ hbox
  · rw [hsz2]; have := a3.size; omega
theorem MyInv.last {w W6 W : World} {B : Nat} {pr : Option Addr} {ids : List Int} {ov : Value} {r : RelD} (h : MyInv w W6 W B (.slice pr 1 1) ids ids.length ov) (hl : ids.length ≤ 2) (hr : GRd RRd 5 W pr 1 [r]) : ∃ x, W.heap[B]? = some (.cells x 25 (0, 0)) ∧ x.size = 4 ∧ GrRd W ⟨ids.map nodeOf, [r], topN, topN⟩ x := by
  have hown := h.row.own el_node
  rw [List.take_length] at hown
  obtain ⟨p, c, e, hg⟩ := hown.rd el_node (F := NRd) (by simp; omega) (fun v hv x hx => hx.rd (by obtain ⟨i, _, rfl⟩ := List.mem_map.1 hv; rw [totN_of]; omega))
  exact ⟨_, h.box, rfl, p, c, pr, 1, by rw [e]; rfl, hg, hr⟩
theorem may_rel {w : World} (hE : Env w) {cd : ChangeD} {x : Array Value} (hx : CRd w cd x) (h1 : cd.kind = 1) (ht : totC cd ≤ 900000) : Calls Tryz.prog 128 #[.agg x] w fun e w' => e = .returned (.bool (okC cd)) ∧ Below w.heap.size w w' := by
  have hxs := ef_change.size hx
  obtain ⟨xa, xb, hna, hrb, x0, _, _, _, xrb⟩ := change_parts hx
  have sb := ef_rel.size hrb
  have hok := ends_ok cd h1
  have hb : Below w.heap.size w ((w.alloc (.cells x 74)).alloc (.cells gBox 25)) := (below_new _).alloc (by simp) _
  have hs := st_graph.fresh (P := Tryz.prog) (W := w.alloc (.cells x 74)) (cs := gBox) rfl (by simp [Value.oneCell'])
  have hch : ((w.alloc (.cells x 74)).alloc (.cells gBox 25)).heap[w.heap.size]? = some (.cells x 74 (0, 0)) := belowBlk (below_new (w := w.alloc (.cells x 74)) (.cells gBox 25)) (by simp) (heap_alloc_new w _)
  have hgb : ((w.alloc (.cells x 74)).alloc (.cells gBox 25)).heap[w.heap.size + 1]? = some (.cells gBox 25 (0, 0)) := by
    simp only [heap_get_alloc, World.size_alloc]; rw [if_pos trivial]
  have hsz : ((w.alloc (.cells x 74)).alloc (.cells gBox 25)).heap.size = w.heap.size + 2 := by simp
  simp only [World.size_alloc] at hs
  have HS := Lib.hid hs
  generalize hW2 : (w.alloc (.cells x 74)).alloc (.cells gBox 25) = W2 at *
  rw [h1] at x0
  have hcc := cellOf (o := 0) hch x0
  have hln := st_rel.load (P := Tryz.prog) (W := W2) (g := w.heap.size) (o := 6) sb (fun i u hu => cellOf (o := 6 + i) hch (xrb i u hu))
  have hbs := run_buildSlice_one (P := Tryz.prog) (w := W2) (v := .agg xb) Tryz.underlying23 Tryz.sizeOf72 Tryz.zeroValue72 sb (by omega) (by omega)
  have hb3 : Below W2.heap.size W2 (W2.alloc (.cells xb 72)) := below_new _
  have hg3 := belowBlk hb3 (by omega) hgb
  have hput := put_rels (p := some ⟨W2.heap.size, 0, none⟩) (n := 1) (c := 1) (cellOf (o := 1) hg3 rfl) (freeOf (o := 1) hg3)
  have hbw : Below w.heap.size w ((W2.alloc (.cells xb 72)).setCell ⟨w.heap.size + 1, 1, none⟩ (.slice (some ⟨W2.heap.size, 0, none⟩) 1 1)) := belowSet (below_trans hb hb3) (by omega) _
  have hg4 := box_set (k := 1) (.slice (some ⟨W2.heap.size, 0, none⟩) 1 1) hg3
  have hoth : ∀ b, b ≠ w.heap.size + 1 → ((W2.alloc (.cells xb 72)).setCell ⟨w.heap.size + 1, 1, none⟩ (.slice (some ⟨W2.heap.size, 0, none⟩) 1 1)).heap[b]? = (W2.alloc (.cells xb 72)).heap[b]? := fun b hb => Below.heap_setCell _ ⟨w.heap.size + 1, 1, none⟩ _ _ hb
  have hrb4 := (hoth W2.heap.size (by omega)).trans (heap_alloc_new W2 _)
  have hch4 := (hoth w.heap.size (by omega)).trans (belowBlk hb3 (by omega) hch)
  have hs4 : ((W2.alloc (.cells xb 72)).setCell ⟨w.heap.size + 1, 1, none⟩ (.slice (some ⟨W2.heap.size, 0, none⟩) 1 1)).heap.size = w.heap.size + 3 := by simp [World.setCell, hsz]
  have HP := Lib.hid hput
  generalize hW4 : (W2.alloc (.cells xb 72)).setCell ⟨w.heap.size + 1, 1, none⟩ (.slice (some ⟨W2.heap.size, 0, none⟩) 1 1) = W4 at *
  obtain ⟨pp, cp, exb, _⟩ := id hrb
  have hcs := cellOf (o := 7) hch4 (xrb 1 _ (by rw [exb]; rfl))
  have hcd := cellOf (o := 8) hch4 (xrb 2 _ (by rw [exb]; rfl))
  have HLN := Lib.hid hln
  have HBS := Lib.hid hbs
  have hb5 : Below W4.heap.size W4 (W4.alloc (.cells #[.int .i64 (min cd.rel.src cd.rel.dst), .int .i64 (max cd.rel.src cd.rel.dst)] 2)) := below_new _
  have hcp := compact2_any (heap_alloc_new W4 (.cells #[.int .i64 (min cd.rel.src cd.rel.dst), .int .i64 (max cd.rel.src cd.rel.dst)] 2))
  rw [← ends_len] at hcp
  have hen := fun (W : World) (c : Value) => ends_at (s := cd.rel.src) (d := cd.rel.dst) (W := W) (g := W4.heap.size) (T := 2) (c := c)
  have htr : totR cd.rel ≤ 900000 := by unfold totC at ht; omega
  have hl2 : (endsOf cd.rel.src cd.rel.dst).length ≤ 2 := by rw [ends_len]; split <;> omega
  have HX := Lib.hid (And.intro hbw (And.intro hg4 (And.intro hrb4 (And.intro hs4 (And.intro hb5 (And.intro hrb htr))))))
  have HCC := Lib.hid hcc
  have HCS := Lib.hid (And.intro hcs hcd)
  have HCP := Lib.hid hcp
  have HEN := Lib.hid hen
  have HEE := Lib.hid hE
  have z2 : ((endsOf cd.rel.src cd.rel.dst).length : Int) ≤ 2 := by omega
  rw [hok]
  clear hok x0 hb hs hch hgb hln hbs hb3 hg3 hput hbw hg4 hoth hrb4 hch4 hs4 hW2 hW4 hsz hcc h1 hcs hcd exb hb5 hcp hen hrb hna hx xrb htr hE ht
  have HZ := Lib.hid (show okG ⟨(endsOf cd.rel.src cd.rel.dst).map nodeOf, [cd.rel], topN, topN⟩ = okG ⟨(endsOf cd.rel.src cd.rel.dst).map nodeOf, [cd.rel], topN, topN⟩ from rfl)
  generalize hr : okG ⟨(endsOf cd.rel.src cd.rel.dst).map nodeOf, [cd.rel], topN, topN⟩ = r at *
  have HRR := Lib.hid hr
  clear hr HZ
  go_enter Tryz.func128, Tryz.ntmps128
  have hcc := HCC.out
  obtain ⟨hcs, hcd⟩ := HCS.out
  go_wp2_with (first
    | ((with_reducible apply op_store); exact HS.out _ rfl; exact rfl; exact rfl; clear HS)
    | ((with_reducible apply op_store); exact HP.out; exact rfl; exact rfl)
    | ((with_reducible apply op_load); exact HLN.out; exact rfl)
    | ((with_reducible apply op_bs1); exact HBS.out; exact rfl)
    | (go_at_call 154; refine HCP.out.mono ?_; rintro e W6 ⟨rfl, hT, c, hc, hcn⟩; have H6 := Lib.hid (And.intro hT (HEN.out W6 c hc hcn)); clear hT hc hcn HCP HEN))
  clear hcc hcs hcd HCC HCS HP HLN HBS
  obtain ⟨hbw, hg4, hrb4, hs4, hb5, hrb, htr⟩ := HX.out
  obtain ⟨hT, hce⟩ := H6.out
  have hTb := hT.size
  have hs5 := hb5.size
  have hk6 : ∀ b, b < W4.heap.size → W6.heap[b]? = W4.heap[b]? := fun b hb => (hT.block b (by omega) (by omega)).trans (hb5.block b hb)
  have hB6 : Below w.heap.size w W6 := hT.below (below_trans hbw hb5) (fun b hb e => by omega) (by omega)
  have hst : MyInv w W6 W6 (w.heap.size + 1) (.slice (some ⟨W2.heap.size, 0, none⟩) 1 1) (endsOf cd.rel.src cd.rel.dst) 0 (.slice none 0 0) := ⟨GIn.start, (hk6 _ (by omega)).trans hg4, fun _ _ _ => rfl, hB6, Nat.le_refl _⟩
  have hlt6 : w.heap.size + 1 < W6.heap.size := by omega
  have hrb6 := (hk6 W2.heap.size (Array.getElem?_eq_some_iff.1 hrb4).1).trans hrb4
  have hlt2 : W2.heap.size < W6.heap.size := (Array.getElem?_eq_some_iff.1 hrb6).1
  have hw4 : W4.heap.size < W6.heap.size := by have : (W4.alloc (.cells #[.int .i64 (min cd.rel.src cd.rel.dst), .int .i64 (max cd.rel.src cd.rel.dst)] 2)).heap.size = W4.heap.size + 1 := by simp
                                               omega
  have hwB : w.heap.size ≤ w.heap.size + 1 := by omega
  have hne2 : W2.heap.size ≠ w.heap.size + 1 := fun e => by rw [e] at hrb4; rw [hg4] at hrb4; cases hrb4
  have hne4 : W4.heap.size ≠ w.heap.size + 1 := by omega
  have HQ := Lib.hid (And.intro hst (And.intro hlt6 (And.intro hrb6 (And.intro hlt2 (And.intro hw4 (And.intro hrb (And.intro htr (And.intro hne2 hne4))))))))
  have HCE := Lib.hid hce
  have HL2 := Lib.hid hl2
  generalize W4.heap.size = g4 at *
  clear hbw hg4 hrb4 hs4 hb5 hrb htr hT hce hTb hs5 hk6 hB6 hst hlt6 hrb6 hlt2 hw4 hwB hne2 hne4 hl2 HX H6
  generalize endsOf cd.rel.src cd.rel.dst = ids at *
  go_loopw [40] (fun i W => ∃ (j : Nat) (p : Option Addr) (n c : Nat), j ≤ ids.length ∧ i = .int .i64 (j : Int) ∧ Hid (MyInv w W6 W (w.heap.size + 1) (.slice (some ⟨W2.heap.size, 0, none⟩) 1 1) ids j (.slice p n c))) (fun i _ => ids.length - (intOf i).toNat)
  case atStart => exact ⟨0, none, 0, 0, Nat.zero_le _, rfl, Lib.hid HQ.out.1⟩
  case round =>
    obtain ⟨j, p, n, c, hj, rfl, HI⟩ := hrel
    by_cases hlt : j < ids.length
    · have hlt1 : j + 1 ≤ ids.length := hlt
      obtain ⟨_, hlt6, hrb6, hlt2, hw4, hrb, htr, hne2, hne4⟩ := HQ.out
      obtain ⟨p', n', c', Wn, a1, a2, a3⟩ := HI.out.step (by omega) hlt6 hlt HL2.out
      have hcj : wr.cell? ⟨g4, j, none⟩ = some (.int .i64 ids[j]) := by
        have h1 := HCE.out j hlt
        unfold World.cell? at h1 ⊢
        rw [HI.out.keep g4 hw4 hne4]
        exact h1
      have hcg := cellOf (o := 0) HI.out.box rfl
      have HBS := Lib.hid (run_buildSlice_one (P := Tryz.prog) (w := wr) (v := .agg #[.int .i64 ids[j], .slice none 0 0, .slice none 0 0]) Tryz.underlying22 Tryz.sizeOf70 Tryz.zeroValue70 rfl (by omega) (by omega))
      have HA := Lib.hid a1
      have HPU := Lib.hid a2
      have HN := Lib.hid a3
      generalize ids[j] = id at *
      clear hlt6 hrb6 hlt2 hw4 hrb htr hne2 hne4 a1 a2 a3 HI HQ HCE
      go_wp2_with (first
        | ((with_reducible apply op_bs1); exact HBS.out; exact rfl)
        | ((with_reducible apply op_append); exact HA.out; exact rfl; exact rfl)
        | ((with_reducible apply op_store); exact HPU.out; exact rfl; exact rfl))
      go_roundw
      case rel => exact ⟨j + 1, p', n', c', hlt1, by go_num, HN⟩
      case measure => simp [intOf]; omega
    · obtain rfl : j = ids.length := by omega
      obtain ⟨_, hlt6, hrb6, hlt2, hw4, hrb, htr, hne2, hne4⟩ := HQ.out
      have hrr := (HI.out.keep W2.heap.size hlt2 hne2).trans hrb6
      obtain ⟨xg, hxg, hxs, hgr⟩ := HI.out.last HL2.out (grd_one hrr sb (hrb.below HI.out.b))
      have hck := check_graph (HEE.out.b HI.out.b) hgr (by
        unfold totG
        have h1 : ((ids.map nodeOf).map totN).sum ≤ 2 := by
          have e : (ids.map nodeOf).map totN = ids.map (fun _ => 1) := by rw [List.map_map]; rfl
          rw [e, List.map_const', List.sum_replicate_nat]
          have := HL2.out
          simp at this ⊢; omega
        simp only [List.map_cons, List.map_nil, List.sum_cons, List.sum_nil]
        omega)
      have HGL := Lib.hid (st_graph.get (P := Tryz.prog) hxs hxg)
      rw [HRR.out] at hck
      have HCK := Lib.hid hck
      have HB := Lib.hid HI.out.b
      clear hlt6 hrb6 hlt2 hw4 hrb htr hne2 hne4 hck hgr hxg hrr HI HQ HCE
      go_wp2_with (first
        | ((with_reducible apply op_load); exact HGL.out; exact rfl)
        | (go_at_call 13; refine HCK.out.mono ?_; rintro e W9 ⟨rfl, hb⟩; have HB9 := Lib.hid (below_trans HB.out hb); clear hb))
      go_ret
      have e : (errG r == 0) = r := by cases r <;> rfl
      exact ⟨by show Ending.returned (.bool (errG r == 0)) = _; rw [e], HB9.out⟩
end Go.Proofs.YthdfedfholmbmaaGreatDoor

namespace Go.Proofs.YthdfedfholmbmaaGreatDoor
open Go.RowKit
theorem mayC_any {w : World} (hE : Env w) {cd : ChangeD} {x : Array Value} (hx : CRd w cd x) (ht : totC cd ≤ 900000) : Calls Tryz.prog 128 #[.agg x] w fun e w' => e = .returned (.bool (okC cd)) ∧ Below w.heap.size w w' := by
  by_cases h0 : cd.kind = 0
  · exact may_node hE hx h0 ht
  · by_cases h1 : cd.kind = 1
    · exact may_rel hE hx h1 ht
    · exact may_other hx h0 h1
theorem badC_any {w : World} (hE : Env w) {cd : ChangeD} {x : Array Value} (hx : CRd w cd x) (ht : totC cd ≤ 900000) : Calls Tryz.prog 127 #[.agg x] w fun e w' => e = .returned (.bool (!okC cd)) ∧ Below w.heap.size w w' := by
  have hxs := ef_change.size hx
  have hb := below_new (w := w) (.cells x 74)
  have HL := Lib.hid (st_change.get (P := Tryz.prog) hxs (heap_alloc_new w (.cells x 74)))
  have HV := Lib.hid (mayC_any (hE.b hb) (hx.below hb) ht)
  have HB := Lib.hid hb
  clear hE hb hx
  generalize okC cd = r at *
  go_enter Tryz.func127, Tryz.ntmps127
  go_wp2_with (first
    | ((with_reducible apply op_load); exact HL.out; exact rfl)
    | (go_at_call 128; refine HV.out.mono ?_; rintro e W1 ⟨rfl, hb⟩; have HB2 := Lib.hid (below_trans HB.out hb); clear hb))
  go_ret
  exact ⟨rfl, HB2.out⟩
def noAt {α : Type} (f : α → Bool) (l : List α) : Int := match l.findIdx? (fun s => !f s) with
  | some i => (i : Int)
  | none => -1
section
variable {α : Type} {f : α → Bool}
theorem noAt_ge (l : List α) : decide (0 ≤ noAt f l) = !(l.all f) := by
  unfold noAt
  rw [Bool.eq_iff_iff]
  cases h : l.findIdx? (fun s => !f s) with
  | none =>
    rw [List.findIdx?_eq_none_iff] at h
    simp only [decide_eq_true_eq, Bool.not_eq_true', List.all_eq_false]
    constructor
    · intro h; omega
    · rintro ⟨x, hx, hn⟩
      have := h x hx
      simp_all
  | some i =>
    rw [List.findIdx?_eq_some_iff_getElem] at h
    obtain ⟨hi, h1, _⟩ := h
    simp only [decide_eq_true_eq, Bool.not_eq_true', List.all_eq_false]
    exact ⟨fun _ => ⟨l[i], List.getElem_mem hi, by simpa using h1⟩, fun _ => by omega⟩
theorem noAt_hit {l : List α} {j : Nat} (hj : j < l.length) (h1 : (l.take j).all f = true) (h2 : f l[j] = false) : noAt f l = (j : Int) := by
  unfold noAt
  have : l.findIdx? (fun s => !f s) = some j := by
    rw [List.findIdx?_eq_some_iff_getElem]
    refine ⟨hj, by simp [h2], fun i hi => ?_⟩
    rw [List.all_eq_true] at h1
    have := h1 l[i] (by rw [List.mem_take_iff_getElem]; exact ⟨i, by omega, rfl⟩)
    simp [this]
  rw [this]
theorem noAt_none {l : List α} (h1 : l.all f = true) : noAt f l = -1 := by
  unfold noAt
  have : l.findIdx? (fun s => !f s) = none := by
    rw [List.findIdx?_eq_none_iff]
    intro s hs
    rw [List.all_eq_true] at h1
    simp [h1 s hs]
  rw [this]
end
theorem badCIdx_any {w : World} (hE : Env w) {p : Option Addr} {c : Nat} {l : List ChangeD} (h : GRd CRd 11 w p c l) (ht : ∀ x ∈ l, totC x ≤ 900000) : Calls Tryz.prog 153 #[.slice p l.length c, .func (.func 127) #[] #[]] w fun e w' => e = .returned (.int .i64 (noAt okC l)) ∧ Below w.heap.size w w' := by
  have z1 : (l.length : Int) ≤ 140737488355328 := by have := h.1.2.1; omega
  have H := Lib.hid h
  have HE := Lib.hid hE
  have HT := Lib.hid ht
  clear h hE ht
  go_enter Tryz.func153, Tryz.ntmps153
  go_wp2
  go_loopw [8] (fun i W => ∃ j : Nat, j ≤ l.length ∧ i = .int .i64 (j : Int) ∧ Hid ((l.take j).all okC = true ∧ Below w.heap.size w W)) (fun i _ => l.length - (intOf i).toNat)
  case atStart => exact ⟨0, Nat.zero_le _, rfl, Lib.hid ⟨by simp, Below.refl _ _⟩⟩
  case round =>
    obtain ⟨j, hj, rfl, HI⟩ := hrel
    by_cases hlt : j < l.length
    · have hlt1 : j + 1 ≤ l.length := hlt
      obtain ⟨b, of, cs, rfl, hs, hc, hv⟩ := (H.out.below (fun h => h.below HI.out.2) HI.out.2).get hlt
      have hone := badC_any (HE.out.b HI.out.2) hv (HT.out _ (List.getElem_mem hlt))
      have hst := all_snoc (f := okC) hlt HI.out.1
      have hbd := noAt_hit (f := okC) hlt HI.out.1
      have HL := Lib.hid (st_change.load (P := Tryz.prog) hs hc)
      have hia : ∀ W' : World, (Instr.indexAt 58 (.slice (some ⟨b, of, none⟩) l.length c) (.int .i64 (j : Int))).run Tryz.prog W' = .ok (.pointer (some ⟨b, of + j * 11, none⟩)) W' := by intro W'; simp [go_sem, hlt]
      generalize l[j] = s at *
      have HC := Lib.hid hone
      have HB := Lib.hid HI.out.2
      cases hok : okC s with
      | true =>
        have HN := Lib.hid (hst hok)
        rw [hok] at HC
        clear hone hst hbd hok HI hv hc hs
        go_wp2_with (first
          | ((with_reducible apply op_load); exact HL.out; exact rfl)
          | (go_at_call 127; refine HC.out.mono ?_; rintro e W2 ⟨rfl, hb⟩; have HB2 := Lib.hid (below_trans HB.out hb); clear hb))
        go_roundw
        case rel => exact ⟨j + 1, hlt1, by go_num, Lib.hid ⟨HN.out, HB2.out⟩⟩
        case measure => simp [intOf]; omega
      | false =>
        have HN := Lib.hid (hbd hok)
        rw [hok] at HC
        clear hone hst hbd hok HI hv hc hs
        go_wp2_with (first
          | ((with_reducible apply op_load); exact HL.out; exact rfl)
          | (go_at_call 127; refine HC.out.mono ?_; rintro e W2 ⟨rfl, hb⟩; have HB2 := Lib.hid (below_trans HB.out hb); clear hb))
        go_ret
        exact ⟨by rw [HN.out]; rfl, HB2.out⟩
    · obtain rfl : j = l.length := by omega
      have hall := HI.out.1
      rw [List.take_length] at hall
      have HF := Lib.hid (And.intro (noAt_none hall) HI.out.2)
      clear HI hall
      go_wp2
      go_ret
      exact ⟨by rw [HF.out.1]; rfl, HF.out.2⟩
theorem hasBadC_any {w : World} (hE : Env w) {p : Option Addr} {c : Nat} {l : List ChangeD} (h : GRd CRd 11 w p c l) (ht : ∀ x ∈ l, totC x ≤ 900000) : Calls Tryz.prog 126 #[.slice p l.length c, .func (.func 127) #[] #[]] w fun e w' => e = .returned (.bool (!(l.all okC))) ∧ Below w.heap.size w w' := by
  have HV := Lib.hid (badCIdx_any hE h ht)
  have HG := Lib.hid (noAt_ge (f := okC) l)
  generalize l.all okC = r at *
  clear hE h ht
  go_enter Tryz.func126, Tryz.ntmps126
  go_wp2_with (go_at_call 153; refine HV.out.mono ?_; rintro e W1 ⟨rfl, hb⟩; have HB := Lib.hid hb; clear hb)
  go_ret
  refine ⟨?_, HB.out⟩
  rw [← HG.out]; rfl
theorem allC_any {w : World} (hE : Env w) {p : Option Addr} {c : Nat} {l : List ChangeD} (h : GRd CRd 11 w p c l) (ht : ∀ x ∈ l, totC x ≤ 900000) : Calls Tryz.prog 75 #[.slice p l.length c] w fun e w' => e = .returned (.bool (l.all okC)) ∧ Below w.heap.size w w' := by
  have HV := Lib.hid (hasBadC_any hE h ht)
  generalize l.all okC = r at *
  clear hE h ht
  go_enter Tryz.func75, Tryz.ntmps75
  go_wp2_with (go_at_call 126; refine HV.out.mono ?_; rintro e W1 ⟨rfl, hb⟩; have HB := Lib.hid hb; clear hb)
  go_ret
  refine ⟨?_, HB.out⟩
  cases r <;> rfl
def outC (l : List ChangeD) : List UInt8 := if l.all okC && decide (l.length ≤ 65536) then changesC l else []
def errC (l : List ChangeD) : Int := if l.all okC then (if l.length ≤ 65536 then 0 else 3) else 2
theorem useC_of {c : ChangeD} (h : okC c = true) (hr : rngC c) (ht : totC c < 18446744073709551616) : useC c := by
  have hw := wf_of_okC h hr ht
  have hk := wfC_kind hw
  refine ⟨hk.1, hk.2, fun e => ?_, fun e => ?_, fun e => ⟨hr.2.1, hr.2.2.1⟩⟩
  · unfold wfC toldC at hw
    rw [if_pos e] at hw
    rcases hw with ⟨_, _, _, h, _⟩ | ⟨k, _⟩ | ⟨k, _⟩ | ⟨k, _⟩
    · exact h
    · exact absurd k (by simp)
    · exact absurd k (by simp)
    · exact absurd k (by simp)
  · unfold wfC toldC at hw
    rw [if_neg (by omega), if_pos e] at hw
    rcases hw with ⟨k, _⟩ | ⟨_, _, _, _, h⟩ | ⟨k, _⟩ | ⟨k, _⟩
    · exact absurd k (by simp)
    · exact h
    · exact absurd k (by simp)
    · exact absurd k (by simp)
theorem codecChanges_any {w : World} (hE : Env w) {p : Option Addr} {c : Nat} {l : List ChangeD} (h : GRd CRd 11 w p c l) (hr : ∀ x ∈ l, rngC x) (ht : (l.map totC).sum ≤ 900000) : Calls Tryz.prog 27 #[.slice p l.length c] w (Out w (outC l) (errC l)) := by
  have z1 : (l.length : Int) ≤ 140737488355328 := by have := h.1.2.1; omega
  have htx : ∀ x ∈ l, totC x ≤ 900000 := fun x hx => Nat.le_trans (mem_sum totC hx) ht
  have hall := allC_any hE h htx
  have hlen : (changesC l).length ≤ 57600010 := by have := changesC_len hr (by omega); omega
  have huse : l.all okC = true → ∀ x ∈ l, useC x := fun ha x hx => useC_of (List.all_eq_true.1 ha x hx) (hr x hx) (by have := htx x hx; omega)
  have HC := Lib.hid hall
  have HX := Lib.hid (And.intro h (And.intro hlen huse))
  have HO := Lib.hid (And.intro (show outC l = if l.all okC && decide (l.length ≤ 65536) then changesC l else [] from rfl) (show errC l = if l.all okC then (if l.length ≤ 65536 then 0 else 3) else 2 from rfl))
  clear hE h hr ht htx hall hlen huse
  generalize outC l = out at *
  generalize errC l = err at *
  cases ha : l.all okC with
  | false =>
    rw [ha] at HC
    have HA := Lib.hid ha
    clear ha
    go_enter Tryz.func27, Tryz.ntmps27
    go_wp2_with (go_at_call 75; refine HC.out.mono ?_; rintro e W1 ⟨rfl, hb⟩; have HB := Lib.hid hb; clear hb)
    go_ret2
    have e1 : out = [] := by rw [HO.out.1, HA.out]; rfl
    have e2 : err = 2 := by rw [HO.out.2, HA.out]; rfl
    rw [e1, e2]
    exact ⟨_, rfl, own_none _ _, HB.out⟩
  | true =>
    rw [ha] at HC
    by_cases hl : l.length ≤ 65536
    · have z2 : ¬ (65536 : Int) < (l.length : Int) := by omega
      have e1 : out = changesC l := by rw [HO.out.1, ha, decide_eq_true hl]; rfl
      have e2 : err = 0 := by rw [HO.out.2, ha, if_pos hl]; rfl
      have HEQ := Lib.hid (And.intro e1 e2)
      have HU := Lib.hid (HX.out.2.2 ha)
      clear ha e1 e2 hl HO
      go_enter Tryz.func27, Tryz.ntmps27
      go_wp2_with (first
        | (go_at_call 75; refine HC.out.mono ?_; rintro e w2 ⟨rfl, hb⟩;
           (
            have hnw := writer_new w2
            have hV := wvalue_any w2
            have HV := Lib.hid (rowC_tells ef_change changeC (HX.out.1.below (fun h => h.below hb) hb) hnw (by have := HX.out.2.1; unfold changesC at this; simp only [List.length_nil]; omega) (fun y hy m o W cs h1 h2 h3 => wchange_any hV (HU.out y hy) h2 h1 h3))
            have HB := Lib.hid hb
            clear hb hnw hV))
        | (go_at_call 76; refine HV.out.mono ?_; rintro e w4 ⟨rfl, o, h4, t4⟩;
           (
            have hcell := cellOf (o := 0) h4.box rfl
            have HF := Lib.hid h4
            clear h4 t4 HV)))
      go_ret2
      have h4 := HF.out
      rw [HEQ.out.1, HEQ.out.2]
      have := HB.out.size
      have hown := h4.own
      have e3 : ([] : List UInt8) ++ rowsC changeC l = changesC l := rfl
      rw [e3] at hown
      exact ⟨o, rfl, hown.imp fun b _ hb => by have := hb.1; omega, below_trans HB.out h4.b⟩
    · have z2 : (65536 : Int) < (l.length : Int) := by omega
      have e1 : out = [] := by rw [HO.out.1, ha, decide_eq_false hl]; rfl
      have e2 : err = 3 := by rw [HO.out.2, ha, if_neg hl]; rfl
      have HEQ := Lib.hid (And.intro e1 e2)
      clear ha e1 e2 hl HO HX
      go_enter Tryz.func27, Tryz.ntmps27
      go_wp2_with (go_at_call 75; refine HC.out.mono ?_; rintro e W1 ⟨rfl, hb⟩; have HB := Lib.hid hb; clear hb)
      go_ret2
      rw [HEQ.out.1, HEQ.out.2]
      exact ⟨_, rfl, own_none _ _, HB.out⟩
end Go.Proofs.YthdfedfholmbmaaGreatDoor

namespace Go.Proofs.YthdfedfholmbmaaGreatDoor
open Go.RowKit
theorem rt_nodes : RT (rdRows rdNode) (rowsC nodeC) (fun l => u64T l.length ∧ ∀ x ∈ l, wfN x) := rt_rows rt_node fun n _ => nodeC_pos n
theorem rt_rels : RT (rdRows rdRel) (rowsC relC) (fun l => u64T l.length ∧ ∀ x ∈ l, wfR x) := rt_rows rt_rel fun n _ => relC_pos n
theorem el_graph : EL GrOwn 4 := by
  refine ⟨?_, ?_, ?_, ?_⟩
  · rintro w w' P p a hk ⟨vn, vr, rfl, h1, h2⟩; exact ⟨vn, vr, rfl, h1.keep el_node hk, h2.keep el_rel hk⟩
  · rintro w P P' p a hp ⟨vn, vr, rfl, h1, h2⟩; exact ⟨vn, vr, rfl, h1.imp el_node hp, h2.imp el_rel hp⟩
  · rintro w P p a ⟨vn, vr, rfl, h1, h2⟩; rfl
  · rintro w P p a ⟨vn, vr, rfl, ⟨xs, h1, _⟩, ys, h2, _⟩ u hu
    have e1 := own_one h1
    have e2 := own_one h2
    simp only [List.mem_cons, List.not_mem_nil, or_false] at hu
    rcases hu with rfl | rfl | rfl | rfl <;> first | rfl | assumption
def okGraph (W : World) (p : GraphD) (x : Value) (W' : World) : Prop := ∃ cs, x = .agg cs ∧ GrOwn W' (fun b => W.heap.size ≤ b) p cs
theorem rdGraph_eq (l : List UInt8) : rdGraph l = match rdRows rdNode l with
    | none => none
    | some (ns, r1) => match rdRows rdRel r1 with
      | none => none
      | some (rs, r2) => match rdN 0 0 r2 with
        | none => none
        | some (a, r3) => match rdN 0 0 r3 with
          | none => none
          | some (b, r4) => some (⟨ns, rs, toI a, toI b⟩, r4) := by
  unfold rdGraph
  cases h1 : rdRows rdNode l with
  | none => simp only; exact map_n (seq_n1 h1)
  | some p1 =>
    obtain ⟨ns, r1⟩ := p1
    simp only
    cases h2 : rdRows rdRel r1 with
    | none => simp only; exact map_n (seq_n2 h1 (seq_n1 h2))
    | some p2 =>
      obtain ⟨rs, r2⟩ := p2
      simp only
      cases h3 : rdN 0 0 r2 with
      | none => simp only; exact map_n (seq_n2 h1 (seq_n2 h2 (seq_n1 (map_n h3))))
      | some p3 =>
        obtain ⟨a, r3⟩ := p3
        simp only
        cases h4 : rdN 0 0 r3 with
        | none => simp only; exact map_n (seq_n2 h1 (seq_n2 h2 (seq_n2 (map_s h3) (map_n h4))))
        | some p4 =>
          obtain ⟨b, r4⟩ := p4
          simp only
          exact map_s (seq_s h1 (seq_s h2 (seq_s (map_s h3) (map_s h4))))
theorem rgraph_any {w W : World} {q : Nat} {l : List UInt8} (h : RSt 141 w W q l) (hl : l.length ≤ 1000000) :
    Calls Tryz.prog 50 #[.pointer (some ⟨q, 0, none⟩)] W (Reads w W q (rdGraph l) (okGraph W)) := by
  have hq := h.lt
  have hx0 : BX 25 W q #[.slice none 0 0, .slice none 0 0, .int .i64 0, .int .i64 0] (W.heap.size + 1) #[.slice none 0 0, .slice none 0 0, .int .i64 0, .int .i64 0] ((W.alloc (.cells #[.slice none 0 0, .slice none 0 0, .int .i64 0, .int .i64 0] 25)).alloc (.cells #[.slice none 0 0, .slice none 0 0, .int .i64 0, .int .i64 0] 25)) := by
    have h := BX.start (T := 25) (z := #[.slice none 0 0, .slice none 0 0, .int .i64 0, .int .i64 0]) (cs := #[.slice none 0 0, .slice none 0 0, .int .i64 0, .int .i64 0]) hq (RTo.refl q (W.alloc (.cells #[.slice none 0 0, .slice none 0 0, .int .i64 0, .int .i64 0] 25)))
    simp only [World.size_alloc] at h
    exact h
  have hb0 : Below W.heap.size W ((W.alloc (.cells #[.slice none 0 0, .slice none 0 0, .int .i64 0, .int .i64 0] 25)).alloc (.cells #[.slice none 0 0, .slice none 0 0, .int .i64 0, .int .i64 0] 25)) := (below_new _).alloc (by simp) _
  have HR0 := Lib.hid (rrowsN_reads el_node rdNode hl (h.below hb0) (fun W1 l' h1 h2 => rnode_any h1 h2) (fun l' x s hd => rt_node.le hd))
  have HX0 := Lib.hid hx0
  clear hb0 h hx0
  have he := rdGraph_eq l
  cases hr0 : rdRows rdNode l with
  | none =>
    rw [hr0] at HR0 he
    simp only at he
    have HE := Lib.hid he
    clear he
    go_enter Tryz.func50, Tryz.ntmps50
    go_wp2_with (first
      | (go_at_call 51; (refine HR0.out.mono ?_; rintro e V1 h1; obtain ⟨t, hb, rfl⟩ := h1.none; have HBAD := Lib.hid (And.intro t hb); clear h1 t hb)))
    exact ⟨rfl, Reads.of HE.out ⟨HX0.out.tr.trans HBAD.out.1, HBAD.out.2, rfl⟩⟩
  | some pp0 =>
    obtain ⟨ns, r1⟩ := pp0
    have hl1 := rt_nodes.le hr0
    rw [hr0] at HR0 he
    simp only at he
    cases hr1 : rdRows rdRel r1 with
    | none =>
      rw [hr1] at he
      simp only at he
      have HE := Lib.hid he
      clear he
      go_enter Tryz.func50, Tryz.ntmps50
      go_wp2_with (first
        | (go_at_call 51; (
             refine HR0.out.mono ?_
             rintro e V1 h1
             obtain ⟨t, hb, x, rfl, how, sv⟩ := h1.some
             obtain ⟨p1, c1, rfl⟩ := how.slice
             have hx := HX0.out.step t
             have hx2 : BX 25 W q #[.slice none 0 0, .slice none 0 0, .int .i64 0, .int .i64 0] (W.heap.size + 1) #[.slice p1 ns.length c1, .slice none 0 0, .int .i64 0, .int .i64 0] (V1.setCell ⟨W.heap.size + 1, 0, none⟩ (.slice p1 ns.length c1)) := by simpa using hx.set 0 (.slice p1 ns.length c1)
             have sv2 := hx.setR sv 0 (.slice p1 ns.length c1)
             have HS0 := Lib.hid (put_nodes (p := p1) (n := ns.length) (c := c1) (cellOf (o := 0) hx.p3 rfl) (freeOf (o := 0) hx.p3))
             have hq2 := hx.ql
             have hlt := HX0.out.lt
             have ho1 : GOwn NOwn 70 3 (V1.setCell ⟨W.heap.size + 1, 0, none⟩ (.slice p1 ns.length c1)) (fun b => W.heap.size + 2 ≤ b) (.slice p1 ns.length c1) ns := (how.keep el_node fun b hb1 hl => Below.heap_setCell _ _ _ _ (by show b ≠ W.heap.size + 1; have hs0 : ((W.alloc (.cells #[.slice none 0 0, .slice none 0 0, .int .i64 0, .int .i64 0] 25)).alloc (.cells #[.slice none 0 0, .slice none 0 0, .int .i64 0, .int .i64 0] 25)).heap.size = W.heap.size + 2 := (by simp); omega)).imp el_node fun b _ hb1 => by have hs0 : ((W.alloc (.cells #[.slice none 0 0, .slice none 0 0, .int .i64 0, .int .i64 0] 25)).alloc (.cells #[.slice none 0 0, .slice none 0 0, .int .i64 0, .int .i64 0] 25)).heap.size = W.heap.size + 2 := (by simp); omega
             have HX1 := Lib.hid (And.intro hx2 ho1)
             have HR1 := Lib.hid (rrowsR_reads el_rel rdRel (by omega) sv2 (fun W1 l' h1 h2 => rrel_any h1 h2) (fun l' x s hd => rt_rel.le hd))
             rw [hr1] at HR1
             clear h1 t hb sv hx hx2 sv2 hq2 hlt HR0 how ho1))
        | ((with_reducible apply op_store); exact HS0.out; exact rfl; exact rfl; clear HS0)
        | (go_at_call 53; (refine HR1.out.mono ?_; rintro e V2 h2; obtain ⟨t, hb, rfl⟩ := h2.none; have HBAD := Lib.hid (And.intro t hb); clear h2 t hb)))
      exact ⟨rfl, Reads.of HE.out ⟨HX1.out.1.tr.trans HBAD.out.1, HBAD.out.2, rfl⟩⟩
    | some pp1 =>
      obtain ⟨rs, r2⟩ := pp1
      have hl2 := rt_rels.le hr1
      rw [hr1] at he
      simp only at he
      cases hr2 : rdN 0 0 r2 with
      | none =>
        rw [hr2] at he
        simp only at he
        have HE := Lib.hid he
        clear he
        go_enter Tryz.func50, Tryz.ntmps50
        go_wp2_with (first
          | (go_at_call 51; (
               refine HR0.out.mono ?_
               rintro e V1 h1
               obtain ⟨t, hb, x, rfl, how, sv⟩ := h1.some
               obtain ⟨p1, c1, rfl⟩ := how.slice
               have hx := HX0.out.step t
               have hx2 : BX 25 W q #[.slice none 0 0, .slice none 0 0, .int .i64 0, .int .i64 0] (W.heap.size + 1) #[.slice p1 ns.length c1, .slice none 0 0, .int .i64 0, .int .i64 0] (V1.setCell ⟨W.heap.size + 1, 0, none⟩ (.slice p1 ns.length c1)) := by simpa using hx.set 0 (.slice p1 ns.length c1)
               have sv2 := hx.setR sv 0 (.slice p1 ns.length c1)
               have HS0 := Lib.hid (put_nodes (p := p1) (n := ns.length) (c := c1) (cellOf (o := 0) hx.p3 rfl) (freeOf (o := 0) hx.p3))
               have hq2 := hx.ql
               have hlt := HX0.out.lt
               have ho1 : GOwn NOwn 70 3 (V1.setCell ⟨W.heap.size + 1, 0, none⟩ (.slice p1 ns.length c1)) (fun b => W.heap.size + 2 ≤ b) (.slice p1 ns.length c1) ns := (how.keep el_node fun b hb1 hl => Below.heap_setCell _ _ _ _ (by show b ≠ W.heap.size + 1; have hs0 : ((W.alloc (.cells #[.slice none 0 0, .slice none 0 0, .int .i64 0, .int .i64 0] 25)).alloc (.cells #[.slice none 0 0, .slice none 0 0, .int .i64 0, .int .i64 0] 25)).heap.size = W.heap.size + 2 := (by simp); omega)).imp el_node fun b _ hb1 => by have hs0 : ((W.alloc (.cells #[.slice none 0 0, .slice none 0 0, .int .i64 0, .int .i64 0] 25)).alloc (.cells #[.slice none 0 0, .slice none 0 0, .int .i64 0, .int .i64 0] 25)).heap.size = W.heap.size + 2 := (by simp); omega
               have HX1 := Lib.hid (And.intro hx2 ho1)
               have HR1 := Lib.hid (rrowsR_reads el_rel rdRel (by omega) sv2 (fun W1 l' h1 h2 => rrel_any h1 h2) (fun l' x s hd => rt_rel.le hd))
               rw [hr1] at HR1
               clear h1 t hb sv hx hx2 sv2 hq2 hlt HR0 how ho1))
          | ((with_reducible apply op_store); exact HS0.out; exact rfl; exact rfl; clear HS0)
          | (go_at_call 53; (
               refine HR1.out.mono ?_
               rintro e V2 h2
               obtain ⟨t, hb, x, rfl, how, sv⟩ := h2.some
               obtain ⟨p2, c2, rfl⟩ := how.slice
               have hx := HX1.out.1.step t
               have hx2 : BX 25 W q #[.slice none 0 0, .slice none 0 0, .int .i64 0, .int .i64 0] (W.heap.size + 1) #[.slice p1 ns.length c1, .slice p2 rs.length c2, .int .i64 0, .int .i64 0] (V2.setCell ⟨W.heap.size + 1, 1, none⟩ (.slice p2 rs.length c2)) := by simpa using hx.set 1 (.slice p2 rs.length c2)
               have sv2 := hx.setR sv 1 (.slice p2 rs.length c2)
               have HS1 := Lib.hid (put_rels (p := p2) (n := rs.length) (c := c2) (cellOf (o := 1) hx.p3 rfl) (freeOf (o := 1) hx.p3))
               have hq2 := hx.ql
               have hlt := HX1.out.1.lt
               have ho1 : GOwn NOwn 70 3 (V2.setCell ⟨W.heap.size + 1, 1, none⟩ (.slice p2 rs.length c2)) (fun b => W.heap.size + 2 ≤ b) (.slice p1 ns.length c1) ns := HX1.out.2.keep el_node fun b hb1 hl => (Below.heap_setCell _ _ _ _ (by show b ≠ W.heap.size + 1; omega)).trans (t.keep b hl (by omega))
               have ho2 : GOwn ROwn 72 5 (V2.setCell ⟨W.heap.size + 1, 1, none⟩ (.slice p2 rs.length c2)) (fun b => W.heap.size + 2 ≤ b) (.slice p2 rs.length c2) rs := (how.keep el_rel fun b hb1 hl => Below.heap_setCell _ _ _ _ (by show b ≠ W.heap.size + 1; skip; omega)).imp el_rel fun b _ hb1 => by have := HX1.out.1.lt; omega
               have HX2 := Lib.hid (And.intro hx2 (And.intro ho1 ho2))
               have HR2 := Lib.hid (rnumber_any sv2)
               rw [hr2] at HR2
               clear h2 t hb sv hx hx2 sv2 hq2 hlt HR1 how ho1 ho2))
          | ((with_reducible apply op_store); exact HS1.out; exact rfl; exact rfl; clear HS1)
          | (go_at_call 55; (refine HR2.out.mono ?_; rintro e V3 h3; obtain ⟨t, hb, rfl⟩ := h3.none; have HBAD := Lib.hid (And.intro t hb); clear h3 t hb)))
        exact ⟨rfl, Reads.of HE.out ⟨HX2.out.1.tr.trans HBAD.out.1, HBAD.out.2, rfl⟩⟩
      | some pp2 =>
        obtain ⟨a, r3⟩ := pp2
        have hl3 := rdN_le hr2
        rw [hr2] at he
        simp only at he
        have HCV2 := Lib.hid (fun W' : World => conv_i64 (rdN_lt hr2) W')
        cases hr3 : rdN 0 0 r3 with
        | none =>
          rw [hr3] at he
          simp only at he
          have HE := Lib.hid he
          clear he
          go_enter Tryz.func50, Tryz.ntmps50
          go_wp2_with (first
            | (go_at_call 51; (
                 refine HR0.out.mono ?_
                 rintro e V1 h1
                 obtain ⟨t, hb, x, rfl, how, sv⟩ := h1.some
                 obtain ⟨p1, c1, rfl⟩ := how.slice
                 have hx := HX0.out.step t
                 have hx2 : BX 25 W q #[.slice none 0 0, .slice none 0 0, .int .i64 0, .int .i64 0] (W.heap.size + 1) #[.slice p1 ns.length c1, .slice none 0 0, .int .i64 0, .int .i64 0] (V1.setCell ⟨W.heap.size + 1, 0, none⟩ (.slice p1 ns.length c1)) := by simpa using hx.set 0 (.slice p1 ns.length c1)
                 have sv2 := hx.setR sv 0 (.slice p1 ns.length c1)
                 have HS0 := Lib.hid (put_nodes (p := p1) (n := ns.length) (c := c1) (cellOf (o := 0) hx.p3 rfl) (freeOf (o := 0) hx.p3))
                 have hq2 := hx.ql
                 have hlt := HX0.out.lt
                 have ho1 : GOwn NOwn 70 3 (V1.setCell ⟨W.heap.size + 1, 0, none⟩ (.slice p1 ns.length c1)) (fun b => W.heap.size + 2 ≤ b) (.slice p1 ns.length c1) ns := (how.keep el_node fun b hb1 hl => Below.heap_setCell _ _ _ _ (by show b ≠ W.heap.size + 1; have hs0 : ((W.alloc (.cells #[.slice none 0 0, .slice none 0 0, .int .i64 0, .int .i64 0] 25)).alloc (.cells #[.slice none 0 0, .slice none 0 0, .int .i64 0, .int .i64 0] 25)).heap.size = W.heap.size + 2 := (by simp); omega)).imp el_node fun b _ hb1 => by have hs0 : ((W.alloc (.cells #[.slice none 0 0, .slice none 0 0, .int .i64 0, .int .i64 0] 25)).alloc (.cells #[.slice none 0 0, .slice none 0 0, .int .i64 0, .int .i64 0] 25)).heap.size = W.heap.size + 2 := (by simp); omega
                 have HX1 := Lib.hid (And.intro hx2 ho1)
                 have HR1 := Lib.hid (rrowsR_reads el_rel rdRel (by omega) sv2 (fun W1 l' h1 h2 => rrel_any h1 h2) (fun l' x s hd => rt_rel.le hd))
                 rw [hr1] at HR1
                 clear h1 t hb sv hx hx2 sv2 hq2 hlt HR0 how ho1))
            | ((with_reducible apply op_store); exact HS0.out; exact rfl; exact rfl; clear HS0)
            | (go_at_call 53; (
                 refine HR1.out.mono ?_
                 rintro e V2 h2
                 obtain ⟨t, hb, x, rfl, how, sv⟩ := h2.some
                 obtain ⟨p2, c2, rfl⟩ := how.slice
                 have hx := HX1.out.1.step t
                 have hx2 : BX 25 W q #[.slice none 0 0, .slice none 0 0, .int .i64 0, .int .i64 0] (W.heap.size + 1) #[.slice p1 ns.length c1, .slice p2 rs.length c2, .int .i64 0, .int .i64 0] (V2.setCell ⟨W.heap.size + 1, 1, none⟩ (.slice p2 rs.length c2)) := by simpa using hx.set 1 (.slice p2 rs.length c2)
                 have sv2 := hx.setR sv 1 (.slice p2 rs.length c2)
                 have HS1 := Lib.hid (put_rels (p := p2) (n := rs.length) (c := c2) (cellOf (o := 1) hx.p3 rfl) (freeOf (o := 1) hx.p3))
                 have hq2 := hx.ql
                 have hlt := HX1.out.1.lt
                 have ho1 : GOwn NOwn 70 3 (V2.setCell ⟨W.heap.size + 1, 1, none⟩ (.slice p2 rs.length c2)) (fun b => W.heap.size + 2 ≤ b) (.slice p1 ns.length c1) ns := HX1.out.2.keep el_node fun b hb1 hl => (Below.heap_setCell _ _ _ _ (by show b ≠ W.heap.size + 1; omega)).trans (t.keep b hl (by omega))
                 have ho2 : GOwn ROwn 72 5 (V2.setCell ⟨W.heap.size + 1, 1, none⟩ (.slice p2 rs.length c2)) (fun b => W.heap.size + 2 ≤ b) (.slice p2 rs.length c2) rs := (how.keep el_rel fun b hb1 hl => Below.heap_setCell _ _ _ _ (by show b ≠ W.heap.size + 1; skip; omega)).imp el_rel fun b _ hb1 => by have := HX1.out.1.lt; omega
                 have HX2 := Lib.hid (And.intro hx2 (And.intro ho1 ho2))
                 have HR2 := Lib.hid (rnumber_any sv2)
                 rw [hr2] at HR2
                 clear h2 t hb sv hx hx2 sv2 hq2 hlt HR1 how ho1 ho2))
            | ((with_reducible apply op_store); exact HS1.out; exact rfl; exact rfl; clear HS1)
            | (go_at_call 55; (
                 refine HR2.out.mono ?_
                 rintro e V3 h3
                 obtain ⟨t, hb, x, rfl, rfl, sv⟩ := h3.some
                 have hx := HX2.out.1.step t
                 have hx2 : BX 25 W q #[.slice none 0 0, .slice none 0 0, .int .i64 0, .int .i64 0] (W.heap.size + 1) #[.slice p1 ns.length c1, .slice p2 rs.length c2, .int .i64 (toI a), .int .i64 0] (V3.setCell ⟨W.heap.size + 1, 2, none⟩ (.int .i64 (toI a))) := by simpa using hx.set 2 (.int .i64 (toI a))
                 have sv2 := hx.setR sv 2 (.int .i64 (toI a))
                 have HS2 := Lib.hid (put_i64 (n := toI a) (cellOf (o := 2) hx.p3 rfl) (freeOf (o := 2) hx.p3))
                 have hq2 := hx.ql
                 have hlt := HX2.out.1.lt
                 have ho1 : GOwn NOwn 70 3 (V3.setCell ⟨W.heap.size + 1, 2, none⟩ (.int .i64 (toI a))) (fun b => W.heap.size + 2 ≤ b) (.slice p1 ns.length c1) ns := HX2.out.2.1.keep el_node fun b hb1 hl => (Below.heap_setCell _ _ _ _ (by show b ≠ W.heap.size + 1; omega)).trans (t.keep b hl (by omega))
                 have ho2 : GOwn ROwn 72 5 (V3.setCell ⟨W.heap.size + 1, 2, none⟩ (.int .i64 (toI a))) (fun b => W.heap.size + 2 ≤ b) (.slice p2 rs.length c2) rs := HX2.out.2.2.keep el_rel fun b hb1 hl => (Below.heap_setCell _ _ _ _ (by show b ≠ W.heap.size + 1; omega)).trans (t.keep b hl (by omega))
                 have HX3 := Lib.hid (And.intro hx2 (And.intro ho1 ho2))
                 have HR3 := Lib.hid (rnumber_any sv2)
                 rw [hr3] at HR3
                 clear h3 t hb sv hx hx2 sv2 hq2 hlt HR2  ho1 ho2))
            | ((with_reducible apply op_store); exact HS2.out; exact rfl; exact rfl; clear HS2)
            | ((with_reducible apply op_conv); exact HCV2.out _; exact rfl)
            | (go_at_call 55; (refine HR3.out.mono ?_; rintro e V4 h4; obtain ⟨t, hb, rfl⟩ := h4.none; have HBAD := Lib.hid (And.intro t hb); clear h4 t hb)))
          exact ⟨rfl, Reads.of HE.out ⟨HX3.out.1.tr.trans HBAD.out.1, HBAD.out.2, rfl⟩⟩
        | some pp3 =>
          obtain ⟨b, r4⟩ := pp3
          have hl4 := rdN_le hr3
          rw [hr3] at he
          simp only at he
          have HCV3 := Lib.hid (fun W' : World => conv_i64 (rdN_lt hr3) W')
          have HE := Lib.hid he
          clear he
          go_enter Tryz.func50, Tryz.ntmps50
          go_wp2_with (first
            | (go_at_call 51; (
                 refine HR0.out.mono ?_
                 rintro e V1 h1
                 obtain ⟨t, hb, x, rfl, how, sv⟩ := h1.some
                 obtain ⟨p1, c1, rfl⟩ := how.slice
                 have hx := HX0.out.step t
                 have hx2 : BX 25 W q #[.slice none 0 0, .slice none 0 0, .int .i64 0, .int .i64 0] (W.heap.size + 1) #[.slice p1 ns.length c1, .slice none 0 0, .int .i64 0, .int .i64 0] (V1.setCell ⟨W.heap.size + 1, 0, none⟩ (.slice p1 ns.length c1)) := by simpa using hx.set 0 (.slice p1 ns.length c1)
                 have sv2 := hx.setR sv 0 (.slice p1 ns.length c1)
                 have HS0 := Lib.hid (put_nodes (p := p1) (n := ns.length) (c := c1) (cellOf (o := 0) hx.p3 rfl) (freeOf (o := 0) hx.p3))
                 have hq2 := hx.ql
                 have hlt := HX0.out.lt
                 have ho1 : GOwn NOwn 70 3 (V1.setCell ⟨W.heap.size + 1, 0, none⟩ (.slice p1 ns.length c1)) (fun b => W.heap.size + 2 ≤ b) (.slice p1 ns.length c1) ns := (how.keep el_node fun b hb1 hl => Below.heap_setCell _ _ _ _ (by show b ≠ W.heap.size + 1; have hs0 : ((W.alloc (.cells #[.slice none 0 0, .slice none 0 0, .int .i64 0, .int .i64 0] 25)).alloc (.cells #[.slice none 0 0, .slice none 0 0, .int .i64 0, .int .i64 0] 25)).heap.size = W.heap.size + 2 := (by simp); omega)).imp el_node fun b _ hb1 => by have hs0 : ((W.alloc (.cells #[.slice none 0 0, .slice none 0 0, .int .i64 0, .int .i64 0] 25)).alloc (.cells #[.slice none 0 0, .slice none 0 0, .int .i64 0, .int .i64 0] 25)).heap.size = W.heap.size + 2 := (by simp); omega
                 have HX1 := Lib.hid (And.intro hx2 ho1)
                 have HR1 := Lib.hid (rrowsR_reads el_rel rdRel (by omega) sv2 (fun W1 l' h1 h2 => rrel_any h1 h2) (fun l' x s hd => rt_rel.le hd))
                 rw [hr1] at HR1
                 clear h1 t hb sv hx hx2 sv2 hq2 hlt HR0 how ho1))
            | ((with_reducible apply op_store); exact HS0.out; exact rfl; exact rfl; clear HS0)
            | (go_at_call 53; (
                 refine HR1.out.mono ?_
                 rintro e V2 h2
                 obtain ⟨t, hb, x, rfl, how, sv⟩ := h2.some
                 obtain ⟨p2, c2, rfl⟩ := how.slice
                 have hx := HX1.out.1.step t
                 have hx2 : BX 25 W q #[.slice none 0 0, .slice none 0 0, .int .i64 0, .int .i64 0] (W.heap.size + 1) #[.slice p1 ns.length c1, .slice p2 rs.length c2, .int .i64 0, .int .i64 0] (V2.setCell ⟨W.heap.size + 1, 1, none⟩ (.slice p2 rs.length c2)) := by simpa using hx.set 1 (.slice p2 rs.length c2)
                 have sv2 := hx.setR sv 1 (.slice p2 rs.length c2)
                 have HS1 := Lib.hid (put_rels (p := p2) (n := rs.length) (c := c2) (cellOf (o := 1) hx.p3 rfl) (freeOf (o := 1) hx.p3))
                 have hq2 := hx.ql
                 have hlt := HX1.out.1.lt
                 have ho1 : GOwn NOwn 70 3 (V2.setCell ⟨W.heap.size + 1, 1, none⟩ (.slice p2 rs.length c2)) (fun b => W.heap.size + 2 ≤ b) (.slice p1 ns.length c1) ns := HX1.out.2.keep el_node fun b hb1 hl => (Below.heap_setCell _ _ _ _ (by show b ≠ W.heap.size + 1; omega)).trans (t.keep b hl (by omega))
                 have ho2 : GOwn ROwn 72 5 (V2.setCell ⟨W.heap.size + 1, 1, none⟩ (.slice p2 rs.length c2)) (fun b => W.heap.size + 2 ≤ b) (.slice p2 rs.length c2) rs := (how.keep el_rel fun b hb1 hl => Below.heap_setCell _ _ _ _ (by show b ≠ W.heap.size + 1; skip; omega)).imp el_rel fun b _ hb1 => by have := HX1.out.1.lt; omega
                 have HX2 := Lib.hid (And.intro hx2 (And.intro ho1 ho2))
                 have HR2 := Lib.hid (rnumber_any sv2)
                 rw [hr2] at HR2
                 clear h2 t hb sv hx hx2 sv2 hq2 hlt HR1 how ho1 ho2))
            | ((with_reducible apply op_store); exact HS1.out; exact rfl; exact rfl; clear HS1)
            | (go_at_call 55; (
                 refine HR2.out.mono ?_
                 rintro e V3 h3
                 obtain ⟨t, hb, x, rfl, rfl, sv⟩ := h3.some
                 have hx := HX2.out.1.step t
                 have hx2 : BX 25 W q #[.slice none 0 0, .slice none 0 0, .int .i64 0, .int .i64 0] (W.heap.size + 1) #[.slice p1 ns.length c1, .slice p2 rs.length c2, .int .i64 (toI a), .int .i64 0] (V3.setCell ⟨W.heap.size + 1, 2, none⟩ (.int .i64 (toI a))) := by simpa using hx.set 2 (.int .i64 (toI a))
                 have sv2 := hx.setR sv 2 (.int .i64 (toI a))
                 have HS2 := Lib.hid (put_i64 (n := toI a) (cellOf (o := 2) hx.p3 rfl) (freeOf (o := 2) hx.p3))
                 have hq2 := hx.ql
                 have hlt := HX2.out.1.lt
                 have ho1 : GOwn NOwn 70 3 (V3.setCell ⟨W.heap.size + 1, 2, none⟩ (.int .i64 (toI a))) (fun b => W.heap.size + 2 ≤ b) (.slice p1 ns.length c1) ns := HX2.out.2.1.keep el_node fun b hb1 hl => (Below.heap_setCell _ _ _ _ (by show b ≠ W.heap.size + 1; omega)).trans (t.keep b hl (by omega))
                 have ho2 : GOwn ROwn 72 5 (V3.setCell ⟨W.heap.size + 1, 2, none⟩ (.int .i64 (toI a))) (fun b => W.heap.size + 2 ≤ b) (.slice p2 rs.length c2) rs := HX2.out.2.2.keep el_rel fun b hb1 hl => (Below.heap_setCell _ _ _ _ (by show b ≠ W.heap.size + 1; omega)).trans (t.keep b hl (by omega))
                 have HX3 := Lib.hid (And.intro hx2 (And.intro ho1 ho2))
                 have HR3 := Lib.hid (rnumber_any sv2)
                 rw [hr3] at HR3
                 clear h3 t hb sv hx hx2 sv2 hq2 hlt HR2  ho1 ho2))
            | ((with_reducible apply op_store); exact HS2.out; exact rfl; exact rfl; clear HS2)
            | ((with_reducible apply op_conv); exact HCV2.out _; exact rfl)
            | (go_at_call 55; (
                 refine HR3.out.mono ?_
                 rintro e V4 h4
                 obtain ⟨t, hb, x, rfl, rfl, sv⟩ := h4.some
                 have hx := HX3.out.1.step t
                 have hx2 : BX 25 W q #[.slice none 0 0, .slice none 0 0, .int .i64 0, .int .i64 0] (W.heap.size + 1) #[.slice p1 ns.length c1, .slice p2 rs.length c2, .int .i64 (toI a), .int .i64 (toI b)] (V4.setCell ⟨W.heap.size + 1, 3, none⟩ (.int .i64 (toI b))) := by simpa using hx.set 3 (.int .i64 (toI b))
                 have sv2 := hx.setR sv 3 (.int .i64 (toI b))
                 have HS3 := Lib.hid (put_i64 (n := toI b) (cellOf (o := 3) hx.p3 rfl) (freeOf (o := 3) hx.p3))
                 have hq2 := hx.ql
                 have hlt := HX3.out.1.lt
                 have ho1 : GOwn NOwn 70 3 (V4.setCell ⟨W.heap.size + 1, 3, none⟩ (.int .i64 (toI b))) (fun b => W.heap.size + 2 ≤ b) (.slice p1 ns.length c1) ns := HX3.out.2.1.keep el_node fun b hb1 hl => (Below.heap_setCell _ _ _ _ (by show b ≠ W.heap.size + 1; omega)).trans (t.keep b hl (by omega))
                 have ho2 : GOwn ROwn 72 5 (V4.setCell ⟨W.heap.size + 1, 3, none⟩ (.int .i64 (toI b))) (fun b => W.heap.size + 2 ≤ b) (.slice p2 rs.length c2) rs := HX3.out.2.2.keep el_rel fun b hb1 hl => (Below.heap_setCell _ _ _ _ (by show b ≠ W.heap.size + 1; omega)).trans (t.keep b hl (by omega))
                 have HX4 := Lib.hid (And.intro hx2 (And.intro ho1 ho2))
                 obtain ⟨f1, f2, f3, f4, f5, f6, f7⟩ := hx2.fin st_graph rfl rfl (by simp [Value.oneCell']) sv2
                 have HL5 := Lib.hid f1
                 have HS5 := Lib.hid f2
                 have HLD := Lib.hid f3
                 have hno : GrOwn ((V4.setCell ⟨W.heap.size + 1, 3, none⟩ (.int .i64 (toI b))).setRow W.heap.size #[.slice p1 ns.length c1, .slice p2 rs.length c2, .int .i64 (toI a), .int .i64 (toI b)]) (fun b => W.heap.size ≤ b) ⟨ns, rs, toI a, toI b⟩ #[.slice p1 ns.length c1, .slice p2 rs.length c2, .int .i64 (toI a), .int .i64 (toI b)] := ⟨_, _, rfl, (ho1.keep el_node fun b hb1 hl => f7 b (by omega)).imp el_node fun b _ hb1 => by omega, (ho2.keep el_rel fun b hb1 hl => f7 b (by omega)).imp el_rel fun b _ hb1 => by omega⟩
                 have HF := Lib.hid (And.intro f4 (And.intro f5 (And.intro f6 hno)))
                 clear f1 f2 f3 f4 f5 f6 f7 hno
                 clear h4 t hb sv hx hx2 sv2 hq2 hlt HR3  ho1 ho2))
            | ((with_reducible apply op_store); exact HS3.out; exact rfl; exact rfl; clear HS3)
            | ((with_reducible apply op_conv); exact HCV3.out _; exact rfl)
            | ((with_reducible apply op_load); exact HL5.out; exact rfl)
            | ((with_reducible apply op_store); exact HS5.out; exact rfl; exact rfl))
          refine bodyPost_ret (results_cell_one rfl _ _ ⟨W.heap.size, 0, none⟩ _ rfl HLD.out) rfl ?_
          exact Reads.of HE.out ⟨HF.out.2.1, HF.out.2.2.1, _, rfl, ⟨_, rfl, HF.out.2.2.2⟩, HF.out.1⟩
end Go.Proofs.YthdfedfholmbmaaGreatDoor

namespace Go.Proofs.YthdfedfholmbmaaGreatDoor
open Go.RowKit
theorem rvalue1_any {w W : World} {q : Nat} {l : List UInt8} (h : RSt 141 w W q l) (hl : l.length ≤ 1000000) :
    Calls Tryz.prog 70 #[.pointer (some ⟨q, 0, none⟩)] W (Reads w W q (rdVal 64 l) (okVal W)) := by
  have hq := h.lt
  have hb := below_new (w := W) (.cells #[.int .i64 0, .bool false, .int .i64 0, .string ⟨#[]⟩, .slice none 0 0, .slice none 0 0] 48)
  have hbx := heap_alloc_new W (.cells #[.int .i64 0, .bool false, .int .i64 0, .string ⟨#[]⟩, .slice none 0 0, .slice none 0 0] 48)
  have hlt := Array.getElem?_eq_some_iff.1 hbx |>.1
  have HV := Lib.hid (rvalue_any w 64 (Nat.le_refl _) _ q l (h.below hb) hl)
  have HB := Lib.hid (And.intro hb (And.intro hbx hlt))
  clear hb hbx hlt h
  cases hr : rdVal 64 l with
  | none =>
    rw [hr] at HV
    go_enter Tryz.func70, Tryz.ntmps70
    go_wp2_with (go_at_call 71; refine HV.out.mono ?_; rintro e W6 h6; obtain ⟨t6, hb6, rfl⟩ := h6.none; have H6 := Lib.hid (And.intro t6 hb6); clear h6 t6 hb6)
    exact ⟨rfl, Reads.of rfl ⟨(RTo.of_below HB.out.1).trans H6.out.1, H6.out.2, rfl⟩⟩
  | some p =>
    obtain ⟨v, s⟩ := p
    rw [hr] at HV
    go_enter Tryz.func70, Tryz.ntmps70
    go_wp2_with (first
      | (go_at_call 71; refine HV.out.mono ?_; rintro e W6 h6
         (
          obtain ⟨t6, hb6, x6, rfl, ⟨cs, rfl, hown⟩, s6⟩ := h6.some
          have hbx6 := (t6.keep _ HB.out.2.2 (by omega)).trans HB.out.2.1
          have hcs := hown.size6
          have hsz := t6.size
          have hlt := HB.out.2.2
          have ho : ∀ b, b ≠ W.heap.size → (W6.setRow W.heap.size cs).heap[b]? = W6.heap[b]? := fun b hb => setRow_other W6 _ b _ hb
          have hs6 : (W6.setRow W.heap.size cs).heap.size = W6.heap.size := by simp
          have hB6 := below_row (B := W.heap.size) hb6 (by have := s6.base; omega) cs
          have hto : RTo q W (W6.setRow W.heap.size cs) := ⟨by rw [hs6]; omega, fun b hb1 hq1 => (ho b (by omega)).trans ((t6.keep b (by omega) hq1).trans (HB.out.1.block b hb1))⟩
          have hvo : VOwn (W6.setRow W.heap.size cs) (fun b => W.heap.size ≤ b) v cs := (hown.keep (w' := W6.setRow W.heap.size cs) fun b hb1 _ => ho b (by omega)).imp fun b _ hb1 => by omega
          have HST := Lib.hid (StT.put st_val hcs hown.ones hbx6 rfl)
          have HLD := Lib.hid (StT.get st_val hcs (setRow_heap W6 W.heap.size _ cs _ _ hbx6))
          have HF := Lib.hid (And.intro hto (And.intro hB6 (And.intro hvo (s6.other hB6 (ho q (by omega))))))
          clear h6 t6 hb6 hown s6 hbx6 ho hs6 hB6 hto hvo HV hcs hsz hlt))
      | ((with_reducible apply op_store); exact HST.out; exact rfl; exact rfl))
    refine bodyPost_ret (results_cell_one rfl _ _ ⟨W.heap.size, 0, none⟩ _ rfl HLD.out) rfl ?_
    exact Reads.of rfl ⟨HF.out.1, HF.out.2.1, _, rfl, ⟨_, rfl, HF.out.2.2.1⟩, HF.out.2.2.2⟩
end Go.Proofs.YthdfedfholmbmaaGreatDoor

namespace Go.Proofs.YthdfedfholmbmaaGreatDoor
open Go.RowKit
theorem exec_lenb {a : Act} {w : World} {o : Oper} {x : Operand} {p : Option Addr} {n c : Nat} (ho : o.op = .call { callee := .builtin .len, args := #[x], argTypes := #[26] }) (hx : a.eval x = .slice p n c) : (execOp a.eval o).run Tryz.prog w = .ok (.value (.int .i64 (n : Int))) w := by
  unfold execOp
  simp only [ho, resolve, invoke, builtin, Sem.run_bind, Sem.run_pure, Result.andThen_ok, List.map_toArray, List.map_cons, List.map_nil, hx]
  simp [go_sem]
def dNum (b : List UInt8) : Option (Nat × List UInt8) := (rdN 0 0 b).map fun p => (p.1, [])
def kNum (b : List UInt8) : Nat := match rdN 0 0 b with
  | some p => b.length - p.2.length
  | none => 0
theorem rnumber1_any {w W : World} {q bb nb : Nat} {l : List UInt8} {p : Option Addr} {c : Nat} (h : RSt 141 w W q l) (hl : l.length ≤ 1000000) (hbb : W.heap[bb]? = some (.cells #[.slice p l.length c] 26 (0, 0))) (hnb : W.heap[nb]? = some (.cells #[.int .i64 0] 3 (0, 0)))
    (hne1 : bb ≠ q) (hne2 : nb ≠ q) (hwn : w.heap.size ≤ nb) :
    Calls Tryz.prog 93 #[.pointer (some ⟨q, 0, none⟩), .pointer (some ⟨bb, 0, none⟩), .pointer (some ⟨nb, 0, none⟩)] W fun e W2 => W.heap.size ≤ W2.heap.size ∧ Below w.heap.size w W2 ∧ (∀ b, b < W.heap.size → b ≠ q → b ≠ nb → W2.heap[b]? = W.heap[b]?) ∧
      ((rdN 0 0 l = none ∧ e = given ∧ W2.heap[nb]? = W.heap[nb]?) ∨ ∃ n r, rdN 0 0 l = some (n, r) ∧ e = .returned (.int .u64 (n : Int)) ∧ RSt 141 w W2 q [] ∧ W2.heap[nb]? = some (.cells #[.int .i64 ((l.length - r.length : Nat) : Int)] 3 (0, 0))) := by
  have hn := rnumber_any h
  have hlb := (Array.getElem?_eq_some_iff.1 hbb).1
  have hln := (Array.getElem?_eq_some_iff.1 hnb).1
  have hbase := h.base
  have HN := Lib.hid hn
  have HB := Lib.hid (And.intro hbb (And.intro hnb (And.intro hlb (And.intro hln hbase))))
  clear h hn hbb hnb hlb hln
  cases hr : rdN 0 0 l with
  | none =>
    rw [hr] at HN
    go_enter Tryz.func93, Tryz.ntmps93
    go_wp2_with (go_at_call 55; refine HN.out.mono ?_; rintro e W6 h6; obtain ⟨t6, hb6, rfl⟩ := h6.none; have H6 := Lib.hid (And.intro t6 hb6); clear h6 t6 hb6)
    refine ⟨rfl, H6.out.1.size, H6.out.2, fun b hb hq _ => H6.out.1.keep b hb hq, .inl ⟨?_, rfl, H6.out.1.keep nb HB.out.2.2.2.1 hne2⟩⟩
    first | rfl | trivial
  | some pp =>
    obtain ⟨n, r⟩ := pp
    have hle := rdN_le hr
    rw [hr] at HN
    go_enter Tryz.func93, Tryz.ntmps93
    go_wp2_with (go_at_call 55; refine HN.out.mono ?_; rintro e W6 h6; obtain ⟨t6, hb6, x6, rfl, rfl, s6⟩ := h6.some; have H6 := Lib.hid (And.intro t6 (And.intro hb6 s6)); clear h6 t6 hb6 s6)
    obtain ⟨t6, hb6, s6⟩ := H6.out
    obtain ⟨hbb, hnb, hlb, hln, hbase⟩ := HB.out
    obtain ⟨p6, c6, hq6, _⟩ := s6.box
    have hs6 := t6.size
    have hbb6 := (t6.keep bb hlb hne1).trans hbb
    have hnb6 := (t6.keep nb hln hne2).trans hnb
    have hsb : ∀ W' : World, (binOp .sub 3 (.int .i64 (l.length : Int)) (.int .i64 (r.length : Int))).run Tryz.prog W' = .ok (.int .i64 ((l.length - r.length : Nat) : Int)) W' := by
      intro W'
      have e : IntKind.i64.wrap ((l.length : Int) - (r.length : Int)) = ((l.length - r.length : Nat) : Int) := by rw [IntKind.wrap_i64]; omega
      simp [go_sem, e]
    have hf1 : ∀ W' : World, (Instr.fieldAt 141 (.pointer (some ⟨q, 0, none⟩)) 0).run Tryz.prog W' = .ok (.pointer (some ⟨q, 0, none⟩)) W' := by intro W'; simp [go_sem]
    have hf2 : ∀ W' : World, (Instr.fieldAt 139 (.pointer (some ⟨q, 0, none⟩)) 0).run Tryz.prog W' = .ok (.pointer (some ⟨q, 0, none⟩)) W' := by intro W'; simp [go_sem]
    have hbbd : W6.drew.heap[bb]? = some (.cells #[.slice p l.length c] 26 (0, 0)) := hbb6
    have hqd : W6.drew.heap[q]? = some (.cells #[.slice p6 r.length c6] 141 (0, 0)) := hq6
    have hnd : W6.drew.heap[nb]? = some (.cells #[.int .i64 0] 3 (0, 0)) := hnb6
    have hst := put_int (n := ((l.length - r.length : Nat) : Int)) (cellOf (o := 0) hnd rfl) (freeOf (o := 0) hnd)
    refine plain_region_draws (fun W => W.cell? ⟨bb, 0, none⟩ = some (.slice p l.length c) ∧ W.cell? ⟨q, 0, none⟩ = some (.slice p6 r.length c6)) (by kernel_rfl) ⟨cellOf (o := 0) hbbd rfl, cellOf (o := 0) hqd rfl⟩ (fun hS => ?_)
    refine tk 0 8 (v := .slice p l.length c) rfl rfl (fun W hW => exec_load rfl rfl (run_load1 (w := W) Tryz.underlying26 rfl hW.1)) ?_
    simp only [Act.put, sA, sZ, sS]
    refine tk 1 9 (v := .int .i64 (l.length : Int)) rfl rfl (fun W hW => exec_lenb rfl rfl) ?_
    simp only [Act.put, sA, sZ, sS]
    refine tk 2 10 (v := .pointer (some ⟨q, 0, none⟩)) rfl rfl (fun W hW => exec_move rfl rfl) ?_
    simp only [Act.put, sA, sZ, sS]
    refine tk 3 11 (v := .pointer (some ⟨q, 0, none⟩)) rfl rfl (fun W hW => rfl) ?_
    simp only [Act.put, sA, sZ, sS]
    refine tk 4 12 (v := .pointer (some ⟨q, 0, none⟩)) rfl rfl (fun W hW => exec_fieldAddr rfl rfl (hf1 W)) ?_
    simp only [Act.put, sA, sZ, sS]
    refine tk 5 13 (v := .pointer (some ⟨q, 0, none⟩)) rfl rfl (fun W hW => exec_fieldAddr rfl rfl (hf2 W)) ?_
    simp only [Act.put, sA, sZ, sS]
    refine tk 6 14 (v := .slice p6 r.length c6) rfl rfl (fun W hW => exec_load rfl rfl (run_load1 (w := W) Tryz.underlying26 rfl hW.2)) ?_
    simp only [Act.put, sA, sZ, sS]
    refine tk 7 15 (v := .int .i64 (r.length : Int)) rfl rfl (fun W hW => exec_lenb rfl rfl) ?_
    simp only [Act.put, sA, sZ, sS]
    refine tk 8 16 (v := .int .i64 ((l.length - r.length : Nat) : Int)) rfl rfl (fun W hW => exec_bini rfl rfl rfl (hsb W)) ?_
    simp only [Act.put, sA, sZ, sS]
    refine onlySkip 9 rfl rfl (by kernel_rfl) rfl (exec_store rfl rfl rfl hst) (.inl (by kernel_rfl)) ?_
    refine done (by kernel_rfl) ?_ _
    have ho1 : ∀ b, b ≠ nb → (W6.drew.setCell ⟨nb, 0, none⟩ (.int .i64 ((l.length - r.length : Nat) : Int))).heap[b]? = W6.heap[b]? := fun b hb => Below.heap_setCell W6.drew ⟨nb, 0, none⟩ _ b hb
    have hn7 : (W6.drew.setCell ⟨nb, 0, none⟩ (.int .i64 ((l.length - r.length : Nat) : Int))).heap[nb]? = some (.cells #[.int .i64 ((l.length - r.length : Nat) : Int)] 3 (0, 0)) := heap_setCell_same W6.drew nb 0 _ _ _ hnd
    have hs7 : (W6.drew.setCell ⟨nb, 0, none⟩ (.int .i64 ((l.length - r.length : Nat) : Int))).heap.size = W6.heap.size := by
      have : W6.drew.heap.size = W6.heap.size := rfl
      rw [← this]; simp [World.setCell]
    have hb7 : Below w.heap.size w (W6.drew.setCell ⟨nb, 0, none⟩ (.int .i64 ((l.length - r.length : Nat) : Int))) := belowSet hb6.drew hwn _
    have hq7 := (ho1 q (fun e => hne2 e.symm)).trans hq6
    generalize W6.drew.setCell ⟨nb, 0, none⟩ (.int .i64 ((l.length - r.length : Nat) : Int)) = W7 at *
    have hst2 := put_bytesR (p := none) (n := 0) (c := 0) (cellOf (o := 0) hq7 rfl) (freeOf (o := 0) hq7)
    have ho2 : ∀ b, b ≠ q → (W7.setCell ⟨q, 0, none⟩ (.slice none 0 0)).heap[b]? = W7.heap[b]? := fun b hb => Below.heap_setCell W7 ⟨q, 0, none⟩ _ b hb
    have hs8 : (W7.setCell ⟨q, 0, none⟩ (.slice none 0 0)).heap.size = W7.heap.size := by simp [World.setCell]
    have hb8 : Below w.heap.size w (W7.setCell ⟨q, 0, none⟩ (.slice none 0 0)) := belowSet hb7 hbase _
    have hq8 : (W7.setCell ⟨q, 0, none⟩ (.slice none 0 0)).heap[q]? = some (.cells #[.slice none ([] : List UInt8).length 0] 141 (0, 0)) := heap_setCell_same W7 q 0 _ _ _ hq7
    have hrs : RSt 141 w (W7.setCell ⟨q, 0, none⟩ (.slice none 0 0)) q [] := ⟨hb8, hbase, none, 0, hq8, none, 0, rfl, ⟨Nat.le_refl _, by simp [maxLen], fun _ => rfl⟩, fun ad had => by cases had⟩
    have HST := Lib.hid hst2
    have HF := Lib.hid (show W.heap.size ≤ (W7.setCell ⟨q, 0, none⟩ (.slice none 0 0)).heap.size ∧ Below w.heap.size w (W7.setCell ⟨q, 0, none⟩ (.slice none 0 0)) ∧ (∀ b, b < W.heap.size → b ≠ q → b ≠ nb → (W7.setCell ⟨q, 0, none⟩ (.slice none 0 0)).heap[b]? = W.heap[b]?) ∧ RSt 141 w (W7.setCell ⟨q, 0, none⟩ (.slice none 0 0)) q [] ∧ (W7.setCell ⟨q, 0, none⟩ (.slice none 0 0)).heap[nb]? = some (.cells #[.int .i64 ((l.length - r.length : Nat) : Int)] 3 (0, 0)) from
      ⟨by omega, hb8, fun b hb h1 h2 => (ho2 b h1).trans ((ho1 b h2).trans (t6.keep b hb h1)), hrs, (ho2 nb hne2).trans hn7⟩)
    clear hS t6 hb6 s6 hbb hnb hlb hln hq6 hs6 hbb6 hnb6 hsb hf1 hf2 hbbd hqd hnd hst ho1 hn7 hs7 hb7 hq7 hst2 ho2 hs8 hb8 hq8 hrs HB H6 HN
    go_wp2_with ((with_reducible apply op_store); exact HST.out; exact rfl; exact rfl)
    go_ret
    obtain ⟨g1, g2, g3, g4, g5⟩ := HF.out
    exact ⟨g1, g2, g3, .inr ⟨n, r, rfl, rfl, g4, g5⟩⟩
theorem anyNumber (n : Int) (w : World) : Calls Tryz.prog 94 #[.int .u64 n] w fun e w' => e = .returned (.bool true) ∧ Below w.heap.size w w' := by
  go_enter Tryz.func94, Tryz.ntmps94
  go_wp2
  go_ret
  exact ⟨rfl, Below.refl _ _⟩
end Go.Proofs.YthdfedfholmbmaaGreatDoor
