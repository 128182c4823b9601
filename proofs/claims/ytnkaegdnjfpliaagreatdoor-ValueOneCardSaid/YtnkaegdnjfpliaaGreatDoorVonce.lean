/- value.Once. -/
import Derived.Test.YtnkaegdnjfpliaaGreatDoorVsmap
import Derived.Test.YtnkaegdnjfpliaaGreatDoorVtell
import Derived.Test.YtnkaegdnjfpliaaGreatDoorVstor
import Derived.Test.YtnkaegdnjfpliaaGreatDoorVcopy
namespace Go.Proofs.YtnkaegdnjfpliaaGreatDoor
set_option linter.unusedSimpArgs false
set_option linter.unusedVariables false
open Go.RowKit

/-! ### Each once, by its text -/
def stepO (out : List V) (v : V) : List V := if textV v ∈ out.map textV then out else out ++ [v]
def onceL (l : List V) : List V := l.foldl stepO []
theorem onceL_snoc (l : List V) (v : V) : onceL (l ++ [v]) = stepO (onceL l) v := by unfold onceL; rw [List.foldl_append]; rfl
theorem fold_mem (t : List UInt8) : ∀ (l out : List V), t ∈ (l.foldl stepO out).map textV ↔ t ∈ out.map textV ∨ t ∈ l.map textV := by
  intro l
  induction l with
  | nil => intro out; simp
  | cons a r ih =>
    intro out
    rw [List.foldl_cons, ih]
    unfold stepO
    by_cases h : textV a ∈ out.map textV
    · rw [if_pos h, List.map_cons, List.mem_cons]
      constructor
      · rintro (h1 | h1)
        · exact .inl h1
        · exact .inr (.inr h1)
      · rintro (h1 | h1 | h1)
        · exact .inl h1
        · exact .inl (h1 ▸ h)
        · exact .inr h1
    · rw [if_neg h, List.map_append, List.mem_append, List.map_cons, List.map_nil, List.mem_singleton, List.map_cons, List.mem_cons]
      constructor
      · rintro ((h1 | h1) | h1)
        · exact .inl h1
        · exact .inr (.inl h1)
        · exact .inr (.inr h1)
      · rintro (h1 | h1 | h1)
        · exact .inl (.inl h1)
        · exact .inl (.inr h1)
        · exact .inr h1
theorem once_mem (l : List V) (t : List UInt8) : t ∈ (onceL l).map textV ↔ t ∈ l.map textV := by
  unfold onceL; rw [fold_mem]; simp
theorem once_length (l : List V) : (onceL l).length ≤ l.length := by
  have : ∀ (l out : List V), (l.foldl stepO out).length ≤ out.length + l.length := by
    intro l
    induction l with
    | nil => intro out; simp
    | cons a r ih =>
      intro out
      rw [List.foldl_cons]
      have h1 := ih (stepO out a)
      have h2 : (stepO out a).length ≤ out.length + 1 := by unfold stepO; split <;> simp
      simp only [List.length_cons]
      omega
  have := this l []
  simpa [onceL] using this
/-- How often a text was met. -/
def metN (l : List V) (t : List UInt8) : Nat := (l.map textV).count t
def metM (l : List V) : List UInt8 → Option Value := fun t => if metN l t = 0 then none else some (.int .i64 (metN l t : Int))
theorem metN_le (l : List V) (t : List UInt8) : metN l t ≤ l.length := by unfold metN; have := List.count_le_length (a := t) (l := l.map textV); simpa using this
theorem metN_zero (l : List V) (t : List UInt8) : metN l t = 0 ↔ t ∉ (onceL l).map textV := by
  rw [once_mem]; unfold metN; exact List.count_eq_zero
theorem metN_snoc (l : List V) (v : V) (t : List UInt8) : metN (l ++ [v]) t = metN l t + if t = textV v then 1 else 0 := by
  unfold metN
  rw [List.map_append, List.count_append, List.map_cons, List.map_nil, List.count_cons, List.count_nil]
  by_cases h : t = textV v
  · subst h; simp
  · have : (textV v == t) = false := by rw [beq_eq_false_iff_ne]; exact fun e => h e.symm
    simp [h, this]
theorem metM_snoc (l : List V) (v : V) : updS (metM l) (textV v) (.int .i64 ((metN l (textV v) : Int) + 1)) = metM (l ++ [v]) := by
  funext t
  unfold updS metM
  rw [metN_snoc]
  by_cases h : t = textV v
  · subst h; simp
  · simp [h]
theorem metM_get (l : List V) (t : List UInt8) : (metM l t).getD (.int .i64 0) = .int .i64 (metN l t : Int) := by
  unfold metM
  by_cases h : metN l t = 0
  · rw [if_pos h, h]; rfl
  · rw [if_neg h]; rfl
/-! ### What lies so far -/
/-- The first blocks of a world. -/
def Cut (W : World) (n : Nat) : World := { W with heap := W.heap.extract 0 n }
theorem Cut.size {W : World} {n : Nat} (h : n ≤ W.heap.size) : (Cut W n).heap.size = n := by simp [Cut]; omega
theorem Cut.below {W : World} {n : Nat} (h : n ≤ W.heap.size) : Below (Cut W n).heap.size (Cut W n) W := by
  refine ⟨rfl, rfl, rfl, by rw [Cut.size h]; exact h, fun b hb => ?_⟩
  rw [Cut.size h] at hb
  show W.heap[b]? = (W.heap.extract 0 n)[b]?
  rw [Array.getElem?_extract, if_pos (by omega), Nat.zero_add]
theorem CInv.recut {W W' : World} {n : Nat} {ov : Value} {m : List V} (hn : n ≤ W.heap.size) (h : CInv (Cut W n) W ov m) (hs : W.heap.size ≤ W'.heap.size) (hk : ∀ b, n ≤ b → b < W.heap.size → W'.heap[b]? = W.heap[b]?) : CInv (Cut W' n) W' ov m := by
  obtain ⟨xs, h1, h2, _⟩ := h
  rw [Cut.size hn] at h1 h2
  have e : (Cut W' n).heap.size = n := Cut.size (by omega)
  refine ⟨xs, ?_, ?_, Cut.below (by omega)⟩
  · rw [e]; exact h1.keep fun b hb hl => hk b hb hl
  · rw [e]; exact h2.keep fun b hb hl => hk b hb.1 hl
structure OInv (w : World) (mb : Nat) (W : World) (o : Value) (m : List V) : Prop where
  le : w.heap.size ≤ mb
  lt : mb < W.heap.size
  out : CInv (Cut W (mb + 1)) W o (onceL m)
  met : StrMap W mb (metM m)
  below : Below w.heap.size w W
theorem OInv.keep {w W W' : World} {mb : Nat} {o : Value} {m : List V} (h : OInv w mb W o m) (g : Below W.heap.size W W') : OInv w mb W' o m :=
  ⟨h.le, by have := h.lt; have := g.size; omega, h.out.recut h.lt g.size fun b _ hb => g.block b hb, h.met.grow g, below_trans h.below g⟩
theorem OInv.start {w w1 : World} (hb : Below w.heap.size w w1) : OInv w w1.heap.size (w1.alloc (.map #[] 0)) (.slice none 0 0) [] :=
  ⟨hb.size, by simp, CInv.start (Cut.below (by simp)), by
    have := StrMap.made w1
    exact this, below_trans hb (below_new _)⟩
theorem OInv.next {w w3 W2 : World} {mb : Nat} {o : Value} {m m' : List V} (hle : w.heap.size ≤ mb) (hlt : mb < w3.heap.size) (hc : CInv (Cut w3 (mb + 1)) W2 o m') (hm : StrMap w3 mb (metM m)) (hb : Below w.heap.size w w3) (e : onceL m = m') : OInv w mb W2 o m := by
  subst e
  obtain ⟨xs, h1, h2, h3⟩ := hc
  have hs : (Cut w3 (mb + 1)).heap.size = mb + 1 := Cut.size hlt
  rw [hs] at h1 h2 h3
  have hsz : mb + 1 ≤ W2.heap.size := by have := h3.size; rw [hs] at this; exact this
  have hcut : ∀ b, b < mb + 1 → W2.heap[b]? = w3.heap[b]? := fun b hb => by
    rw [h3.block b hb]
    show (w3.heap.extract 0 (mb + 1))[b]? = _
    rw [Array.getElem?_extract, if_pos (by omega), Nat.zero_add]
  refine ⟨hle, hsz, ⟨xs, ?_, ?_, Cut.below hsz⟩, hm.of_heap (hcut mb (by omega)), ⟨h3.os.trans hb.os, h3.tape.trans hb.tape, h3.output.trans hb.output, by omega, fun b hlt => (hcut b (by omega)).trans (hb.block b hlt)⟩⟩
  · rw [Cut.size hsz]; exact h1
  · rw [Cut.size hsz]; exact h2
set_option maxRecDepth 100000 in
set_option maxHeartbeats 4000000 in
theorem once_any {w : World} {p : Option Addr} {c : Nat} {l : List V} (hE : Env w) (hl : LRd w p c l) (hr : ∀ v ∈ l, rngV v) (ht : totVs l ≤ 1000000) :
    Calls Tryz.prog 49 #[.slice p l.length c] w fun e w' => ∃ vl, e = .returned vl ∧ LOwn w' (fun b => w.heap.size ≤ b) vl (if fineL l then onceL l else []) ∧ Below w.heap.size w w' := by
  have HF := Lib.hid (fine_any hE hl (by omega))
  have hlen := totVs_length l
  have z1 : (l.length : Int) ≤ 1000000 := by omega
  cases hf : fineL l with
  | false =>
    rw [hf] at HF
    clear hE hl hr ht hlen
    go_enter Tryz.func49, Tryz.ntmps49
    go_wp2_with (go_at_call 62; refine HF.out.mono ?_; rintro e w1 ⟨rfl, hb⟩; have HB := Lib.hid hb; clear hb)
    go_ret
    exact ⟨_, rfl, ⟨[], ⟨⟨rfl, .inl ⟨rfl, rfl⟩⟩, fun g hg => by simp [Value.ownBlock] at hg⟩, rfl⟩, HB.out⟩
  | true =>
    rw [hf] at HF
    have hmay := fineL_may hf
    have HV := Lib.hid (And.intro hl (And.intro hE (fun (v : V) (hv : v ∈ l) (W : World) (x : Array Value) => And.intro (tell_any v (hmay v hv) (hr v hv) (by have := totVs_mem hv; omega) W x) (And.intro (copy_any v (by have := totVs_mem hv; omega) W x) (text_len v (hr v hv))))))
    have HN := Lib.hid (show l.length ≤ 1000000 by omega)
    clear hE hl hr ht hlen hmay
    have hmm := @run_makeMap Tryz.prog
    go_enter Tryz.func49, Tryz.ntmps49
    go_wp2_with (go_at_call 62; refine HF.out.mono ?_; rintro e w1 ⟨rfl, hb⟩; have HS := Lib.hid (OInv.start hb); clear hb)
    go_loopw [4, 14] (fun o i W => ∃ j : Nat, j ≤ l.length ∧ i = .int .i64 (j : Int) ∧ Hid (OInv w w1.heap.size W o (l.take j))) (fun _ i _ => l.length - (intOf i).toNat)
    case atStart => exact ⟨0, Nat.zero_le _, rfl, HS⟩
    case round =>
      clear HS
      obtain ⟨j, hj, rfl, HJ⟩ := hrel
      by_cases hlt : j < l.length
      · have hlt1 : j + 1 ≤ l.length := hlt
        obtain ⟨g1, o1, pk1, ck1, pl1, cl1, rfl, ⟨b0, b1, b2, b3, b4, b5⟩, hv1⟩ := HV.out.1.at hlt
        have a0 := belowCell HJ.out.below (ltOf b0) b0
        have a1 := belowCell HJ.out.below (ltOf b1) b1
        have a2 := belowCell HJ.out.below (ltOf b2) b2
        have a3 := belowCell HJ.out.below (ltOf b3) b3
        have a4 := belowCell HJ.out.below (ltOf b4) b4
        have a5 := belowCell HJ.out.below (ltOf b5) b5
        clear b0 b1 b2 b3 b4 b5
        have hcall := HV.out.2.2 l[j] (List.getElem_mem hlt)
        have htk : l.take (j + 1) = l.take j ++ [l[j]] := List.take_succ_eq_append_getElem hlt
        have hml := metN_le (l.take j) (textV l[j])
        have hml2 : (l.take j).length ≤ 1000000 := by rw [List.length_take]; have := HN.out; omega
        have hz := metN_zero (l.take j) (textV l[j])
        have hol : (onceL (l.take j)).length ≤ 1000000 := by have := once_length (l.take j); omega
        generalize l[j] = s1 at *
        have HD := Lib.hid (And.intro htk (And.intro hcall (And.intro hv1 (And.intro HV.out.2.1 hol))))
        have zs : (strB (textV s1)).size = (textV s1).length := rfl
        clear hcall hv1 htk zs
        by_cases hc : metN (l.take j) (textV s1) = 0
        · have hst : onceL (l.take j ++ [s1]) = onceL (l.take j) ++ [s1] := by rw [onceL_snoc]; unfold stepO; rw [if_neg (hz.1 hc)]
          have HC := Lib.hid (And.intro hc hst)
          clear hc hst hz hml hml2 hol
          go_wp2_with (first
            | (go_at_call 67
               (
                 refine ((HD.out.2.1 _ _).1 (HD.out.2.2.2.1.b (below_trans HJ.out.below (below_new _))) (HD.out.2.2.1.below (below_trans HJ.out.below (below_new _)))).mono ?_
                 rintro e w2 ⟨rfl, hb⟩
                 have hb2 := below_trans (below_new _) hb
                 have hI := HJ.out.keep hb2
                 have hbox := belowBlk hb (by simp) (heap_alloc_new wr (.cells #[.int .i64 s1.kind, .bool s1.b, .int .i64 s1.n, .string (strB s1.text), .slice pk1 s1.keys.length ck1, .slice pl1 s1.list.length cl1] 26))
                 have hlk := run_lookup_str (P := Tryz.prog) (T := 98) hI.met Tryz.underlying98 Tryz.underlying9 (fun w => Tryz.zeroValue3 w) (textV s1)
                 rw [metM_get, HC.out.1] at hlk
                 obtain ⟨w3, hup, hT3, hM3, hz3⟩ := run_mapUpdate_str (P := Tryz.prog) (T := 98) hI.met Tryz.underlying98 Tryz.underlying9 (textV s1) (.int .i64 1)
                 have hM4 : StrMap w3 w1.heap.size (metM (l.take j ++ [s1])) := by
                   have := metM_snoc (l.take j) s1
                   rw [HC.out.1] at this
                   rw [← this]; exact hM3
                 have hlk2 := run_lookup_str (P := Tryz.prog) (T := 98) hM4 Tryz.underlying98 Tryz.underlying9 (fun w => Tryz.zeroValue3 w) (textV s1)
                 rw [metM_get, metN_snoc, HC.out.1] at hlk2
                 rw [if_pos rfl] at hlk2
                 have hne : wr.heap.size ≠ w1.heap.size := fun e => by have := HJ.out.lt; omega
                 have hbox3 := hT3.heap hbox hne
                 have hout := hI.out.recut hI.lt (by omega : w2.heap.size ≤ w3.heap.size) fun b h1 h2 => hT3.block b h2 (by omega)
                 have hb3 : Below w.heap.size w w3 := hT3.below hI.below (fun b h1 h2 => by have := hI.le; omega) hI.below.size
                 have H1 := Lib.hid hlk
                 have H2 := Lib.hid hup
                 have H3 := Lib.hid hlk2
                 have H4 := Lib.hid (get_val hbox3)
                 have HI := Lib.hid (And.intro hout (And.intro hM4 (And.intro hb3 (And.intro hI.le (show w1.heap.size < w3.heap.size by have := hI.lt; omega)))))
                 clear hb hb2 hI hbox hlk hup hT3 hM3 hz3 hM4 hlk2 hne hbox3 hout hb3))
            | (refine wpList_run rfl (exec_lookup rfl rfl rfl H1.out) ?_; simp only [Act.put, List.setIfInBounds_toArray, List.set_cons_zero, List.set_cons_succ])
            | (refine wpList_mapUpdate rfl rfl rfl rfl rfl H2.out ?_)
            | (refine wpList_run rfl (exec_lookup rfl rfl rfl H3.out) ?_; simp only [Act.put, List.setIfInBounds_toArray, List.set_cons_zero, List.set_cons_succ])
            | (refine wpList_load rfl _ _ _ rfl rfl H4.out ?_)
            | (go_at_call 51
               (
                 refine ((HD.out.2.1 _ _).2.1 (HD.out.2.2.1.below HI.out.2.2.1)).mono ?_
                 rintro e w4 ⟨x, rfl, hx, hb⟩
                 obtain ⟨v', W2, ha, hO⟩ := HI.out.1.step (Nat.le_refl _) hb hx HD.out.2.2.2.2 24
                 obtain ⟨vk, vl, rfl, _⟩ := hx.open
                 have Ha := Lib.hid ha
                 have HO := Lib.hid hO
                 clear ha hO hx hb))
            | (refine wpList_append rfl rfl rfl rfl Ha.out ?_))
          go_roundw
          case rel => exact ⟨j + 1, hlt1, by go_num, Lib.hid (OInv.next HI.out.2.2.2.1 HI.out.2.2.2.2 HO.out (by rw [HD.out.1]; exact HI.out.2.1) HI.out.2.2.1 (by rw [HD.out.1]; exact HC.out.2))⟩
          case measure => simp [intOf]; omega
        · have hst : onceL (l.take j ++ [s1]) = onceL (l.take j) := by
            rw [onceL_snoc]; unfold stepO
            by_cases hin : textV s1 ∈ (onceL (l.take j)).map textV
            · rw [if_pos hin]
            · exact absurd (hz.2 hin) hc
          have HC := Lib.hid hst
          generalize hcn : metN (l.take j) (textV s1) = cn at *
          have hN : (cn : Int) + 1 ≤ 1000001 := by omega
          have hq : ((cn : Int) + 1 == 1) = false := by rw [beq_eq_false_iff_ne]; omega
          have hq2 : ¬ (cn : Int) = 0 := by omega
          have HCN := Lib.hid hcn
          clear hcn hst hz hml hml2 hol
          go_wp2_with (first
            | (go_at_call 67
               (
                 refine ((HD.out.2.1 _ _).1 (HD.out.2.2.2.1.b (below_trans HJ.out.below (below_new _))) (HD.out.2.2.1.below (below_trans HJ.out.below (below_new _)))).mono ?_
                 rintro e w2 ⟨rfl, hb⟩
                 have hb2 := below_trans (below_new _) hb
                 have hI := HJ.out.keep hb2
                 have hlk := run_lookup_str (P := Tryz.prog) (T := 98) hI.met Tryz.underlying98 Tryz.underlying9 (fun w => Tryz.zeroValue3 w) (textV s1)
                 rw [metM_get, HCN.out] at hlk
                 obtain ⟨w3, hup, hT3, hM3, hz3⟩ := run_mapUpdate_str (P := Tryz.prog) (T := 98) hI.met Tryz.underlying98 Tryz.underlying9 (textV s1) (.int .i64 ((cn : Int) + 1))
                 have hM4 : StrMap w3 w1.heap.size (metM (l.take j ++ [s1])) := by
                   have := metM_snoc (l.take j) s1
                   rw [HCN.out] at this
                   rw [← this]; exact hM3
                 have hlk2 := run_lookup_str (P := Tryz.prog) (T := 98) hM4 Tryz.underlying98 Tryz.underlying9 (fun w => Tryz.zeroValue3 w) (textV s1)
                 rw [metM_get, metN_snoc, HCN.out, if_pos rfl] at hlk2
                 have hout := hI.out.recut hI.lt (by omega : w2.heap.size ≤ w3.heap.size) fun b h1 h2 => hT3.block b h2 (by omega)
                 have hb3 : Below w.heap.size w w3 := hT3.below hI.below (fun b h1 h2 => by have := hI.le; omega) hI.below.size
                 have hlk3 : (Instr.lookup 98 (.map (some w1.heap.size)) (.string (strB (textV s1))) false).run Tryz.prog w3 = .ok (.int .i64 ((cn : Int) + 1)) w3 := by
                   rw [hlk2]; simp
                 have H1 := Lib.hid hlk
                 have H2 := Lib.hid hup
                 have H3 := Lib.hid hlk3
                 have HI := Lib.hid (And.intro hout (And.intro hM4 (And.intro hb3 (And.intro hI.le (show w1.heap.size < w3.heap.size by have := hI.lt; omega)))))
                 clear hb hb2 hI hlk hup hT3 hM3 hz3 hM4 hlk2 hlk3 hout hb3))
            | (refine wpList_run rfl (exec_lookup rfl rfl rfl H1.out) ?_; simp only [Act.put, List.setIfInBounds_toArray, List.set_cons_zero, List.set_cons_succ])
            | (refine wpList_mapUpdate rfl rfl rfl rfl rfl H2.out ?_)
            | (refine wpList_run rfl (exec_lookup rfl rfl rfl H3.out) ?_; simp only [Act.put, List.setIfInBounds_toArray, List.set_cons_zero, List.set_cons_succ]))
          go_roundw
          case rel => exact ⟨j + 1, hlt1, by go_num, Lib.hid (by rw [HD.out.1]; exact ⟨HI.out.2.2.2.1, HI.out.2.2.2.2, by rw [HC.out]; exact HI.out.1, HI.out.2.1, HI.out.2.2.1⟩)⟩
          case measure => simp [intOf]; omega
      · obtain rfl : j = l.length := by omega
        go_wp2
        go_ret
        have h := HJ.out
        rw [List.take_length] at h
        refine ⟨_, rfl, ?_, h.below⟩
        have := h.out.own
        rw [Cut.size h.lt] at this
        exact this.imp fun b _ hb => by have := h.le; omega
end Go.Proofs.YtnkaegdnjfpliaaGreatDoor
