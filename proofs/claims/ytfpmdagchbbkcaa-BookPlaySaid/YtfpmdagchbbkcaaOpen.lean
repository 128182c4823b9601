/- The book: Look, Open, and what a book tells. -/
import Derived.Test.YtfpmdagchbbkcaaLook2
namespace Go.Proofs.Ytfpmdagchbbkcaa
open Go.RowKit

/-- What `look` answers, in one form. -/
def Looks (R : Int → Value → Int → World → Prop) (e : Ending) (w' : World) : Prop :=
  ∃ (n : Int) (a1 : Option Addr) (n1 c1 : Nat) (c : Int), e = .returned (.tuple #[.agg (stC n (.slice a1 n1 c1) false), .int .i64 c]) ∧ R n (.slice a1 n1 c1) c w'
theorem looks_of_code {q : Option Addr} {w : World} {c : Int} (h : Calls Try.prog 35 #[.pointer q] w fun e w' => e = .returned (.tuple #[st0, .int .i64 c]) ∧ Below w.heap.size w w') :
    Calls Try.prog 35 #[.pointer q] w (Looks fun n v c' w' => n = 0 ∧ v = .slice none 0 0 ∧ c' = c ∧ Below w.heap.size w w') := by
  refine h.mono ?_
  rintro e w' ⟨rfl, hb⟩
  exact ⟨0, none, 0, 0, c, rfl, rfl, rfl, rfl, hb⟩
/-- What a look at a disk yields. -/
def Told (w : World) (d : DM) (n : Int) (v : Value) (c : Int) (w' : World) : Prop :=
  Below w.heap.size w w' ∧ match looked d with
    | none => n = 0 ∧ v = .slice none 0 0 ∧ c = 310
    | some (n', l) => n = n' ∧ c = 0 ∧ OwnB w' v l ∧ (∀ g, v.ownBlock = some g → w.heap.size ≤ g)
theorem Told.below {w : World} {d : DM} {n : Int} {v : Value} {c : Int} {w' w'' : World} (h : Told w d n v c w') (g : Below w'.heap.size w' w'') : Told w d n v c w'' := by
  refine ⟨h.1.trans (g.mono h.1.size), ?_⟩
  have h2 := h.2
  cases hl : looked d with
  | none => rw [hl] at h2; exact h2
  | some x => rw [hl] at h2; exact ⟨h2.1, h2.2.1, h2.2.2.1.below g, h2.2.2.2⟩
theorem looks_of_disk {w : World} {F : Nat → Prop} {a : Nat} {d : DM} (hd : Disk w F a d) (h4 : 4 ≤ d.size) :
    Calls Try.prog 35 #[.pointer (some ⟨a, 0, none⟩)] w (Looks (Told w d)) := by
  refine (look_ok hd h4).mono ?_
  rintro e w' ⟨hb, hm⟩
  cases hl : looked d with
  | none =>
    rw [hl] at hm
    exact ⟨0, none, 0, 0, 310, hm, hb, by rw [hl]; exact ⟨rfl, rfl, rfl⟩⟩
  | some x =>
    obtain ⟨n, l⟩ := x
    rw [hl] at hm
    obtain ⟨v, he, hown, hg⟩ := hm
    obtain ⟨a1, c1, rfl⟩ := hown.shape
    exact ⟨n, a1, _, c1, 0, he, hb, by rw [hl]; exact ⟨rfl, rfl, hown, hg⟩⟩

set_option maxRecDepth 100000 in
set_option maxHeartbeats 1000000 in
theorem Look_gen (q : Option Addr) (w : World) (R : Int → Value → Int → World → Prop) (hl : Calls Try.prog 35 #[.pointer q] w (Looks R)) (hR : ∀ n v c w' w'', R n v c w' → Below w'.heap.size w' w'' → R n v c w'') :
    Calls Try.prog 15 #[.pointer q] w fun e w' => ∃ n v c, e = .returned (.tuple #[v, .int .i64 n, .int .i64 c]) ∧ R n v c w' := by
  have Hl := Lib.hid hl
  have HR := Lib.hid hR
  clear hl hR
  go_enter Try.func15, Try.ntmps15
  go_wp2_with (go_at_call 35; refine Hl.out.mono ?_; rintro e w1 ⟨n, a1, n1, c1, c, rfl, hr⟩; have Hr := Lib.hid hr; clear hr; simp only [stC])
  have hN : (w1.alloc (.cells #[.int .i64 n, .slice a1 n1 c1, .bool false] 50)).drew.heap[w1.heap.size]? = some (.cells #[.int .i64 n, .slice a1 n1 c1, .bool false] 50 (0, 0)) := heap_alloc_new _ _
  have hb : Below w1.heap.size w1 (w1.alloc (.cells #[.int .i64 n, .slice a1 n1 c1, .bool false] 50)).drew := ((Below.refl _ _).alloc (Nat.le_refl _) _).drew
  have Hfin := Lib.hid (HR.out _ _ _ _ _ Hr.out hb)
  have hf1 : ∀ W' : World, (Instr.fieldAt 50 (.pointer (some ⟨w1.heap.size, 0, none⟩)) 1).run Try.prog W' = .ok (.pointer (some ⟨w1.heap.size, 1, none⟩)) W' := by intro W'; simp [go_sem]
  have hf0 : ∀ W' : World, (Instr.fieldAt 50 (.pointer (some ⟨w1.heap.size, 0, none⟩)) 0).run Try.prog W' = .ok (.pointer (some ⟨w1.heap.size, 0, none⟩)) W' := by intro W'; simp [go_sem]
  clear hb
  refine plain_region_draws (fun W => W.heap[w1.heap.size]? = some (.cells #[.int .i64 n, .slice a1 n1 c1, .bool false] 50 (0, 0))) (by kernel_rfl) hN (fun hS => ?_)
  refine take 0 12 (v := .pointer (some ⟨w1.heap.size, 1, none⟩)) rfl rfl (by kernel_rfl) (by kernel_rfl) (by kernel_rfl) rfl (fun W hW => exec_fieldAddr rfl rfl (hf1 W)) hS ?_
  simp only [Act.put, List.setIfInBounds_toArray, List.set_cons_zero, List.set_cons_succ]
  refine take 1 13 (v := .slice a1 n1 c1) rfl rfl (by kernel_rfl) (by kernel_rfl) (by kernel_rfl) rfl (fun W hW => exec_load rfl rfl (run_load1 (w := W) Try.underlying34 rfl (cellOf hW rfl))) hS ?_
  simp only [Act.put, List.setIfInBounds_toArray, List.set_cons_zero, List.set_cons_succ]
  refine take 2 14 (v := .pointer (some ⟨w1.heap.size, 0, none⟩)) rfl rfl (by kernel_rfl) (by kernel_rfl) (by kernel_rfl) rfl (fun W hW => exec_fieldAddr rfl rfl (hf0 W)) hS ?_
  simp only [Act.put, List.setIfInBounds_toArray, List.set_cons_zero, List.set_cons_succ]
  refine take 3 15 (v := .int .i64 n) rfl rfl (by kernel_rfl) (by kernel_rfl) (by kernel_rfl) rfl (fun W hW => exec_load rfl rfl (run_load1 (w := W) Try.underlying2 rfl (cellOf hW rfl))) hS ?_
  simp only [Act.put, List.setIfInBounds_toArray, List.set_cons_zero, List.set_cons_succ]
  refine take 4 16 (v := .int .i64 c) rfl rfl (by kernel_rfl) (by kernel_rfl) (by kernel_rfl) rfl (fun W hW => exec_move rfl rfl) hS ?_
  simp only [Act.put, List.setIfInBounds_toArray, List.set_cons_zero, List.set_cons_succ]
  refine take 5 2 (v := .slice a1 n1 c1) rfl rfl (by kernel_rfl) (by kernel_rfl) (by kernel_rfl) rfl (fun W hW => exec_assign rfl rfl) hS ?_
  simp only [Act.put, List.setIfInBounds_toArray, List.set_cons_zero, List.set_cons_succ]
  refine take 6 3 (v := .int .i64 n) rfl rfl (by kernel_rfl) (by kernel_rfl) (by kernel_rfl) rfl (fun W hW => exec_assign rfl rfl) hS ?_
  simp only [Act.put, List.setIfInBounds_toArray, List.set_cons_zero, List.set_cons_succ]
  refine take 7 4 (v := .int .i64 c) rfl rfl (by kernel_rfl) (by kernel_rfl) (by kernel_rfl) rfl (fun W hW => exec_assign rfl rfl) hS ?_
  simp only [Act.put, List.setIfInBounds_toArray, List.set_cons_zero, List.set_cons_succ]
  refine done (by kernel_rfl) ?_ _
  clear hN hS hf0 hf1
  go_wp2
  go_ret3
  exact ⟨_, _, _, rfl, Hfin.out⟩

/-- A book lies at block b. -/
def BookAt (w : World) (b : Nat) (n : Int) (v : Value) (dead : Bool) (q : Option Addr) : Prop := w.heap[b]? = some (.cells #[.int .i64 n, v, .bool dead, .pointer q] 52 (0, 0))
set_option maxRecDepth 100000 in
set_option maxHeartbeats 1000000 in
theorem Open_gen (q : Option Addr) (w : World) (R : Int → Value → Int → World → Prop) (hl : Calls Try.prog 35 #[.pointer q] w (Looks R)) (hR : ∀ n v c w' w'', R n v c w' → Below w'.heap.size w' w'' → R n v c w'') :
    Calls Try.prog 16 #[.pointer q] w fun e w' => ∃ n v c, R n v c w' ∧ ((c ≠ 0 ∧ e = .returned (.tuple #[.pointer none, .int .i64 c])) ∨ (c = 0 ∧ ∃ b, e = .returned (.tuple #[.pointer (some ⟨b, 0, none⟩), .int .i64 0]) ∧ BookAt w' b n v false q ∧ (∃ w0, R n v c w0 ∧ Below w0.heap.size w0 w' ∧ w0.heap.size ≤ b))) := by
  have Hl := Lib.hid hl
  have HR := Lib.hid hR
  clear hl hR
  go_enter Try.func16, Try.ntmps16
  go_wp2_with (go_at_call 35; refine Hl.out.mono ?_; rintro e w1 ⟨n, a1, n1, c1, c, rfl, hr⟩; have Hr := Lib.hid hr; clear hr; simp only [stC])
  · rename_i hc
    have hb : Below w1.heap.size w1 (w1.alloc (.cells #[.int .i64 n, .slice a1 n1 c1, .bool false] 50)) := (Below.refl _ _).alloc (Nat.le_refl _) _
    go_ret2
    exact ⟨_, _, _, HR.out _ _ _ _ _ Hr.out hb, .inl ⟨by simpa using hc, rfl⟩⟩
  · rename_i hc
    have hb : Below w1.heap.size w1 (w1.alloc (.cells #[.int .i64 n, .slice a1 n1 c1, .bool false] 50)) := (Below.refl _ _).alloc (Nat.le_refl _) _
    go_ret2
    exact ⟨_, _, _, HR.out _ _ _ _ _ Hr.out (hb.alloc (by simp) _), .inr ⟨by simpa using hc, _, rfl, by unfold BookAt; have := heap_alloc_new (w1.alloc (.cells #[.int .i64 n, .slice a1 n1 c1, .bool false] 50)) (.cells #[.int .i64 n, .slice a1 n1 c1, .bool false, .pointer q] 52); simpa using this, w1, Hr.out, hb.alloc (by simp) _, by omega⟩⟩

theorem exec_mul512 {a : Act} {w : World} {o : Oper} {x y : Operand} {h : Nat} (ho : o.op = .binOp .mul 3 x y 3) (hx : a.eval x = .int .i64 (h : Int)) (hy : a.eval y = .int .i64 512) (hh : (h : Int) ≤ 65536) :
    (execOp a.eval o).run Try.prog w = .ok (.value (.int .i64 ((h : Int) * 512))) w := by
  have hw : IntKind.i64.wrap ((h : Int) * 512) = (h : Int) * 512 := by simp [IntKind.wrap, IntKind.signed, IntKind.bits]; omega
  unfold execOp; rw [ho]; simp only [hx, hy]
  simp [go_sem, hw]

/-! ### what a book tells -/
theorem bnone_nil (w : World) : Calls Try.prog 36 #[.pointer none] w fun e w' => e = .returned (.bool true) ∧ w = w' := by
  go_enter Try.func36, Try.ntmps36
  go_wp2
  go_ret
  exact ⟨rfl, rfl⟩
theorem bnone_at {w : World} {b : Nat} {n : Int} {v : Value} {dead : Bool} {q : Option Addr} (h : BookAt w b n v dead q) :
    Calls Try.prog 36 #[.pointer (some ⟨b, 0, none⟩)] w fun e w' => e = .returned (.bool q.isNone) ∧ w = w' := by
  have c3 : w.cell? ⟨b, 3, none⟩ = some (.pointer q) := cellOf h rfl
  cases q with
  | none =>
    go_enter Try.func36, Try.ntmps36
    go_wp2
    go_ret
    exact ⟨rfl, rfl⟩
  | some ad =>
    go_enter Try.func36, Try.ntmps36
    go_wp2
    go_ret
    exact ⟨rfl, rfl⟩

/-- A pointer to no book: nil, or a book without a disk. -/
def NoBook (w : World) (p : Option Addr) : Prop := p = none ∨ ∃ b n v dead, p = some ⟨b, 0, none⟩ ∧ BookAt w b n v dead none
theorem NoBook.below {w w' : World} {p : Option Addr} (h : NoBook w p) (g : Below w.heap.size w w') : NoBook w' p := by
  rcases h with h | ⟨b, n, v, dead, h, hb⟩
  · exact .inl h
  · exact .inr ⟨b, n, v, dead, h, belowBlk g (Array.getElem?_eq_some_iff.1 hb).1 hb⟩
theorem bnone_no {w : World} {p : Option Addr} (h : NoBook w p) : Calls Try.prog 36 #[.pointer p] w fun e w' => e = .returned (.bool true) ∧ w = w' := by
  rcases h with rfl | ⟨b, n, v, dead, rfl, hb⟩
  · exact bnone_nil w
  · exact bnone_at hb
theorem bytes_no {w : World} {p : Option Addr} (h : NoBook w p) : Calls Try.prog 17 #[.pointer p] w fun e w' => e = .returned (.slice none 0 0) ∧ w = w' := by
  have Hn := Lib.hid (bnone_no h)
  clear h
  go_enter Try.func17, Try.ntmps17
  go_wp2_with (go_at_call 36; refine Hn.out.mono ?_; rintro e w' ⟨rfl, rfl⟩)
  go_ret
  exact ⟨rfl, rfl⟩
theorem state_no {w : World} {p : Option Addr} (h : NoBook w p) : Calls Try.prog 22 #[.pointer p] w fun e w' => e = .returned (.tuple #[.int .i64 0, .int .i64 0, .bool false]) ∧ w = w' := by
  have Hn := Lib.hid (bnone_no h)
  clear h
  go_enter Try.func22, Try.ntmps22
  go_wp2_with (go_at_call 36; refine Hn.out.mono ?_; rintro e w' ⟨rfl, rfl⟩)
  go_ret3
  exact ⟨rfl, rfl⟩
theorem disk_no {w : World} {p : Option Addr} (h : NoBook w p) : Calls Try.prog 23 #[.pointer p] w fun e w' => e = .returned (.pointer none) ∧ w = w' := by
  have Hn := Lib.hid (bnone_no h)
  clear h
  go_enter Try.func23, Try.ntmps23
  go_wp2_with (go_at_call 36; refine Hn.out.mono ?_; rintro e w' ⟨rfl, rfl⟩)
  go_ret
  exact ⟨rfl, rfl⟩
theorem bytes_at {w : World} {b : Nat} {n : Int} {v : Value} {dead : Bool} {ad : Addr} (h : BookAt w b n v dead (some ad)) (l : List UInt8) (hown : OwnB w v l) (hlen : l.length ≤ 140737488355328) :
    Calls Try.prog 17 #[.pointer (some ⟨b, 0, none⟩)] w fun e w' => ∃ v', e = .returned v' ∧ OwnB w' v' l ∧ Below w.heap.size w w' ∧ (∀ g, v'.ownBlock = some g → w.heap.size ≤ g) := by
  obtain ⟨a1, c1, rfl⟩ := hown.shape
  have Hn := Lib.hid (bnone_at h)
  have Hc := Lib.hid (clone_any a1 _ c1 l w hown.rd hlen)
  have c1' : w.cell? ⟨b, 1, none⟩ = some (.slice a1 l.length c1) := cellOf h rfl
  clear h hown hlen
  go_enter Try.func17, Try.ntmps17
  go_wp2_with (first
    | (go_at_call 36; refine Hn.out.mono ?_; rintro e w' ⟨rfl, rfl⟩)
    | (go_at_call 37; refine Hc.out.mono ?_; rintro e w1 ⟨v1, rfl, h1, h2, h3⟩; have H1 := Lib.hid (And.intro h1 (And.intro h2 h3)); clear h1 h2 h3))
  go_ret
  exact ⟨_, rfl, H1.out⟩
theorem disk_at {w : World} {b : Nat} {n : Int} {v : Value} {dead : Bool} {ad : Addr} (h : BookAt w b n v dead (some ad)) :
    Calls Try.prog 23 #[.pointer (some ⟨b, 0, none⟩)] w fun e w' => e = .returned (.pointer (some ad)) ∧ w = w' := by
  have Hn := Lib.hid (bnone_at h)
  have c3 : w.cell? ⟨b, 3, none⟩ = some (.pointer (some ad)) := cellOf h rfl
  clear h
  go_enter Try.func23, Try.ntmps23
  go_wp2_with (go_at_call 36; refine Hn.out.mono ?_; rintro e w' ⟨rfl, rfl⟩)
  go_ret
  exact ⟨rfl, rfl⟩

set_option maxRecDepth 100000 in
set_option maxHeartbeats 1000000 in
theorem state_at {w : World} {b a : Nat} {n : Int} {v : Value} {dead : Bool} {F : Nat → Prop} {d : DM} (h : BookAt w b n v dead (some ⟨a, 0, none⟩)) (hd : Disk w F a d) (h4 : 4 ≤ d.size) :
    Calls Try.prog 22 #[.pointer (some ⟨b, 0, none⟩)] w fun e w' => e = .returned (.tuple #[.int .i64 n, .int .i64 ((hf d : Int) * 512), .bool dead]) ∧ Below w.heap.size w w' := by
  have Hn := Lib.hid (bnone_at h)
  have Hh := Lib.hid (half_disk (w := w.drew) (hd.below ((Below.refl _ _).drew)) h4)
  have hdr : BookAt w.drew b n v dead (some ⟨a, 0, none⟩) := h
  have hq0 : (hf d : Int) ≤ 65536 := by have := hd.1.most; unfold hf; omega
  have hA : ∀ W' : World, (Instr.fieldAt 52 (.pointer (some ⟨b, 0, none⟩)) 0).run Try.prog W' = .ok (.pointer (some ⟨b, 0, none⟩)) W' := by intro W'; simp [go_sem]
  have hB : ∀ W' : World, (Instr.fieldAt 52 (.pointer (some ⟨b, 0, none⟩)) 1).run Try.prog W' = .ok (.pointer (some ⟨b, 3, none⟩)) W' := by intro W'; simp [go_sem]
  have hC : ∀ W' : World, (Instr.fieldAt 50 (.pointer (some ⟨b, 0, none⟩)) 0).run Try.prog W' = .ok (.pointer (some ⟨b, 0, none⟩)) W' := by intro W'; simp [go_sem]
  have hD : ∀ W' : World, (Instr.fieldAt 50 (.pointer (some ⟨b, 0, none⟩)) 2).run Try.prog W' = .ok (.pointer (some ⟨b, 2, none⟩)) W' := by intro W'; simp [go_sem]
  clear h hd h4
  go_enter Try.func22, Try.ntmps22
  go_wp2_with (go_at_call 36; refine Hn.out.mono ?_; rintro e w' ⟨rfl, rfl⟩)
  refine plain_region_draws (fun W => BookAt W b n v dead (some ⟨a, 0, none⟩)) (by kernel_rfl) hdr (fun hS => ?_)
  refine take 0 7 (v := .pointer (some ⟨b, 0, none⟩)) rfl rfl (by kernel_rfl) (by kernel_rfl) (by kernel_rfl) rfl (fun W hW => exec_move rfl rfl) hS ?_
  simp only [Act.put, List.setIfInBounds_toArray, List.set_cons_zero, List.set_cons_succ]
  refine take 1 8 (v := .pointer (some ⟨b, 0, none⟩)) rfl rfl (by kernel_rfl) (by kernel_rfl) (by kernel_rfl) rfl (fun W hW => rfl) hS ?_
  simp only [Act.put, List.setIfInBounds_toArray, List.set_cons_zero, List.set_cons_succ]
  refine take 2 9 (v := .pointer (some ⟨b, 0, none⟩)) rfl rfl (by kernel_rfl) (by kernel_rfl) (by kernel_rfl) rfl (fun W hW => exec_fieldAddr rfl rfl (hA W)) hS ?_
  simp only [Act.put, List.setIfInBounds_toArray, List.set_cons_zero, List.set_cons_succ]
  refine take 3 10 (v := .pointer (some ⟨b, 0, none⟩)) rfl rfl (by kernel_rfl) (by kernel_rfl) (by kernel_rfl) rfl (fun W hW => exec_fieldAddr rfl rfl (hC W)) hS ?_
  simp only [Act.put, List.setIfInBounds_toArray, List.set_cons_zero, List.set_cons_succ]
  refine take 4 11 (v := .int .i64 n) rfl rfl (by kernel_rfl) (by kernel_rfl) (by kernel_rfl) rfl (fun W hW => exec_load rfl rfl (run_load1 (w := W) Try.underlying2 rfl (cellOf hW rfl))) hS ?_
  simp only [Act.put, List.setIfInBounds_toArray, List.set_cons_zero, List.set_cons_succ]
  refine take 5 12 (v := .pointer (some ⟨b, 0, none⟩)) rfl rfl (by kernel_rfl) (by kernel_rfl) (by kernel_rfl) rfl (fun W hW => exec_move rfl rfl) hS ?_
  simp only [Act.put, List.setIfInBounds_toArray, List.set_cons_zero, List.set_cons_succ]
  refine take 6 13 (v := .pointer (some ⟨b, 0, none⟩)) rfl rfl (by kernel_rfl) (by kernel_rfl) (by kernel_rfl) rfl (fun W hW => rfl) hS ?_
  simp only [Act.put, List.setIfInBounds_toArray, List.set_cons_zero, List.set_cons_succ]
  refine take 7 14 (v := .pointer (some ⟨b, 3, none⟩)) rfl rfl (by kernel_rfl) (by kernel_rfl) (by kernel_rfl) rfl (fun W hW => exec_fieldAddr rfl rfl (hB W)) hS ?_
  simp only [Act.put, List.setIfInBounds_toArray, List.set_cons_zero, List.set_cons_succ]
  refine take 8 15 (v := .pointer (some ⟨a, 0, none⟩)) rfl rfl (by kernel_rfl) (by kernel_rfl) (by kernel_rfl) rfl (fun W hW => exec_load rfl rfl (run_load1 (w := W) Try.underlying29 rfl (cellOf hW rfl))) hS ?_
  simp only [Act.put, List.setIfInBounds_toArray, List.set_cons_zero, List.set_cons_succ]
  refine take 11 18 (v := .pointer (some ⟨b, 0, none⟩)) rfl rfl (by kernel_rfl) (by kernel_rfl) (by kernel_rfl) rfl (fun W hW => exec_move rfl rfl) hS ?_
  simp only [Act.put, List.setIfInBounds_toArray, List.set_cons_zero, List.set_cons_succ]
  refine take 12 19 (v := .pointer (some ⟨b, 0, none⟩)) rfl rfl (by kernel_rfl) (by kernel_rfl) (by kernel_rfl) rfl (fun W hW => rfl) hS ?_
  simp only [Act.put, List.setIfInBounds_toArray, List.set_cons_zero, List.set_cons_succ]
  refine take 13 20 (v := .pointer (some ⟨b, 0, none⟩)) rfl rfl (by kernel_rfl) (by kernel_rfl) (by kernel_rfl) rfl (fun W hW => exec_fieldAddr rfl rfl (hA W)) hS ?_
  simp only [Act.put, List.setIfInBounds_toArray, List.set_cons_zero, List.set_cons_succ]
  refine take 14 21 (v := .pointer (some ⟨b, 2, none⟩)) rfl rfl (by kernel_rfl) (by kernel_rfl) (by kernel_rfl) rfl (fun W hW => exec_fieldAddr rfl rfl (hD W)) hS ?_
  simp only [Act.put, List.setIfInBounds_toArray, List.set_cons_zero, List.set_cons_succ]
  refine take 15 22 (v := .bool dead) rfl rfl (by kernel_rfl) (by kernel_rfl) (by kernel_rfl) rfl (fun W hW => exec_load rfl rfl (run_load1 (w := W) Try.underlying4 rfl (cellOf hW rfl))) hS ?_
  simp only [Act.put, List.setIfInBounds_toArray, List.set_cons_zero, List.set_cons_succ]
  refine onlyCall 9 16 rfl rfl (by kernel_rfl) rfl (exec_call [.pointer (some ⟨a, 0, none⟩)] rfl rfl Try.func38 (by kernel_rfl) (by kernel_rfl)) ?_
  refine Hh.out.mono ?_
  rintro e w' ⟨rfl, rfl⟩
  refine ⟨_, rfl, .inr hS, ?_⟩
  simp only [Act.put, List.setIfInBounds_toArray, List.set_cons_zero, List.set_cons_succ]
  refine take 10 17 (v := .int .i64 ((hf d : Int) * 512)) rfl rfl (by kernel_rfl) (by kernel_rfl) (by kernel_rfl) rfl (fun W hW => exec_mul512 rfl rfl rfl hq0) hS ?_
  simp only [Act.put, List.setIfInBounds_toArray, List.set_cons_zero, List.set_cons_succ]
  refine take 16 2 (v := .int .i64 n) rfl rfl (by kernel_rfl) (by kernel_rfl) (by kernel_rfl) rfl (fun W hW => exec_assign rfl rfl) hS ?_
  simp only [Act.put, List.setIfInBounds_toArray, List.set_cons_zero, List.set_cons_succ]
  refine take 17 3 (v := .int .i64 ((hf d : Int) * 512)) rfl rfl (by kernel_rfl) (by kernel_rfl) (by kernel_rfl) rfl (fun W hW => exec_assign rfl rfl) hS ?_
  simp only [Act.put, List.setIfInBounds_toArray, List.set_cons_zero, List.set_cons_succ]
  refine take 18 4 (v := .bool dead) rfl rfl (by kernel_rfl) (by kernel_rfl) (by kernel_rfl) rfl (fun W hW => exec_assign rfl rfl) hS ?_
  simp only [Act.put, List.setIfInBounds_toArray, List.set_cons_zero, List.set_cons_succ]
  refine done (by kernel_rfl) ?_ _
  clear hdr hS hA hB hC hD
  go_wp2
  go_ret3
  exact ⟨rfl, (Below.refl _ _).drew⟩
end Go.Proofs.Ytfpmdagchbbkcaa
